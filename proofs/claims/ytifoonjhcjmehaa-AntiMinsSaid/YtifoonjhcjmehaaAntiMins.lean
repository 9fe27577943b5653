/-
  AntiMins: the least ones among any times, and which times have one of them ahead; the call returns true and changes nothing that was in memory.
-/
import Derived.Test.YtifoonjhcjmehaaAntiOpen
namespace Go.Proofs.Ytifoonjhcjmehaa
open Go.ChangeShapes Go.WideShapes Go.ChangeAt Go.RowKit Go.Joins
set_option linter.unusedSimpArgs false
set_option linter.unusedVariables false

set_option maxHeartbeats 400000 in
theorem amins_early {A0 : Option Addr} {n0 c0 : Nat} {a b : Int} (w : World) (h0 : 60 < n0) : Calls Try.prog 6 #[.slice A0 n0 c0, tmv ⟨a, b⟩] w fun e w' => e = .returned (.bool true) ∧ Below w.heap.size w w' := by
  go_enter Try.func6, Try.ntmps6
  go_wp2_with fail
  refine (alive4_any _).mono ?_
  rintro e w1 ⟨rfl, hb⟩
  have K := Blk.on (g := w.heap.size) (t := 33) (cs := #[.int .i64 a, .int .i64 b]) (by repeat (first | exact Blk.at_ _ _ _ (by simp) | refine Blk.alloc ?_ _)) hb
  have HB : Below w.heap.size w w1 := below_after ((Below.refl w.heap.size w).alloc (Nat.le_refl _) _) hb (by simp)
  clear hb
  go_wp2_with fail
  go_ret
  exact ⟨rfl, HB⟩

set_option maxRecDepth 100000 in
set_option maxHeartbeats 4000000 in
theorem amins_main {A0 : Option Addr} {n0 c0 : Nat} {a b : Int} {l0 : List Tm} (w : World) (r0 : Tms w w.heap.size A0 n0 l0) (h0 : ¬ 60 < n0) : Calls Try.prog 6 #[.slice A0 n0 c0, tmv ⟨a, b⟩] w fun e w' => e = .returned (.bool true) ∧ Below w.heap.size w w' := by
  obtain ⟨i0, hi0, hz0, hz1, hz2⟩ := info_parts infoTime
  have H0 := Lib.hid r0
  clear r0
  obtain ⟨r, hr⟩ : ∃ r, hasL l0 ⟨a, b⟩ = r := ⟨_, rfl⟩
  have HR := Lib.hid hr
  have hrr : (r == r) = true := by simp
  clear hr
  go_enter Try.func6, Try.ntmps6
  go_wp2_with fail
  refine (alive4_any _).mono ?_
  rintro e w1 ⟨rfl, hb⟩
  have K := Blk.on (g := w.heap.size) (t := 33) (cs := #[.int .i64 a, .int .i64 b]) (by repeat (first | exact Blk.at_ _ _ _ (by simp) | refine Blk.alloc ?_ _)) hb
  have HB : Below w.heap.size w w1 := below_after ((Below.refl w.heap.size w).alloc (Nat.le_refl _) _) hb (by simp)
  clear hb
  go_wp2_with (at_builtin; refine wpList_append_any _ rfl _ _ 38 rfl w1.heap.size 33 i0 (.agg #[.int .i64 0, .int .i64 0]) 2 16 Try.underlying38 hi0 hz0 hz1 hz2 rfl (by decide) (.slice none 0 0) 0 [] rfl (World.ownsRow_nil _ _ _ _) w.heap.size A0 n0 c0 (tmCells l0) rfl (H0.out.below HB) (tmCells_one _) (by unfold maxLen; omega) (by omega) (Nat.le_refl _) ?_)
  intro v2 w2 hown hg _
  have hown : w2.ownsRow w1.heap.size 33 2 v2 n0 (tmCells l0) := by simpa using hown
  obtain ⟨A2, c2, rfl⟩ := own_slice hown
  have hb : Below w1.heap.size w1 w2 := (Touch.grown hg).below (by simp [Value.ownBlock]) (Nat.le_refl _)
  have K := K.on hb
  have HB := HB.trans (hb.mono HB.size)
  have HT2 := Lib.hid (reads_own hown)
  clear hown hg hb
  go_wp2_with fail
  refine (min_s _ HT2.out (Nat.le_refl _) (by omega)).mono ?_
  rintro e w3 ⟨A3, M3, c3, m3, rfl, hm3, hM3, hT3, hb, _⟩
  have K3 := K.on hb
  have HB := Lib.hid (HB.trans (hb.mono HB.size))
  have HM3 := Lib.hid hm3
  have HT3 := Lib.hid hT3
  have HR3 := Lib.hid ((hm3.has ⟨a, b⟩).trans HR.out)
  have HSAME := Lib.hid (hm3.unique (minR_isMin l0))
  clear hm3 hT3 hb K
  go_wp2_with fail
  refine wp_region_held_drew (S := (fun W => Below w3.heap.size w3 W ∧ ∀ i, W.cell? ⟨w.heap.size, i, none⟩ = (#[.int .i64 a, .int .i64 b] : Array Value)[i]?)) (by kernel_rfl) (⟨(Below.refl _ _).drew, K3.c⟩) (fun hHeld => ?_)
  refine wpAnyH_take (i := 0) (v := ?_) rfl (by kernel_rfl) (by kernel_rfl) (by kernel_rfl) (fun _ _ _ h => h) (Or.inl ⟨by rfl, ?_⟩) hHeld ?_
  rotate_left
  · intro W hS
    try dsimp only at hS
    go_simp
    try with_reducible rfl
  try simp only [List.getElem_toArray, List.getElem_cons_succ, List.getElem_cons_zero, Act.put, List.setIfInBounds_toArray, List.set_cons_zero, List.set_cons_succ]
  refine wpAnyH_take (i := 1) (v := ?_) rfl (by kernel_rfl) (by kernel_rfl) (by kernel_rfl) (fun _ _ _ h => h) (Or.inl ⟨by rfl, ?_⟩) hHeld ?_
  rotate_left
  · intro W hS
    try dsimp only at hS
    go_simp
    try with_reducible rfl
  try simp only [List.getElem_toArray, List.getElem_cons_succ, List.getElem_cons_zero, Act.put, List.setIfInBounds_toArray, List.set_cons_zero, List.set_cons_succ]
  refine wpAnyH_ready (rs := [2]) (by kernel_rfl) (by simp) ?_
  refine AllReadyH.cons rfl (fun K hK => ?_) AllReadyH.nil
  go_simp
  refine (rmin_s _ (H0.out.below (HB.out.trans (hHeld.1.mono HB.out.size))) (Nat.le_trans HB.out.size hHeld.1.size) (by omega)).mono ?_
  rintro e w4 ⟨A4, M4, c4, rfl, hM4, hT4, hb⟩
  have HT4 := Lib.hid hT4
  clear hT4
  refine hK.out _ _ (keepB K3 (below_after hHeld.1 hb hHeld.1.size)) (fun hHeld => ?_)
  clear hK K
  try simp only [List.getElem_toArray, List.getElem_cons_succ, List.getElem_cons_zero, Act.put, List.setIfInBounds_toArray, List.set_cons_zero, List.set_cons_succ]
  refine wpAnyH_ready (rs := [3]) (by kernel_rfl) (by simp) ?_
  refine AllReadyH.cons rfl (fun K hK => ?_) AllReadyH.nil
  go_simp
  refine (same_b (b := true) _ (HT3.out.below hHeld.1) HT4.out ⟨fun _ => HSAME.out, fun _ => rfl⟩ (by omega) (by omega)).mono ?_
  rintro e w5 ⟨rfl, hb⟩
  refine hK.out _ _ (keepB K3 (below_after hHeld.1 hb hHeld.1.size)) (fun hHeld => ?_)
  clear hK K
  try simp only [List.getElem_toArray, List.getElem_cons_succ, List.getElem_cons_zero, Act.put, List.setIfInBounds_toArray, List.set_cons_zero, List.set_cons_succ]
  refine wpAnyH_take (i := 4) (v := ?_) rfl (by kernel_rfl) (by kernel_rfl) (by kernel_rfl) (fun _ _ _ h => h) (Or.inl ⟨by rfl, ?_⟩) hHeld ?_
  rotate_left
  · intro W hS
    try dsimp only at hS
    go_simp
    try with_reducible rfl
  try simp only [List.getElem_toArray, List.getElem_cons_succ, List.getElem_cons_zero, Act.put, List.setIfInBounds_toArray, List.set_cons_zero, List.set_cons_succ]
  refine wpAnyH_take (i := 5) (v := ?_) rfl (by kernel_rfl) (by kernel_rfl) (by kernel_rfl) (fun _ _ _ h => h) (Or.inl ⟨by rfl, ?_⟩) hHeld ?_
  rotate_left
  · intro W hS
    try dsimp only at hS
    go_simp
    try with_reducible rfl
  try simp only [List.getElem_toArray, List.getElem_cons_succ, List.getElem_cons_zero, Act.put, List.setIfInBounds_toArray, List.set_cons_zero, List.set_cons_succ]
  refine wpAnyH_take (i := 6) (v := ?_) rfl (by kernel_rfl) (by kernel_rfl) (by kernel_rfl) (fun _ _ _ h => h) (Or.inl ⟨by rfl, ?_⟩) hHeld ?_
  rotate_left
  · intro W hS
    try dsimp only at hS
    go_simp
    try with_reducible rfl
  try simp only [List.getElem_toArray, List.getElem_cons_succ, List.getElem_cons_zero, Act.put, List.setIfInBounds_toArray, List.set_cons_zero, List.set_cons_succ]
  refine wpAnyH_take (i := 8) (v := ?_) rfl (by kernel_rfl) (by kernel_rfl) (by kernel_rfl) (fun _ _ _ h => h) (Or.inl ⟨by rfl, ?_⟩) hHeld ?_
  rotate_left
  · intro W hS
    try dsimp only at hS
    go_simp
    try with_reducible rfl
  try simp only [List.getElem_toArray, List.getElem_cons_succ, List.getElem_cons_zero, Act.put, List.setIfInBounds_toArray, List.set_cons_zero, List.set_cons_succ]
  refine wpAnyH_take (i := 9) (v := ?_) rfl (by kernel_rfl) (by kernel_rfl) (by kernel_rfl) (fun _ _ _ h => h) (Or.inl ⟨by rfl, ?_⟩) hHeld ?_
  rotate_left
  · intro W hS
    try dsimp only at hS
    go_simp
    try with_reducible rfl
  try simp only [List.getElem_toArray, List.getElem_cons_succ, List.getElem_cons_zero, Act.put, List.setIfInBounds_toArray, List.set_cons_zero, List.set_cons_succ]
  refine wpAnyH_ready (rs := [7]) (by kernel_rfl) (by simp) ?_
  refine AllReadyH.cons rfl (fun K hK => ?_) AllReadyH.nil
  go_simp
  refine (has_b _ (H0.out.below (HB.out.trans (hHeld.1.mono HB.out.size))) (Nat.le_trans HB.out.size hHeld.1.size) (by omega) HR.out).mono ?_
  rintro e w5 ⟨rfl, hb⟩
  refine hK.out _ _ (keepB K3 (below_after hHeld.1 hb hHeld.1.size)) (fun hHeld => ?_)
  clear hK K
  try simp only [List.getElem_toArray, List.getElem_cons_succ, List.getElem_cons_zero, Act.put, List.setIfInBounds_toArray, List.set_cons_zero, List.set_cons_succ]
  refine wpAnyH_ready (rs := [10]) (by kernel_rfl) (by simp) ?_
  refine AllReadyH.cons rfl (fun K hK => ?_) AllReadyH.nil
  go_simp
  refine (rhas_b _ (H0.out.below (HB.out.trans (hHeld.1.mono HB.out.size))) (Nat.le_trans HB.out.size hHeld.1.size) (by omega) HR.out).mono ?_
  rintro e w5 ⟨rfl, hb⟩
  refine hK.out _ _ (keepB K3 (below_after hHeld.1 hb hHeld.1.size)) (fun hHeld => ?_)
  clear hK K
  try simp only [List.getElem_toArray, List.getElem_cons_succ, List.getElem_cons_zero, Act.put, List.setIfInBounds_toArray, List.set_cons_zero, List.set_cons_succ]
  refine wpAnyH_take (i := 11) (v := ?_) rfl (by kernel_rfl) (by kernel_rfl) (by kernel_rfl) (fun _ _ _ h => h) (Or.inl ⟨by rfl, ?_⟩) hHeld ?_
  rotate_left
  · intro W hS
    try dsimp only at hS
    go_simp
    try with_reducible rfl
  try simp only [List.getElem_toArray, List.getElem_cons_succ, List.getElem_cons_zero, Act.put, List.setIfInBounds_toArray, List.set_cons_zero, List.set_cons_succ]
  refine wpAnyH_take (i := 12) (v := ?_) rfl (by kernel_rfl) (by kernel_rfl) (by kernel_rfl) (fun _ _ _ h => h) (Or.inl ⟨by rfl, ?_⟩) hHeld ?_
  rotate_left
  · intro W hS
    try dsimp only at hS
    go_simp
    try with_reducible rfl
  try simp only [List.getElem_toArray, List.getElem_cons_succ, List.getElem_cons_zero, Act.put, List.setIfInBounds_toArray, List.set_cons_zero, List.set_cons_succ]
  refine wpAnyH_take (i := 13) (v := ?_) rfl (by kernel_rfl) (by kernel_rfl) (by kernel_rfl) (fun _ _ _ h => h) (Or.inl ⟨by rfl, ?_⟩) hHeld ?_
  rotate_left
  · intro W hS
    try dsimp only at hS
    go_simp
    try with_reducible rfl
  try simp only [List.getElem_toArray, List.getElem_cons_succ, List.getElem_cons_zero, Act.put, List.setIfInBounds_toArray, List.set_cons_zero, List.set_cons_succ]
  refine wpAnyH_take (i := 14) (v := ?_) rfl (by kernel_rfl) (by kernel_rfl) (by kernel_rfl) (fun _ _ _ h => h) (Or.inl ⟨by rfl, ?_⟩) hHeld ?_
  rotate_left
  · intro W hS
    try dsimp only at hS
    go_simp
    try with_reducible rfl
  try simp only [List.getElem_toArray, List.getElem_cons_succ, List.getElem_cons_zero, Act.put, List.setIfInBounds_toArray, List.set_cons_zero, List.set_cons_succ]
  refine wpAnyH_take (i := 15) (v := ?_) rfl (by kernel_rfl) (by kernel_rfl) (by kernel_rfl) (fun _ _ _ h => h) (Or.inl ⟨by rfl, ?_⟩) hHeld ?_
  rotate_left
  · intro W hS
    try dsimp only at hS
    go_simp
    try with_reducible rfl
  try simp only [List.getElem_toArray, List.getElem_cons_succ, List.getElem_cons_zero, Act.put, List.setIfInBounds_toArray, List.set_cons_zero, List.set_cons_succ]
  refine wpAnyH_take (i := 17) (v := ?_) rfl (by kernel_rfl) (by kernel_rfl) (by kernel_rfl) (fun _ _ _ h => h) (Or.inl ⟨by rfl, ?_⟩) hHeld ?_
  rotate_left
  · intro W hS
    try dsimp only at hS
    go_simp
    try with_reducible rfl
  try simp only [List.getElem_toArray, List.getElem_cons_succ, List.getElem_cons_zero, Act.put, List.setIfInBounds_toArray, List.set_cons_zero, List.set_cons_succ]
  refine wpAnyH_take (i := 18) (v := ?_) rfl (by kernel_rfl) (by kernel_rfl) (by kernel_rfl) (fun _ _ _ h => h) (Or.inl ⟨by rfl, ?_⟩) hHeld ?_
  rotate_left
  · intro W hS
    try dsimp only at hS
    go_simp
    try with_reducible rfl
  try simp only [List.getElem_toArray, List.getElem_cons_succ, List.getElem_cons_zero, Act.put, List.setIfInBounds_toArray, List.set_cons_zero, List.set_cons_succ]
  refine wpAnyH_ready (rs := [16]) (by kernel_rfl) (by simp) ?_
  refine AllReadyH.cons rfl (fun K hK => ?_) AllReadyH.nil
  go_simp
  refine (has_b _ (HT3.out.below hHeld.1) hHeld.1.size (by omega) HR3.out).mono ?_
  rintro e w5 ⟨rfl, hb⟩
  refine hK.out _ _ (keepB K3 (below_after hHeld.1 hb hHeld.1.size)) (fun hHeld => ?_)
  clear hK K
  try simp only [List.getElem_toArray, List.getElem_cons_succ, List.getElem_cons_zero, Act.put, List.setIfInBounds_toArray, List.set_cons_zero, List.set_cons_succ]
  refine wpAnyH_ready (rs := [19]) (by kernel_rfl) (by simp) ?_
  refine AllReadyH.cons rfl (fun K hK => ?_) AllReadyH.nil
  go_simp
  refine (has_b _ (H0.out.below (HB.out.trans (hHeld.1.mono HB.out.size))) (Nat.le_trans HB.out.size hHeld.1.size) (by omega) HR.out).mono ?_
  rintro e w5 ⟨rfl, hb⟩
  refine hK.out _ _ (keepB K3 (below_after hHeld.1 hb hHeld.1.size)) (fun hHeld => ?_)
  clear hK K
  try simp only [List.getElem_toArray, List.getElem_cons_succ, List.getElem_cons_zero, Act.put, List.setIfInBounds_toArray, List.set_cons_zero, List.set_cons_succ]
  refine wpAnyH_take (i := 20) (v := ?_) rfl (by kernel_rfl) (by kernel_rfl) (by kernel_rfl) (fun _ _ _ h => h) (Or.inl ⟨by rfl, ?_⟩) hHeld ?_
  rotate_left
  · intro W hS
    try dsimp only at hS
    go_simp
    try with_reducible rfl
  try simp only [List.getElem_toArray, List.getElem_cons_succ, List.getElem_cons_zero, Act.put, List.setIfInBounds_toArray, List.set_cons_zero, List.set_cons_succ]
  refine wpAnyH_take (i := 21) (v := ?_) rfl (by kernel_rfl) (by kernel_rfl) (by kernel_rfl) (fun _ _ _ h => h) (Or.inl ⟨by rfl, ?_⟩) hHeld ?_
  rotate_left
  · intro W hS
    try dsimp only at hS
    go_simp
    try with_reducible rfl
  try simp only [List.getElem_toArray, List.getElem_cons_succ, List.getElem_cons_zero, Act.put, List.setIfInBounds_toArray, List.set_cons_zero, List.set_cons_succ]
  refine wpAnyH_take (i := 22) (v := ?_) rfl (by kernel_rfl) (by kernel_rfl) (by kernel_rfl) (fun _ _ _ h => h) (Or.inl ⟨by rfl, ?_⟩) hHeld ?_
  rotate_left
  · intro W hS
    try dsimp only at hS
    go_simp
    try with_reducible rfl
  try simp only [List.getElem_toArray, List.getElem_cons_succ, List.getElem_cons_zero, Act.put, List.setIfInBounds_toArray, List.set_cons_zero, List.set_cons_succ]
  refine wpAnyH_done (by kernel_rfl) ?_ _
  go_wp2_with fail
  go_ret
  exact ⟨rfl, HB.out.trans (hHeld.1.mono HB.out.size)⟩
theorem antiMins_walk (a b : Int) {A0 : Option Addr} {n0 c0 : Nat} {l0 : List Tm} (w : World) (r0 : Tms w w.heap.size A0 n0 l0) (_ : n0 ≤ maxLen) (_ : n0 ≤ c0) : Calls Try.prog 6 #[.slice A0 n0 c0, tmv ⟨a, b⟩] w fun e w' => e = .returned (.bool true) ∧ Below w.heap.size w w' := by
  by_cases h0 : 60 < n0
  · exact amins_early w h0
  · exact amins_main w r0 h0

namespace antiMins
set_option maxRecDepth 100000 in
theorem contract (H : Type) (enc : TypeId × Value → H) (W : World) (base : Nat) (args : Array Value) (ds gs : List (DataW H)) (before : List MemPlace)
    (hval : ∀ (j : Nat) t v, Try.f6.params[j]? = some t → args[j]? = some v → Value.okWide Try.prog W .any base t v)
    (hW : DataW.Whole enc Try.prog Try.f6.params.toList Rows.antiMinsSpec.vars false W args.toList ds gs before) :
    Calls Try.prog 6 args W fun e W' => ∃ v, e = .returned v ∧ Rows.antiMinsSpec.post enc Try.prog Try.f6 false true false false W args v W' := by
  have hWc := hW
  obtain ⟨p, q, hA0, hV, _, _, _⟩ := hW
  have hA : DataW.TrodAll enc Try.prog W 0 (fun _ => true) true Try.f6.params.toList args.toList ds p := hA0
  clear hA0
  rw [Try.params6] at hA hval
  obtain ⟨v0, vs0, d0, ds0, p0, q0, hargs, rfl, rfl, h0, r0⟩ := trodAll_cons hA
  obtain ⟨v1, vs1, d1, ds1, p1, q1, rfl, rfl, rfl, h1, r1⟩ := trodAll_cons r0
  obtain ⟨rfl, rfl, rfl⟩ := trodAll_nil r1
  obtain rfl : args = #[v0, v1] := by cases args; simp_all
  obtain ⟨A0, n0, c0, l0, rfl, hr0, hn0, hc0⟩ := open_tms (hval 0 38 v0 rfl rfl) h0
  obtain ⟨c1, c1', y1, y1', m1, rfl, rfl, rfl, hy1, hy1'⟩ := open_agg2 Try.underlying33 (by kernel_rfl) (by kernel_rfl : Try.prog.cellsOf 33 = 2) (hval 1 33 v1 rfl rfl) h1
  obtain ⟨a1, e1, rfl, wa1⟩ := DataW.trod_int Try.underlying3 hy1
  obtain ⟨b1, e1', rfl, wb1⟩ := DataW.trod_int Try.underlying3 hy1'
  simp at e1 e1'
  subst e1 e1'
  refine (antiMins_walk a1 b1 W hr0 (Nat.le_trans hn0 hc0) hn0).mono fun e W' ⟨he, hb⟩ => ⟨_, he, ?_⟩
  exact post_true hWc rfl hb laidOut (readables (by kernel_rfl)) rfl Try.underlying4 (fun h => by subst h; rfl)

set_option maxRecDepth 100000 in
theorem lifted (os : Os) (started : os.Started) (H : Type) (enc : TypeId × Value → H) :
    ReturnsInHanded {} Try.checked os 6 .any (Rows.antiMinsSpec.pre6 enc Try.prog Try.f6 Rows.antiMinsRow.domain false) (Rows.antiMinsSpec.post enc Try.prog Try.f6 false true false false) := by
  refine returnsInHanded_of_change (C := Try.checked) own started (by kernel_rfl) Try.func6
    (ChangeSpec.witness6 (enc := enc) (C := Try.checked) false ⟨#[], #[.slice none 0 0, .agg #[.int .i64 0, .int .i64 0]], []⟩ 8 (by kernel_rfl) (by kernel_rfl) (by kernel_rfl) (by kernel_rfl)) ?_
  intro W base args ds gs before hval hW _ _
  exact contract H enc W base args ds gs before hval hW

theorem proved : Rows.AntiMinsSaid :=
  OpenClaim.holds_of_wide 6 Try.f6 rfl rfl rfl rfl rfl rfl rfl ⟨rfl, rfl, rfl, rfl, rfl⟩ rfl rfl rfl rfl rfl (by kernel_rfl) Try.func6 (by kernel_rfl)
    (of_decide_eq_true (by kernel_rfl)) (by unfold Func.isWrapper; first | (rw [if_pos (by decide +kernel)]; kernel_rfl) | (rw [if_neg (by decide +kernel)]; exact ⟨rfl, rfl⟩))
    (fun os started H enc _ => lifted os started H enc)
end antiMins
end Go.Proofs.Ytifoonjhcjmehaa
