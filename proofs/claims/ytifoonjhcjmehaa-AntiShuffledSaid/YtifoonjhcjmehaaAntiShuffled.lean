/-
  AntiShuffled: the order of times makes no difference to the least ones, and those of all are those of the least ones of parts; the call returns true and changes nothing that was in memory.
-/
import Derived.Test.YtifoonjhcjmehaaAntiOpen
namespace Go.Proofs.Ytifoonjhcjmehaa
open Go.ChangeShapes Go.WideShapes Go.ChangeAt Go.RowKit Go.Joins
set_option linter.unusedSimpArgs false
set_option linter.unusedVariables false
theorem shuf_one {l x m : List Tm} {k : Nat} (h : IsMin l x) (h2 : IsMin (l.drop k ++ l.take k) m) : x = m := by
  refine h.unique (h2.of_mem fun y => ?_)
  rw [List.mem_append, or_comm, ← List.mem_append, List.take_append_drop]
theorem shuf_two {l x m m1 m2 : List Tm} {k : Nat} (h : IsMin l x) (h1 : IsMin (l.take k) m1) (h2 : IsMin (l.drop k) m2) (h3 : IsMin (m1 ++ m2) m) : x = m := by
  refine h.eq_of_has h3 fun t => ?_
  rw [hasL_append, h1.has, h2.has, ← hasL_append, List.take_append_drop]
theorem shuf_self {l x m : List Tm} (h : IsMin l x) (h2 : IsMin x m) : x = m := h.eq_of_has h2 fun t => (h.has t).symm

set_option maxHeartbeats 400000 in
theorem ashuf_early0 {A0 : Option Addr} {n0 c0 : Nat} {a1 : Int} (w : World) (h0 : 60 < n0) : Calls Try.prog 5 #[.slice A0 n0 c0, .int .i64 a1] w fun e w' => e = .returned (.bool true) ∧ Below w.heap.size w w' := by
  go_enter Try.func5, Try.ntmps5
  go_wp2_with fail
  refine (alive4_any _).mono ?_
  rintro e w1 ⟨rfl, HB⟩
  go_wp2_with fail
  go_ret
  exact ⟨rfl, HB⟩

set_option maxHeartbeats 400000 in
theorem ashuf_early1 {A0 : Option Addr} {n0 c0 : Nat} {a1 : Int} (w : World) (h0 : ¬ 60 < n0) (h1 : a1 < 0) : Calls Try.prog 5 #[.slice A0 n0 c0, .int .i64 a1] w fun e w' => e = .returned (.bool true) ∧ Below w.heap.size w w' := by
  go_enter Try.func5, Try.ntmps5
  go_wp2_with fail
  refine (alive4_any _).mono ?_
  rintro e w1 ⟨rfl, HB⟩
  go_wp2_with fail
  go_ret
  exact ⟨rfl, HB⟩

set_option maxHeartbeats 400000 in
theorem ashuf_early2 {A0 : Option Addr} {n0 c0 : Nat} {a1 : Int} (w : World) (h0 : ¬ 60 < n0) (h1 : ¬ a1 < 0) (h2 : (n0 : Int) < a1) : Calls Try.prog 5 #[.slice A0 n0 c0, .int .i64 a1] w fun e w' => e = .returned (.bool true) ∧ Below w.heap.size w w' := by
  go_enter Try.func5, Try.ntmps5
  go_wp2_with fail
  refine (alive4_any _).mono ?_
  rintro e w1 ⟨rfl, HB⟩
  go_wp2_with fail
  go_ret
  exact ⟨rfl, HB⟩

set_option maxRecDepth 100000 in
set_option maxHeartbeats 4000000 in
theorem ashuf_eq {A0 : Option Addr} {n0 k : Nat} {l0 : List Tm} (w : World) (r0 : Tms w w.heap.size A0 n0 l0) (hk : k ≤ n0) (hnc : n0 ≤ k)  (h0 : ¬ 60 < n0) : Calls Try.prog 5 #[.slice A0 n0 k, .int .i64 k] w fun e w' => e = .returned (.bool true) ∧ Below w.heap.size w w' := by
  obtain ⟨i0, hi0, hz0, hz1, hz2⟩ := info_parts infoTime
  have H0 := Lib.hid r0
  have hT := Tms.take r0 hk
  have hm0 : n0 - k = 0 := by omega
  have hD := Tms.drop r0 hk hnc
  rw [if_pos rfl, hm0] at hD
  have HTK := Lib.hid hT
  have HTD := Lib.hid hD
  have hkc2 : k ≤ k := Nat.le_refl k
  have hkn : (k : Int) ≤ (n0 : Int) := by omega
  clear r0 hT hD
  go_enter Try.func5, Try.ntmps5
  go_wp2_with fail
  refine (alive4_any _).mono ?_
  rintro e w1 ⟨rfl, HB⟩
  go_wp2_with fail
  refine wp_region_held_drew (S := (fun W => Below w1.heap.size w1 W)) (by kernel_rfl) ((Below.refl _ _).drew) (fun hHeld => ?_)
  refine wpAnyH_take (i := 0) (v := ?_) rfl (by kernel_rfl) (by kernel_rfl) (by kernel_rfl) (fun _ _ _ h => h) (Or.inl ⟨by rfl, ?_⟩) hHeld ?_
  rotate_left
  · intro W hS
    try dsimp only at hS
    go_simp
    try with_reducible rfl
  try simp only [List.getElem_toArray, List.getElem_cons_succ, List.getElem_cons_zero, Act.put, List.setIfInBounds_toArray, List.set_cons_zero, List.set_cons_succ]
  refine wpAnyH_take (i := 1) (v := ?_) rfl (by kernel_rfl) (by kernel_rfl) (by kernel_rfl) (fun _ _ _ h => h) (Or.inl ⟨by rfl, ?_⟩) hHeld ?_
  rotate_left
  · intro W hS
    try dsimp only at hS
    go_simp
    try with_reducible rfl
  try simp only [List.getElem_toArray, List.getElem_cons_succ, List.getElem_cons_zero, Act.put, List.setIfInBounds_toArray, List.set_cons_zero, List.set_cons_succ]
  refine wpAnyH_take (i := 2) (v := ?_) rfl (by kernel_rfl) (by kernel_rfl) (by kernel_rfl) (fun _ _ _ h => h) (Or.inl ⟨by rfl, ?_⟩) hHeld ?_
  rotate_left
  · intro W hS
    try dsimp only at hS
    go_simp
    try with_reducible rfl
  try simp only [List.getElem_toArray, List.getElem_cons_succ, List.getElem_cons_zero, Act.put, List.setIfInBounds_toArray, List.set_cons_zero, List.set_cons_succ]
  refine wpAnyH_take (i := 4) (v := ?_) rfl (by kernel_rfl) (by kernel_rfl) (by kernel_rfl) (fun _ _ _ h => h) (Or.inl ⟨by rfl, ?_⟩) hHeld ?_
  rotate_left
  · intro W hS
    try dsimp only at hS
    go_simp
    try with_reducible rfl
  try simp only [List.getElem_toArray, List.getElem_cons_succ, List.getElem_cons_zero, Act.put, List.setIfInBounds_toArray, List.set_cons_zero, List.set_cons_succ]
  refine wpAnyH_take (i := 5) (v := ?_) rfl (by kernel_rfl) (by kernel_rfl) (by kernel_rfl) (fun _ _ _ h => h) (Or.inl ⟨by rfl, ?_⟩) hHeld ?_
  rotate_left
  · intro W hS
    try dsimp only at hS
    go_simp
    try with_reducible rfl
  try simp only [List.getElem_toArray, List.getElem_cons_succ, List.getElem_cons_zero, Act.put, List.setIfInBounds_toArray, List.set_cons_zero, List.set_cons_succ]
  refine wpAnyH_take (i := 6) (v := ?_) rfl (by kernel_rfl) (by kernel_rfl) (by kernel_rfl) (fun _ _ _ h => h) (Or.inl ⟨by rfl, ?_⟩) hHeld ?_
  rotate_left
  · intro W hS
    try dsimp only at hS
    go_simp
    try with_reducible rfl
  try simp only [List.getElem_toArray, List.getElem_cons_succ, List.getElem_cons_zero, Act.put, List.setIfInBounds_toArray, List.set_cons_zero, List.set_cons_succ]
  refine wpAnyH_ready (rs := [3]) (by kernel_rfl) (by simp) ?_
  refine AllReadyH.cons rfl (fun K hK => ?_) AllReadyH.nil
  refine wp_append_any _ _ _ 38 rfl w1.heap.size 33 i0 (.agg #[.int .i64 0, .int .i64 0]) 2 16 Try.underlying38 hi0 hz0 hz1 hz2 rfl (by decide) (.slice none 0 0) 0 [] rfl (World.ownsRow_nil _ _ _ _) w.heap.size _ _ _ (tmCells (l0.drop k)) rfl (HTD.out.below (HB.trans (hHeld.mono HB.size))) (tmCells_one _) (by unfold maxLen; omega) (by omega) hHeld.size ?_
  intro v1 w2 hown2 hg2 _
  have hb2 : Below w1.heap.size w1 w2 := hHeld.trans ((Touch.grown hg2).below (by simp [Value.ownBlock]) hHeld.size)
  refine hK.out _ _ (hb2) (fun hHeld => ?_)
  clear hK K
  try simp only [List.getElem_toArray, List.getElem_cons_succ, List.getElem_cons_zero, Act.put, List.setIfInBounds_toArray, List.set_cons_zero, List.set_cons_succ]
  refine wpAnyH_ready (rs := [7]) (by kernel_rfl) (by simp) ?_
  refine AllReadyH.cons rfl (fun K hK => ?_) AllReadyH.nil
  refine wp_append_any _ _ _ 38 rfl w1.heap.size 33 i0 (.agg #[.int .i64 0, .int .i64 0]) 2 16 Try.underlying38 hi0 hz0 hz1 hz2 rfl (by decide) v1 (0 + 0) ([] ++ tmCells (l0.drop k)) rfl hown2 w.heap.size _ _ _ (tmCells (l0.take k)) rfl (HTK.out.below (HB.trans (hHeld.mono HB.size))) (tmCells_one _) (by unfold maxLen; omega) (by omega) hHeld.size ?_
  intro v2 w3 hown3 hg3 _
  have hb3 : Below w1.heap.size w1 w3 := hHeld.trans ((Touch.grown hg3).below (fun y hy => (hown2.lt y (by simpa using hy)).1) hHeld.size)
  have hown3 : w3.ownsRow w1.heap.size 33 2 v2 n0 (tmCells (l0.drop k ++ l0.take k)) := by rw [tmCells_append, show n0 = 0 + 0 + k by omega]; simpa using hown3
  obtain ⟨A3, c3, rfl⟩ := own_slice hown3
  have HT3 := Lib.hid (reads_own hown3)
  refine hK.out _ _ (hb3) (fun hHeld => ?_)
  clear hK K
  try simp only [List.getElem_toArray, List.getElem_cons_succ, List.getElem_cons_zero, Act.put, List.setIfInBounds_toArray, List.set_cons_zero, List.set_cons_succ]
  refine wpAnyH_take (i := 8) (v := ?_) rfl (by kernel_rfl) (by kernel_rfl) (by kernel_rfl) (fun _ _ _ h => h) (Or.inl ⟨by rfl, ?_⟩) hHeld ?_
  rotate_left
  · intro W hS
    try dsimp only at hS
    go_simp
    try with_reducible rfl
  try simp only [List.getElem_toArray, List.getElem_cons_succ, List.getElem_cons_zero, Act.put, List.setIfInBounds_toArray, List.set_cons_zero, List.set_cons_succ]
  refine wpAnyH_done (by kernel_rfl) ?_ _
  have HB3 := HB.trans (hb3.mono HB.size)
  clear hHeld hb3 hb2 hg2 hg3 hown2 hown3
  go_wp2_with fail
  refine wp_region_held_drew (S := (fun W => Below w3.heap.size w3 W)) (by kernel_rfl) ((Below.refl _ _).drew) (fun hHeld => ?_)
  refine wpAnyH_take (i := 0) (v := ?_) rfl (by kernel_rfl) (by kernel_rfl) (by kernel_rfl) (fun _ _ _ h => h) (Or.inl ⟨by rfl, ?_⟩) hHeld ?_
  rotate_left
  · intro W hS
    try dsimp only at hS
    go_simp
    try with_reducible rfl
  try simp only [List.getElem_toArray, List.getElem_cons_succ, List.getElem_cons_zero, Act.put, List.setIfInBounds_toArray, List.set_cons_zero, List.set_cons_succ]
  refine wpAnyH_take (i := 1) (v := ?_) rfl (by kernel_rfl) (by kernel_rfl) (by kernel_rfl) (fun _ _ _ h => h) (Or.inl ⟨by rfl, ?_⟩) hHeld ?_
  rotate_left
  · intro W hS
    try dsimp only at hS
    go_simp
    try with_reducible rfl
  try simp only [List.getElem_toArray, List.getElem_cons_succ, List.getElem_cons_zero, Act.put, List.setIfInBounds_toArray, List.set_cons_zero, List.set_cons_succ]
  refine wpAnyH_take (i := 2) (v := ?_) rfl (by kernel_rfl) (by kernel_rfl) (by kernel_rfl) (fun _ _ _ h => h) (Or.inl ⟨by rfl, ?_⟩) hHeld ?_
  rotate_left
  · intro W hS
    try dsimp only at hS
    go_simp
    try with_reducible rfl
  try simp only [List.getElem_toArray, List.getElem_cons_succ, List.getElem_cons_zero, Act.put, List.setIfInBounds_toArray, List.set_cons_zero, List.set_cons_succ]
  refine wpAnyH_take (i := 4) (v := ?_) rfl (by kernel_rfl) (by kernel_rfl) (by kernel_rfl) (fun _ _ _ h => h) (Or.inl ⟨by rfl, ?_⟩) hHeld ?_
  rotate_left
  · intro W hS
    try dsimp only at hS
    go_simp
    try with_reducible rfl
  try simp only [List.getElem_toArray, List.getElem_cons_succ, List.getElem_cons_zero, Act.put, List.setIfInBounds_toArray, List.set_cons_zero, List.set_cons_succ]
  refine wpAnyH_take (i := 5) (v := ?_) rfl (by kernel_rfl) (by kernel_rfl) (by kernel_rfl) (fun _ _ _ h => h) (Or.inl ⟨by rfl, ?_⟩) hHeld ?_
  rotate_left
  · intro W hS
    try dsimp only at hS
    go_simp
    try with_reducible rfl
  try simp only [List.getElem_toArray, List.getElem_cons_succ, List.getElem_cons_zero, Act.put, List.setIfInBounds_toArray, List.set_cons_zero, List.set_cons_succ]
  refine wpAnyH_take (i := 6) (v := ?_) rfl (by kernel_rfl) (by kernel_rfl) (by kernel_rfl) (fun _ _ _ h => h) (Or.inl ⟨by rfl, ?_⟩) hHeld ?_
  rotate_left
  · intro W hS
    try dsimp only at hS
    go_simp
    try with_reducible rfl
  try simp only [List.getElem_toArray, List.getElem_cons_succ, List.getElem_cons_zero, Act.put, List.setIfInBounds_toArray, List.set_cons_zero, List.set_cons_succ]
  refine wpAnyH_ready (rs := [3]) (by kernel_rfl) (by simp) ?_
  refine AllReadyH.cons rfl (fun K hK => ?_) AllReadyH.nil
  go_simp
  refine (min_s _ (HTK.out.below (HB3.trans (hHeld.mono HB3.size))) (Nat.le_trans HB3.size hHeld.size) (by omega)).mono ?_
  rintro e w4 ⟨A4, M4, c4, m4, rfl, hm4, hM4, hT4, hb, hown4⟩
  have HM4 := Lib.hid hm4
  have HOWN4 := Lib.hid hown4
  have hb4 : Below w3.heap.size w3 w4 := below_after hHeld hb hHeld.size
  clear hm4 hT4 hown4 hb
  refine hK.out _ _ (hb4) (fun hHeld => ?_)
  clear hK K
  try simp only [List.getElem_toArray, List.getElem_cons_succ, List.getElem_cons_zero, Act.put, List.setIfInBounds_toArray, List.set_cons_zero, List.set_cons_succ]
  refine wpAnyH_ready (rs := [7]) (by kernel_rfl) (by simp) ?_
  refine AllReadyH.cons rfl (fun K hK => ?_) AllReadyH.nil
  go_simp
  refine (min_s _ (HTD.out.below (HB3.trans (hHeld.mono HB3.size))) (Nat.le_trans HB3.size hHeld.size) (by omega)).mono ?_
  rintro e w5 ⟨A5, M5, c5, m5, rfl, hm5, hM5, hT5, hb, _⟩
  have HM5 := Lib.hid hm5
  have HT5 := Lib.hid hT5
  have HOWN5 := Lib.hid (own_touch (gs := []) HOWN4.out (Touch.of_below hb (Nat.le_refl _)) (by simp))
  have hb5 : Below w3.heap.size w3 w5 := below_after hHeld hb hHeld.size
  clear hm5 hT5 hb HOWN4
  refine hK.out _ _ (hb5) (fun hHeld => ?_)
  clear hK K
  try simp only [List.getElem_toArray, List.getElem_cons_succ, List.getElem_cons_zero, Act.put, List.setIfInBounds_toArray, List.set_cons_zero, List.set_cons_succ]
  refine wpAnyH_ready (rs := [8]) (by kernel_rfl) (by simp) ?_
  refine AllReadyH.cons rfl (fun K hK => ?_) AllReadyH.nil
  refine wp_append_any _ _ _ 38 rfl w3.heap.size 33 i0 (.agg #[.int .i64 0, .int .i64 0]) 2 16 Try.underlying38 hi0 hz0 hz1 hz2 rfl (by decide) (.slice A4 M4 c4) M4 (tmCells m4) rfl HOWN5.out w5.heap.size _ _ _ (tmCells m5) rfl HT5.out (tmCells_one _) (by unfold maxLen; omega) (by omega) hHeld.size ?_
  intro v6 w6 hown6 hg6 _
  have hb6 : Below w3.heap.size w3 w6 := hHeld.trans ((Touch.grown hg6).below (fun y hy => (HOWN5.out.lt y (by simpa using hy)).1) hHeld.size)
  obtain ⟨A6, c6, rfl⟩ := own_slice hown6
  have hown6 : w6.ownsRow w3.heap.size 33 2 (.slice A6 (M4 + M5) c6) (M4 + M5) (tmCells (m4 ++ m5)) := by rw [tmCells_append]; exact hown6
  have HT6 := Lib.hid (reads_own hown6)
  refine hK.out _ _ (hb6) (fun hHeld => ?_)
  clear hK K
  try simp only [List.getElem_toArray, List.getElem_cons_succ, List.getElem_cons_zero, Act.put, List.setIfInBounds_toArray, List.set_cons_zero, List.set_cons_succ]
  refine wpAnyH_take (i := 9) (v := ?_) rfl (by kernel_rfl) (by kernel_rfl) (by kernel_rfl) (fun _ _ _ h => h) (Or.inl ⟨by rfl, ?_⟩) hHeld ?_
  rotate_left
  · intro W hS
    try dsimp only at hS
    go_simp
    try with_reducible rfl
  try simp only [List.getElem_toArray, List.getElem_cons_succ, List.getElem_cons_zero, Act.put, List.setIfInBounds_toArray, List.set_cons_zero, List.set_cons_succ]
  refine wpAnyH_done (by kernel_rfl) ?_ _
  have HB6 := HB3.trans (hb6.mono HB3.size)
  have HT36 := Lib.hid (HT3.out.below hb6)
  have hz36 := hb6.size
  clear hHeld hb6 hg6 hown6
  go_wp2_with fail
  refine (min_s _ (H0.out.below HB6) HB6.size (by omega)).mono ?_
  rintro e w7 ⟨A7, M7, c7, m7, rfl, hm7, hM7, hT7, hb, _⟩
  have HM7 := Lib.hid hm7
  have HT7 := Lib.hid hT7
  have HB7 := below_after HB6 hb HB6.size
  have HT37 := Lib.hid (HT36.out.below (hb.mono hz36))
  have HT67 := Lib.hid (HT6.out.below hb)
  have hz37 := Nat.le_trans hz36 hb.size
  have hz67 := hb.size
  clear hm7 hT7 hb
  have HBB : Below w7.heap.size w7 w7 := Below.refl _ _
  go_wp2_with fail
  refine (min_s _ (HT37.out.below (HBB.mono hz37)) (Nat.le_trans hz37 HBB.size) (by omega)).mono ?_
  rintro e w8 ⟨A8, M8, c8, m8, rfl, hm8, hM8, hT8, hb, _⟩
  have HEQ8 := Lib.hid (shuf_one HM7.out hm8)
  have HT8 := Lib.hid hT8
  have HBB := below_after HBB hb HBB.size
  clear hm8 hT8 hb
  go_wp2_with fail
  refine (same_b (b := true) _ (HT7.out.below HBB) HT8.out ⟨fun _ => HEQ8.out, fun _ => rfl⟩ (by omega) (by omega)).mono ?_
  rintro e w9 ⟨rfl, hb⟩
  have HBB := below_after HBB hb HBB.size
  clear hb
  go_wp2_with fail
  refine (min_s _ (HT67.out.below (HBB.mono hz67)) (Nat.le_trans hz67 HBB.size) (by omega)).mono ?_
  rintro e w10 ⟨A10, M10, c10, m10, rfl, hm10, hM10, hT10, hb, _⟩
  have HEQ10 := Lib.hid (shuf_two HM7.out HM4.out HM5.out hm10)
  have HT10 := Lib.hid hT10
  have HBB := below_after HBB hb HBB.size
  clear hm10 hT10 hb
  go_wp2_with fail
  refine (same_b (b := true) _ (HT7.out.below HBB) HT10.out ⟨fun _ => HEQ10.out, fun _ => rfl⟩ (by omega) (by omega)).mono ?_
  rintro e w11 ⟨rfl, hb⟩
  have HBB := below_after HBB hb HBB.size
  clear hb
  go_wp2_with fail
  refine (min_s _ (HT7.out.below (HBB.mono (Nat.le_refl _))) (Nat.le_trans (Nat.le_refl _) HBB.size) (by omega)).mono ?_
  rintro e w12 ⟨A12, M12, c12, m12, rfl, hm12, hM12, hT12, hb, _⟩
  have HEQ12 := Lib.hid (shuf_self HM7.out hm12)
  have HT12 := Lib.hid hT12
  have HBB := below_after HBB hb HBB.size
  clear hm12 hT12 hb
  go_wp2_with fail
  refine (same_b (b := true) _ (HT7.out.below HBB) HT12.out ⟨fun _ => HEQ12.out, fun _ => rfl⟩ (by omega) (by omega)).mono ?_
  rintro e w13 ⟨rfl, hb⟩
  have HBB := below_after HBB hb HBB.size
  clear hb
  go_wp2_with fail
  go_ret
  exact ⟨rfl, HB7.trans (HBB.mono HB7.size)⟩

set_option maxRecDepth 100000 in
set_option maxHeartbeats 4000000 in
theorem ashuf_ne {A0 : Option Addr} {n0 c0 k : Nat} {l0 : List Tm} (w : World) (r0 : Tms w w.heap.size A0 n0 l0) (hk : k ≤ n0) (hnc : n0 ≤ c0) (hck : ¬ (c0 = k)) (h0 : ¬ 60 < n0) : Calls Try.prog 5 #[.slice A0 n0 c0, .int .i64 k] w fun e w' => e = .returned (.bool true) ∧ Below w.heap.size w w' := by
  obtain ⟨i0, hi0, hz0, hz1, hz2⟩ := info_parts infoTime
  have H0 := Lib.hid r0
  have hT := Tms.take r0 hk
  have hD := Tms.drop r0 hk hnc
  rw [if_neg hck] at hD
  have HTK := Lib.hid hT
  have HTD := Lib.hid hD
  have hkc2 : k ≤ c0 := Nat.le_trans hk hnc
  have hkn : (k : Int) ≤ (n0 : Int) := by omega
  clear r0 hT hD
  go_enter Try.func5, Try.ntmps5
  go_wp2_with fail
  refine (alive4_any _).mono ?_
  rintro e w1 ⟨rfl, HB⟩
  go_wp2_with fail
  refine wp_region_held_drew (S := (fun W => Below w1.heap.size w1 W)) (by kernel_rfl) ((Below.refl _ _).drew) (fun hHeld => ?_)
  refine wpAnyH_take (i := 0) (v := ?_) rfl (by kernel_rfl) (by kernel_rfl) (by kernel_rfl) (fun _ _ _ h => h) (Or.inl ⟨by rfl, ?_⟩) hHeld ?_
  rotate_left
  · intro W hS
    try dsimp only at hS
    go_simp
    try with_reducible rfl
  try simp only [List.getElem_toArray, List.getElem_cons_succ, List.getElem_cons_zero, Act.put, List.setIfInBounds_toArray, List.set_cons_zero, List.set_cons_succ]
  refine wpAnyH_take (i := 1) (v := ?_) rfl (by kernel_rfl) (by kernel_rfl) (by kernel_rfl) (fun _ _ _ h => h) (Or.inl ⟨by rfl, ?_⟩) hHeld ?_
  rotate_left
  · intro W hS
    try dsimp only at hS
    go_simp
    try with_reducible rfl
  try simp only [List.getElem_toArray, List.getElem_cons_succ, List.getElem_cons_zero, Act.put, List.setIfInBounds_toArray, List.set_cons_zero, List.set_cons_succ]
  refine wpAnyH_take (i := 2) (v := ?_) rfl (by kernel_rfl) (by kernel_rfl) (by kernel_rfl) (fun _ _ _ h => h) (Or.inl ⟨by rfl, ?_⟩) hHeld ?_
  rotate_left
  · intro W hS
    try dsimp only at hS
    go_simp
    try with_reducible rfl
  try simp only [List.getElem_toArray, List.getElem_cons_succ, List.getElem_cons_zero, Act.put, List.setIfInBounds_toArray, List.set_cons_zero, List.set_cons_succ]
  refine wpAnyH_take (i := 4) (v := ?_) rfl (by kernel_rfl) (by kernel_rfl) (by kernel_rfl) (fun _ _ _ h => h) (Or.inl ⟨by rfl, ?_⟩) hHeld ?_
  rotate_left
  · intro W hS
    try dsimp only at hS
    go_simp
    try with_reducible rfl
  try simp only [List.getElem_toArray, List.getElem_cons_succ, List.getElem_cons_zero, Act.put, List.setIfInBounds_toArray, List.set_cons_zero, List.set_cons_succ]
  refine wpAnyH_take (i := 5) (v := ?_) rfl (by kernel_rfl) (by kernel_rfl) (by kernel_rfl) (fun _ _ _ h => h) (Or.inl ⟨by rfl, ?_⟩) hHeld ?_
  rotate_left
  · intro W hS
    try dsimp only at hS
    go_simp
    try with_reducible rfl
  try simp only [List.getElem_toArray, List.getElem_cons_succ, List.getElem_cons_zero, Act.put, List.setIfInBounds_toArray, List.set_cons_zero, List.set_cons_succ]
  refine wpAnyH_take (i := 6) (v := ?_) rfl (by kernel_rfl) (by kernel_rfl) (by kernel_rfl) (fun _ _ _ h => h) (Or.inl ⟨by rfl, ?_⟩) hHeld ?_
  rotate_left
  · intro W hS
    try dsimp only at hS
    go_simp
    try with_reducible rfl
  try simp only [List.getElem_toArray, List.getElem_cons_succ, List.getElem_cons_zero, Act.put, List.setIfInBounds_toArray, List.set_cons_zero, List.set_cons_succ]
  refine wpAnyH_ready (rs := [3]) (by kernel_rfl) (by simp) ?_
  refine AllReadyH.cons rfl (fun K hK => ?_) AllReadyH.nil
  refine wp_append_any _ _ _ 38 rfl w1.heap.size 33 i0 (.agg #[.int .i64 0, .int .i64 0]) 2 16 Try.underlying38 hi0 hz0 hz1 hz2 rfl (by decide) (.slice none 0 0) 0 [] rfl (World.ownsRow_nil _ _ _ _) w.heap.size _ _ _ (tmCells (l0.drop k)) rfl (HTD.out.below (HB.trans (hHeld.mono HB.size))) (tmCells_one _) (by unfold maxLen; omega) (by omega) hHeld.size ?_
  intro v1 w2 hown2 hg2 _
  have hb2 : Below w1.heap.size w1 w2 := hHeld.trans ((Touch.grown hg2).below (by simp [Value.ownBlock]) hHeld.size)
  refine hK.out _ _ (hb2) (fun hHeld => ?_)
  clear hK K
  try simp only [List.getElem_toArray, List.getElem_cons_succ, List.getElem_cons_zero, Act.put, List.setIfInBounds_toArray, List.set_cons_zero, List.set_cons_succ]
  refine wpAnyH_ready (rs := [7]) (by kernel_rfl) (by simp) ?_
  refine AllReadyH.cons rfl (fun K hK => ?_) AllReadyH.nil
  refine wp_append_any _ _ _ 38 rfl w1.heap.size 33 i0 (.agg #[.int .i64 0, .int .i64 0]) 2 16 Try.underlying38 hi0 hz0 hz1 hz2 rfl (by decide) v1 (0 + (n0 - k)) ([] ++ tmCells (l0.drop k)) rfl hown2 w.heap.size _ _ _ (tmCells (l0.take k)) rfl (HTK.out.below (HB.trans (hHeld.mono HB.size))) (tmCells_one _) (by unfold maxLen; omega) (by omega) hHeld.size ?_
  intro v2 w3 hown3 hg3 _
  have hb3 : Below w1.heap.size w1 w3 := hHeld.trans ((Touch.grown hg3).below (fun y hy => (hown2.lt y (by simpa using hy)).1) hHeld.size)
  have hown3 : w3.ownsRow w1.heap.size 33 2 v2 n0 (tmCells (l0.drop k ++ l0.take k)) := by rw [tmCells_append, show n0 = 0 + (n0 - k) + k by omega]; simpa using hown3
  obtain ⟨A3, c3, rfl⟩ := own_slice hown3
  have HT3 := Lib.hid (reads_own hown3)
  refine hK.out _ _ (hb3) (fun hHeld => ?_)
  clear hK K
  try simp only [List.getElem_toArray, List.getElem_cons_succ, List.getElem_cons_zero, Act.put, List.setIfInBounds_toArray, List.set_cons_zero, List.set_cons_succ]
  refine wpAnyH_take (i := 8) (v := ?_) rfl (by kernel_rfl) (by kernel_rfl) (by kernel_rfl) (fun _ _ _ h => h) (Or.inl ⟨by rfl, ?_⟩) hHeld ?_
  rotate_left
  · intro W hS
    try dsimp only at hS
    go_simp
    try with_reducible rfl
  try simp only [List.getElem_toArray, List.getElem_cons_succ, List.getElem_cons_zero, Act.put, List.setIfInBounds_toArray, List.set_cons_zero, List.set_cons_succ]
  refine wpAnyH_done (by kernel_rfl) ?_ _
  have HB3 := HB.trans (hb3.mono HB.size)
  clear hHeld hb3 hb2 hg2 hg3 hown2 hown3
  go_wp2_with fail
  refine wp_region_held_drew (S := (fun W => Below w3.heap.size w3 W)) (by kernel_rfl) ((Below.refl _ _).drew) (fun hHeld => ?_)
  refine wpAnyH_take (i := 0) (v := ?_) rfl (by kernel_rfl) (by kernel_rfl) (by kernel_rfl) (fun _ _ _ h => h) (Or.inl ⟨by rfl, ?_⟩) hHeld ?_
  rotate_left
  · intro W hS
    try dsimp only at hS
    go_simp
    try with_reducible rfl
  try simp only [List.getElem_toArray, List.getElem_cons_succ, List.getElem_cons_zero, Act.put, List.setIfInBounds_toArray, List.set_cons_zero, List.set_cons_succ]
  refine wpAnyH_take (i := 1) (v := ?_) rfl (by kernel_rfl) (by kernel_rfl) (by kernel_rfl) (fun _ _ _ h => h) (Or.inl ⟨by rfl, ?_⟩) hHeld ?_
  rotate_left
  · intro W hS
    try dsimp only at hS
    go_simp
    try with_reducible rfl
  try simp only [List.getElem_toArray, List.getElem_cons_succ, List.getElem_cons_zero, Act.put, List.setIfInBounds_toArray, List.set_cons_zero, List.set_cons_succ]
  refine wpAnyH_take (i := 2) (v := ?_) rfl (by kernel_rfl) (by kernel_rfl) (by kernel_rfl) (fun _ _ _ h => h) (Or.inl ⟨by rfl, ?_⟩) hHeld ?_
  rotate_left
  · intro W hS
    try dsimp only at hS
    go_simp
    try with_reducible rfl
  try simp only [List.getElem_toArray, List.getElem_cons_succ, List.getElem_cons_zero, Act.put, List.setIfInBounds_toArray, List.set_cons_zero, List.set_cons_succ]
  refine wpAnyH_take (i := 4) (v := ?_) rfl (by kernel_rfl) (by kernel_rfl) (by kernel_rfl) (fun _ _ _ h => h) (Or.inl ⟨by rfl, ?_⟩) hHeld ?_
  rotate_left
  · intro W hS
    try dsimp only at hS
    go_simp
    try with_reducible rfl
  try simp only [List.getElem_toArray, List.getElem_cons_succ, List.getElem_cons_zero, Act.put, List.setIfInBounds_toArray, List.set_cons_zero, List.set_cons_succ]
  refine wpAnyH_take (i := 5) (v := ?_) rfl (by kernel_rfl) (by kernel_rfl) (by kernel_rfl) (fun _ _ _ h => h) (Or.inl ⟨by rfl, ?_⟩) hHeld ?_
  rotate_left
  · intro W hS
    try dsimp only at hS
    go_simp
    try with_reducible rfl
  try simp only [List.getElem_toArray, List.getElem_cons_succ, List.getElem_cons_zero, Act.put, List.setIfInBounds_toArray, List.set_cons_zero, List.set_cons_succ]
  refine wpAnyH_take (i := 6) (v := ?_) rfl (by kernel_rfl) (by kernel_rfl) (by kernel_rfl) (fun _ _ _ h => h) (Or.inl ⟨by rfl, ?_⟩) hHeld ?_
  rotate_left
  · intro W hS
    try dsimp only at hS
    go_simp
    try with_reducible rfl
  try simp only [List.getElem_toArray, List.getElem_cons_succ, List.getElem_cons_zero, Act.put, List.setIfInBounds_toArray, List.set_cons_zero, List.set_cons_succ]
  refine wpAnyH_ready (rs := [3]) (by kernel_rfl) (by simp) ?_
  refine AllReadyH.cons rfl (fun K hK => ?_) AllReadyH.nil
  go_simp
  refine (min_s _ (HTK.out.below (HB3.trans (hHeld.mono HB3.size))) (Nat.le_trans HB3.size hHeld.size) (by omega)).mono ?_
  rintro e w4 ⟨A4, M4, c4, m4, rfl, hm4, hM4, hT4, hb, hown4⟩
  have HM4 := Lib.hid hm4
  have HOWN4 := Lib.hid hown4
  have hb4 : Below w3.heap.size w3 w4 := below_after hHeld hb hHeld.size
  clear hm4 hT4 hown4 hb
  refine hK.out _ _ (hb4) (fun hHeld => ?_)
  clear hK K
  try simp only [List.getElem_toArray, List.getElem_cons_succ, List.getElem_cons_zero, Act.put, List.setIfInBounds_toArray, List.set_cons_zero, List.set_cons_succ]
  refine wpAnyH_ready (rs := [7]) (by kernel_rfl) (by simp) ?_
  refine AllReadyH.cons rfl (fun K hK => ?_) AllReadyH.nil
  go_simp
  refine (min_s _ (HTD.out.below (HB3.trans (hHeld.mono HB3.size))) (Nat.le_trans HB3.size hHeld.size) (by omega)).mono ?_
  rintro e w5 ⟨A5, M5, c5, m5, rfl, hm5, hM5, hT5, hb, _⟩
  have HM5 := Lib.hid hm5
  have HT5 := Lib.hid hT5
  have HOWN5 := Lib.hid (own_touch (gs := []) HOWN4.out (Touch.of_below hb (Nat.le_refl _)) (by simp))
  have hb5 : Below w3.heap.size w3 w5 := below_after hHeld hb hHeld.size
  clear hm5 hT5 hb HOWN4
  refine hK.out _ _ (hb5) (fun hHeld => ?_)
  clear hK K
  try simp only [List.getElem_toArray, List.getElem_cons_succ, List.getElem_cons_zero, Act.put, List.setIfInBounds_toArray, List.set_cons_zero, List.set_cons_succ]
  refine wpAnyH_ready (rs := [8]) (by kernel_rfl) (by simp) ?_
  refine AllReadyH.cons rfl (fun K hK => ?_) AllReadyH.nil
  refine wp_append_any _ _ _ 38 rfl w3.heap.size 33 i0 (.agg #[.int .i64 0, .int .i64 0]) 2 16 Try.underlying38 hi0 hz0 hz1 hz2 rfl (by decide) (.slice A4 M4 c4) M4 (tmCells m4) rfl HOWN5.out w5.heap.size _ _ _ (tmCells m5) rfl HT5.out (tmCells_one _) (by unfold maxLen; omega) (by omega) hHeld.size ?_
  intro v6 w6 hown6 hg6 _
  have hb6 : Below w3.heap.size w3 w6 := hHeld.trans ((Touch.grown hg6).below (fun y hy => (HOWN5.out.lt y (by simpa using hy)).1) hHeld.size)
  obtain ⟨A6, c6, rfl⟩ := own_slice hown6
  have hown6 : w6.ownsRow w3.heap.size 33 2 (.slice A6 (M4 + M5) c6) (M4 + M5) (tmCells (m4 ++ m5)) := by rw [tmCells_append]; exact hown6
  have HT6 := Lib.hid (reads_own hown6)
  refine hK.out _ _ (hb6) (fun hHeld => ?_)
  clear hK K
  try simp only [List.getElem_toArray, List.getElem_cons_succ, List.getElem_cons_zero, Act.put, List.setIfInBounds_toArray, List.set_cons_zero, List.set_cons_succ]
  refine wpAnyH_take (i := 9) (v := ?_) rfl (by kernel_rfl) (by kernel_rfl) (by kernel_rfl) (fun _ _ _ h => h) (Or.inl ⟨by rfl, ?_⟩) hHeld ?_
  rotate_left
  · intro W hS
    try dsimp only at hS
    go_simp
    try with_reducible rfl
  try simp only [List.getElem_toArray, List.getElem_cons_succ, List.getElem_cons_zero, Act.put, List.setIfInBounds_toArray, List.set_cons_zero, List.set_cons_succ]
  refine wpAnyH_done (by kernel_rfl) ?_ _
  have HB6 := HB3.trans (hb6.mono HB3.size)
  have HT36 := Lib.hid (HT3.out.below hb6)
  have hz36 := hb6.size
  clear hHeld hb6 hg6 hown6
  go_wp2_with fail
  refine (min_s _ (H0.out.below HB6) HB6.size (by omega)).mono ?_
  rintro e w7 ⟨A7, M7, c7, m7, rfl, hm7, hM7, hT7, hb, _⟩
  have HM7 := Lib.hid hm7
  have HT7 := Lib.hid hT7
  have HB7 := below_after HB6 hb HB6.size
  have HT37 := Lib.hid (HT36.out.below (hb.mono hz36))
  have HT67 := Lib.hid (HT6.out.below hb)
  have hz37 := Nat.le_trans hz36 hb.size
  have hz67 := hb.size
  clear hm7 hT7 hb
  have HBB : Below w7.heap.size w7 w7 := Below.refl _ _
  go_wp2_with fail
  refine (min_s _ (HT37.out.below (HBB.mono hz37)) (Nat.le_trans hz37 HBB.size) (by omega)).mono ?_
  rintro e w8 ⟨A8, M8, c8, m8, rfl, hm8, hM8, hT8, hb, _⟩
  have HEQ8 := Lib.hid (shuf_one HM7.out hm8)
  have HT8 := Lib.hid hT8
  have HBB := below_after HBB hb HBB.size
  clear hm8 hT8 hb
  go_wp2_with fail
  refine (same_b (b := true) _ (HT7.out.below HBB) HT8.out ⟨fun _ => HEQ8.out, fun _ => rfl⟩ (by omega) (by omega)).mono ?_
  rintro e w9 ⟨rfl, hb⟩
  have HBB := below_after HBB hb HBB.size
  clear hb
  go_wp2_with fail
  refine (min_s _ (HT67.out.below (HBB.mono hz67)) (Nat.le_trans hz67 HBB.size) (by omega)).mono ?_
  rintro e w10 ⟨A10, M10, c10, m10, rfl, hm10, hM10, hT10, hb, _⟩
  have HEQ10 := Lib.hid (shuf_two HM7.out HM4.out HM5.out hm10)
  have HT10 := Lib.hid hT10
  have HBB := below_after HBB hb HBB.size
  clear hm10 hT10 hb
  go_wp2_with fail
  refine (same_b (b := true) _ (HT7.out.below HBB) HT10.out ⟨fun _ => HEQ10.out, fun _ => rfl⟩ (by omega) (by omega)).mono ?_
  rintro e w11 ⟨rfl, hb⟩
  have HBB := below_after HBB hb HBB.size
  clear hb
  go_wp2_with fail
  refine (min_s _ (HT7.out.below (HBB.mono (Nat.le_refl _))) (Nat.le_trans (Nat.le_refl _) HBB.size) (by omega)).mono ?_
  rintro e w12 ⟨A12, M12, c12, m12, rfl, hm12, hM12, hT12, hb, _⟩
  have HEQ12 := Lib.hid (shuf_self HM7.out hm12)
  have HT12 := Lib.hid hT12
  have HBB := below_after HBB hb HBB.size
  clear hm12 hT12 hb
  go_wp2_with fail
  refine (same_b (b := true) _ (HT7.out.below HBB) HT12.out ⟨fun _ => HEQ12.out, fun _ => rfl⟩ (by omega) (by omega)).mono ?_
  rintro e w13 ⟨rfl, hb⟩
  have HBB := below_after HBB hb HBB.size
  clear hb
  go_wp2_with fail
  go_ret
  exact ⟨rfl, HB7.trans (HBB.mono HB7.size)⟩

theorem antiShuffled_walk (a1 : Int) {A0 : Option Addr} {n0 c0 : Nat} {l0 : List Tm} (w : World) (r0 : Tms w w.heap.size A0 n0 l0) (_ : n0 ≤ maxLen) (hnc : n0 ≤ c0) (_ : (Lit.int .i64 a1).wf = true) : Calls Try.prog 5 #[.slice A0 n0 c0, .int .i64 a1] w fun e w' => e = .returned (.bool true) ∧ Below w.heap.size w w' := by
  by_cases h0 : 60 < n0
  · exact ashuf_early0 w h0
  · by_cases h1 : a1 < 0
    · exact ashuf_early1 w h0 h1
    · by_cases h2 : (n0 : Int) < a1
      · exact ashuf_early2 w h0 h1 h2
      · obtain ⟨k, rfl⟩ : ∃ k : Nat, a1 = (k : Int) := ⟨a1.toNat, by omega⟩
        by_cases hck : c0 = k
        · subst hck
          exact ashuf_eq w r0 (by omega) hnc h0
        · exact ashuf_ne w r0 (by omega) hnc hck h0

namespace antiShuffled
set_option maxRecDepth 100000 in
theorem contract (H : Type) (enc : TypeId × Value → H) (W : World) (base : Nat) (args : Array Value) (ds gs : List (DataW H)) (before : List MemPlace)
    (hval : ∀ (j : Nat) t v, Try.f5.params[j]? = some t → args[j]? = some v → Value.okWide Try.prog W .any base t v)
    (hW : DataW.Whole enc Try.prog Try.f5.params.toList Rows.antiShuffledSpec.vars false W args.toList ds gs before) :
    Calls Try.prog 5 args W fun e W' => ∃ v, e = .returned v ∧ Rows.antiShuffledSpec.post enc Try.prog Try.f5 false true false false W args v W' := by
  have hWc := hW
  obtain ⟨p, q, hA0, hV, _, _, _⟩ := hW
  have hA : DataW.TrodAll enc Try.prog W 0 (fun _ => true) true Try.f5.params.toList args.toList ds p := hA0
  clear hA0
  rw [Try.params5] at hA hval
  obtain ⟨v0, vs0, d0, ds0, p0, q0, hargs, rfl, rfl, h0, r0⟩ := trodAll_cons hA
  obtain ⟨v1, vs1, d1, ds1, p1, q1, rfl, rfl, rfl, h1, r1⟩ := trodAll_cons r0
  obtain ⟨rfl, rfl, rfl⟩ := trodAll_nil r1
  obtain rfl : args = #[v0, v1] := by cases args; simp_all
  obtain ⟨A0, n0, c0, l0, rfl, hr0, hn0, hc0⟩ := open_tms (hval 0 38 v0 rfl rfl) h0
  obtain ⟨a1, rfl, rfl, rfl, wa1⟩ := open_int Try.underlying3 (hval 1 3 v1 rfl rfl) h1
  refine (antiShuffled_walk a1 W hr0 (Nat.le_trans hn0 hc0) hn0 wa1).mono fun e W' ⟨he, hb⟩ => ⟨_, he, ?_⟩
  exact post_true hWc rfl hb laidOut (readables (by kernel_rfl)) rfl Try.underlying4 (fun h => by subst h; rfl)

set_option maxRecDepth 100000 in
theorem lifted (os : Os) (started : os.Started) (H : Type) (enc : TypeId × Value → H) :
    ReturnsInHanded {} Try.checked os 5 .any (Rows.antiShuffledSpec.pre6 enc Try.prog Try.f5 Rows.antiShuffledRow.domain false) (Rows.antiShuffledSpec.post enc Try.prog Try.f5 false true false false) := by
  refine returnsInHanded_of_change (C := Try.checked) own started (by kernel_rfl) Try.func5
    (ChangeSpec.witness6 (enc := enc) (C := Try.checked) false ⟨#[], #[.slice none 0 0, .int .i64 0], []⟩ 8 (by kernel_rfl) (by kernel_rfl) (by kernel_rfl) (by kernel_rfl)) ?_
  intro W base args ds gs before hval hW _ _
  exact contract H enc W base args ds gs before hval hW

theorem proved : Rows.AntiShuffledSaid :=
  OpenClaim.holds_of_wide 5 Try.f5 rfl rfl rfl rfl rfl rfl rfl ⟨rfl, rfl, rfl, rfl, rfl⟩ rfl rfl rfl rfl rfl (by kernel_rfl) Try.func5 (by kernel_rfl)
    (of_decide_eq_true (by kernel_rfl)) (by unfold Func.isWrapper; first | (rw [if_pos (by decide +kernel)]; kernel_rfl) | (rw [if_neg (by decide +kernel)]; exact ⟨rfl, rfl⟩))
    (fun os started H enc _ => lifted os started H enc)
end antiShuffled
end Go.Proofs.Ytifoonjhcjmehaa
