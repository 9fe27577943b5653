/-
  AntiOrders: which rows of times are ahead of which, and that this goes on; the call returns true and changes nothing that was in memory.
-/
import Derived.Test.YtifoonjhcjmehaaAntiOpen
namespace Go.Proofs.Ytifoonjhcjmehaa
open Go.ChangeShapes Go.WideShapes Go.ChangeAt Go.RowKit Go.Joins
set_option linter.unusedSimpArgs false
set_option linter.unusedVariables false

set_option maxHeartbeats 400000 in
theorem aorders_early0 {A0 A1 A2 : Option Addr} {n0 n1 n2 c0 c1 c2 : Nat} (w : World) (h0 : 40 < n0) : Calls Try.prog 8 #[.slice A0 n0 c0, .slice A1 n1 c1, .slice A2 n2 c2] w fun e w' => e = .returned (.bool true) ∧ Below w.heap.size w w' := by
  go_enter Try.func8, Try.ntmps8
  go_wp2_with fail
  refine (alive4_any _).mono ?_
  rintro e w1 ⟨rfl, hb⟩
  go_wp2_with fail
  go_ret
  exact ⟨rfl, hb⟩

set_option maxHeartbeats 400000 in
theorem aorders_early1 {A0 A1 A2 : Option Addr} {n0 n1 n2 c0 c1 c2 : Nat} (w : World) (h0 : ¬ 40 < n0) (h1 : 40 < n1) : Calls Try.prog 8 #[.slice A0 n0 c0, .slice A1 n1 c1, .slice A2 n2 c2] w fun e w' => e = .returned (.bool true) ∧ Below w.heap.size w w' := by
  go_enter Try.func8, Try.ntmps8
  go_wp2_with fail
  refine (alive4_any _).mono ?_
  rintro e w1 ⟨rfl, hb⟩
  go_wp2_with fail
  go_ret
  exact ⟨rfl, hb⟩

set_option maxHeartbeats 400000 in
theorem aorders_early2 {A0 A1 A2 : Option Addr} {n0 n1 n2 c0 c1 c2 : Nat} (w : World) (h0 : ¬ 40 < n0) (h1 : ¬ 40 < n1) (h2 : 40 < n2) : Calls Try.prog 8 #[.slice A0 n0 c0, .slice A1 n1 c1, .slice A2 n2 c2] w fun e w' => e = .returned (.bool true) ∧ Below w.heap.size w w' := by
  go_enter Try.func8, Try.ntmps8
  go_wp2_with fail
  refine (alive4_any _).mono ?_
  rintro e w1 ⟨rfl, hb⟩
  go_wp2_with fail
  go_ret
  exact ⟨rfl, hb⟩

set_option maxRecDepth 100000 in
set_option maxHeartbeats 4000000 in
theorem aorders_main {A0 A1 A2 : Option Addr} {n0 n1 n2 c0 c1 c2 : Nat} {l0 l1 l2 : List Tm} (w : World) (r0 : Tms w w.heap.size A0 n0 l0) (r1 : Tms w w.heap.size A1 n1 l1) (r2 : Tms w w.heap.size A2 n2 l2) (h0 : ¬ 40 < n0) (h1 : ¬ 40 < n1) (h2 : ¬ 40 < n2) : Calls Try.prog 8 #[.slice A0 n0 c0, .slice A1 n1 c1, .slice A2 n2 c2] w fun e w' => e = .returned (.bool true) ∧ Below w.heap.size w w' := by
  have H0 := Lib.hid r0
  have H1 := Lib.hid r1
  have H2 := Lib.hid r2
  clear r0 r1 r2
  obtain ⟨u, hu⟩ : ∃ u, underL l0 l1 = u := ⟨_, rfl⟩
  have HU := Lib.hid hu
  clear hu
  have hbu : (u == u) = true := by simp
  go_enter Try.func8, Try.ntmps8
  go_wp2_with fail
  refine (alive4_any _).mono ?_
  rintro e w1 ⟨rfl, hb⟩
  have HB := hb
  clear hb
  go_wp2_with fail
  refine (under_s _ (H0.out.below HB) (H1.out.below HB) HB.size HB.size (by omega) (by omega) HU.out).mono ?_
  rintro e w2 ⟨rfl, hb⟩
  have HB := below_after HB hb HB.size
  clear hb
  go_wp2_with fail
  refine (runder_s _ (H0.out.below HB) (H1.out.below HB) HB.size HB.size (by omega) (by omega) HU.out).mono ?_
  rintro e w3 ⟨rfl, hb⟩
  have HB := below_after HB hb HB.size
  clear hb
  cases u
  · skip
    go_wp2_with fail
    refine (under_s _ (H0.out.below HB) (H1.out.below HB) HB.size HB.size (by omega) (by omega) HU.out).mono ?_
    rintro e w4 ⟨rfl, hb⟩
    have HB := below_after HB hb HB.size
    clear hb
    go_wp2_with fail
    refine (min_s _ (H0.out.below HB) HB.size (by omega)).mono ?_
    rintro e w5 ⟨A3, M3, c3, m3, rfl, hm3, hM3, hT3, hb, _⟩
    have HB := below_after HB hb HB.size
    clear hb
    have HM3 := Lib.hid hm3
    have HT3 := Lib.hid hT3
    clear hm3 hT3
    go_wp2_with fail
    refine (under_s _ (H0.out.below HB) HT3.out HB.size (Nat.le_refl _) (by omega) (by omega) HM3.out.under.1).mono ?_
    rintro e w6 ⟨rfl, hb⟩
    have HB := below_after HB hb HB.size
    clear hb
    go_wp2_with fail
    refine (min_s _ (H0.out.below HB) HB.size (by omega)).mono ?_
    rintro e w7 ⟨A4, M4, c4, m4, rfl, hm4, hM4, hT4, hb, _⟩
    have HB := below_after HB hb HB.size
    clear hb
    have HM4 := Lib.hid hm4
    have HT4 := Lib.hid hT4
    clear hm4 hT4
    go_wp2_with fail
    refine (under_s _ HT4.out (H0.out.below HB) (Nat.le_refl _) HB.size (by omega) (by omega) HM4.out.under.2).mono ?_
    rintro e w8 ⟨rfl, hb⟩
    have HB := below_after HB hb HB.size
    clear hb
    go_wp2_with fail
    go_ret
    exact ⟨rfl, HB⟩
  · obtain ⟨v, hv⟩ : ∃ v, underL l1 l2 = v := ⟨_, rfl⟩
    have HV := Lib.hid hv
    clear hv
    go_wp2_with fail
    refine (under_s _ (H0.out.below HB) (H1.out.below HB) HB.size HB.size (by omega) (by omega) HU.out).mono ?_
    rintro e w4 ⟨rfl, hb⟩
    have HB := below_after HB hb HB.size
    clear hb
    cases v
    · skip
      go_wp2_with fail
      refine (under_s _ (H1.out.below HB) (H2.out.below HB) HB.size HB.size (by omega) (by omega) HV.out).mono ?_
      rintro e w5 ⟨rfl, hb⟩
      have HB := below_after HB hb HB.size
      clear hb
      go_wp2_with fail
      refine (min_s _ (H0.out.below HB) HB.size (by omega)).mono ?_
      rintro e w6 ⟨A3, M3, c3, m3, rfl, hm3, hM3, hT3, hb, _⟩
      have HB := below_after HB hb HB.size
      clear hb
      have HM3 := Lib.hid hm3
      have HT3 := Lib.hid hT3
      clear hm3 hT3
      go_wp2_with fail
      refine (under_s _ (H0.out.below HB) HT3.out HB.size (Nat.le_refl _) (by omega) (by omega) HM3.out.under.1).mono ?_
      rintro e w7 ⟨rfl, hb⟩
      have HB := below_after HB hb HB.size
      clear hb
      go_wp2_with fail
      refine (min_s _ (H0.out.below HB) HB.size (by omega)).mono ?_
      rintro e w8 ⟨A4, M4, c4, m4, rfl, hm4, hM4, hT4, hb, _⟩
      have HB := below_after HB hb HB.size
      clear hb
      have HM4 := Lib.hid hm4
      have HT4 := Lib.hid hT4
      clear hm4 hT4
      go_wp2_with fail
      refine (under_s _ HT4.out (H0.out.below HB) (Nat.le_refl _) HB.size (by omega) (by omega) HM4.out.under.2).mono ?_
      rintro e w9 ⟨rfl, hb⟩
      have HB := below_after HB hb HB.size
      clear hb
      go_wp2_with fail
      go_ret
      exact ⟨rfl, HB⟩
    · skip
      go_wp2_with fail
      refine (under_s _ (H1.out.below HB) (H2.out.below HB) HB.size HB.size (by omega) (by omega) HV.out).mono ?_
      rintro e w5 ⟨rfl, hb⟩
      have HB := below_after HB hb HB.size
      clear hb
      go_wp2_with fail
      refine (under_s _ (H0.out.below HB) (H2.out.below HB) HB.size HB.size (by omega) (by omega) (underL_trans HU.out HV.out)).mono ?_
      rintro e w6 ⟨rfl, hb⟩
      have HB := below_after HB hb HB.size
      clear hb
      go_wp2_with fail
      refine (min_s _ (H0.out.below HB) HB.size (by omega)).mono ?_
      rintro e w7 ⟨A3, M3, c3, m3, rfl, hm3, hM3, hT3, hb, _⟩
      have HB := below_after HB hb HB.size
      clear hb
      have HM3 := Lib.hid hm3
      have HT3 := Lib.hid hT3
      clear hm3 hT3
      go_wp2_with fail
      refine (under_s _ (H0.out.below HB) HT3.out HB.size (Nat.le_refl _) (by omega) (by omega) HM3.out.under.1).mono ?_
      rintro e w8 ⟨rfl, hb⟩
      have HB := below_after HB hb HB.size
      clear hb
      go_wp2_with fail
      refine (min_s _ (H0.out.below HB) HB.size (by omega)).mono ?_
      rintro e w9 ⟨A4, M4, c4, m4, rfl, hm4, hM4, hT4, hb, _⟩
      have HB := below_after HB hb HB.size
      clear hb
      have HM4 := Lib.hid hm4
      have HT4 := Lib.hid hT4
      clear hm4 hT4
      go_wp2_with fail
      refine (under_s _ HT4.out (H0.out.below HB) (Nat.le_refl _) HB.size (by omega) (by omega) HM4.out.under.2).mono ?_
      rintro e w10 ⟨rfl, hb⟩
      have HB := below_after HB hb HB.size
      clear hb
      go_wp2_with fail
      go_ret
      exact ⟨rfl, HB⟩
theorem antiOrders_walk {A0 A1 A2 : Option Addr} {n0 n1 n2 c0 c1 c2 : Nat} {l0 l1 l2 : List Tm} (w : World) (r0 : Tms w w.heap.size A0 n0 l0) (_ : n0 ≤ maxLen) (_ : n0 ≤ c0) (r1 : Tms w w.heap.size A1 n1 l1) (_ : n1 ≤ maxLen) (_ : n1 ≤ c1) (r2 : Tms w w.heap.size A2 n2 l2) (_ : n2 ≤ maxLen) (_ : n2 ≤ c2) : Calls Try.prog 8 #[.slice A0 n0 c0, .slice A1 n1 c1, .slice A2 n2 c2] w fun e w' => e = .returned (.bool true) ∧ Below w.heap.size w w' := by
  by_cases h0 : 40 < n0
  · exact aorders_early0 w h0
  · by_cases h1 : 40 < n1
    · exact aorders_early1 w h0 h1
    · by_cases h2 : 40 < n2
      · exact aorders_early2 w h0 h1 h2
      · exact aorders_main w r0 r1 r2 h0 h1 h2

namespace antiOrders
set_option maxRecDepth 100000 in
theorem contract (H : Type) (enc : TypeId × Value → H) (W : World) (base : Nat) (args : Array Value) (ds gs : List (DataW H)) (before : List MemPlace)
    (hval : ∀ (j : Nat) t v, Try.f8.params[j]? = some t → args[j]? = some v → Value.okWide Try.prog W .any base t v)
    (hW : DataW.Whole enc Try.prog Try.f8.params.toList Rows.antiOrdersSpec.vars false W args.toList ds gs before) :
    Calls Try.prog 8 args W fun e W' => ∃ v, e = .returned v ∧ Rows.antiOrdersSpec.post enc Try.prog Try.f8 false true false false W args v W' := by
  have hWc := hW
  obtain ⟨p, q, hA0, hV, _, _, _⟩ := hW
  have hA : DataW.TrodAll enc Try.prog W 0 (fun _ => true) true Try.f8.params.toList args.toList ds p := hA0
  clear hA0
  rw [Try.params8] at hA hval
  obtain ⟨v0, vs0, d0, ds0, p0, q0, hargs, rfl, rfl, h0, r0⟩ := trodAll_cons hA
  obtain ⟨v1, vs1, d1, ds1, p1, q1, rfl, rfl, rfl, h1, r1⟩ := trodAll_cons r0
  obtain ⟨v2, vs2, d2, ds2, p2, q2, rfl, rfl, rfl, h2, r2⟩ := trodAll_cons r1
  obtain ⟨rfl, rfl, rfl⟩ := trodAll_nil r2
  obtain rfl : args = #[v0, v1, v2] := by cases args; simp_all
  obtain ⟨A0, n0, c0, l0, rfl, hr0, hn0, hc0⟩ := open_tms (hval 0 38 v0 rfl rfl) h0
  obtain ⟨A1, n1, c1, l1, rfl, hr1, hn1, hc1⟩ := open_tms (hval 1 38 v1 rfl rfl) h1
  obtain ⟨A2, n2, c2, l2, rfl, hr2, hn2, hc2⟩ := open_tms (hval 2 38 v2 rfl rfl) h2
  refine (antiOrders_walk  W hr0 (Nat.le_trans hn0 hc0) hn0 hr1 (Nat.le_trans hn1 hc1) hn1 hr2 (Nat.le_trans hn2 hc2) hn2).mono fun e W' ⟨he, hb⟩ => ⟨_, he, ?_⟩
  exact post_true hWc rfl hb laidOut (readables (by kernel_rfl)) rfl Try.underlying4 (fun h => by subst h; rfl)

set_option maxRecDepth 100000 in
theorem lifted (os : Os) (started : os.Started) (H : Type) (enc : TypeId × Value → H) :
    ReturnsInHanded {} Try.checked os 8 .any (Rows.antiOrdersSpec.pre6 enc Try.prog Try.f8 Rows.antiOrdersRow.domain false) (Rows.antiOrdersSpec.post enc Try.prog Try.f8 false true false false) := by
  refine returnsInHanded_of_change (C := Try.checked) own started (by kernel_rfl) Try.func8
    (ChangeSpec.witness6 (enc := enc) (C := Try.checked) false ⟨#[], #[.slice none 0 0, .slice none 0 0, .slice none 0 0], []⟩ 8 (by kernel_rfl) (by kernel_rfl) (by kernel_rfl) (by kernel_rfl)) ?_
  intro W base args ds gs before hval hW _ _
  exact contract H enc W base args ds gs before hval hW

theorem proved : Rows.AntiOrdersSaid :=
  OpenClaim.holds_of_wide 8 Try.f8 rfl rfl rfl rfl rfl rfl rfl ⟨rfl, rfl, rfl, rfl, rfl⟩ rfl rfl rfl rfl rfl (by kernel_rfl) Try.func8 (by kernel_rfl)
    (of_decide_eq_true (by kernel_rfl)) (by unfold Func.isWrapper; first | (rw [if_pos (by decide +kernel)]; kernel_rfl) | (rw [if_neg (by decide +kernel)]; exact ⟨rfl, rfl⟩))
    (fun os started H enc _ => lifted os started H enc)
end antiOrders
end Go.Proofs.Ytifoonjhcjmehaa
