/-
  AntiApart: of the least ones none is under another one, each was there, and each that was has one of them ahead; the call returns true and changes nothing that was in memory.
-/
import Derived.Test.YtifoonjhcjmehaaAntiOpen
namespace Go.Proofs.Ytifoonjhcjmehaa
open Go.ChangeShapes Go.WideShapes Go.ChangeAt Go.RowKit Go.Joins
set_option linter.unusedSimpArgs false
set_option linter.unusedVariables false
def thereK (l : List Tm) (x : Tm) (k : Nat) : Bool := (l.take k).any fun y => decide (y = x)
theorem thereK_zero (l : List Tm) (x : Tm) : thereK l x 0 = false := rfl
theorem thereK_succ {l : List Tm} {x : Tm} {k : Nat} (hk : k < l.length) : thereK l x (k + 1) = (thereK l x k || decide (Tm.at_ l k = x)) := by
  unfold thereK
  rw [take_succ_at hk, List.any_append]
  simp
theorem thereK_all {l : List Tm} {x : Tm} {n : Nat} (hn : l.length = n) (hx : x ∈ l) : thereK l x n = true := by
  unfold thereK
  rw [List.take_of_length_le (by omega), List.any_eq_true]
  exact ⟨x, hx, by simp⟩
theorem IsMin.step {l m : List Tm} (h : IsMin l m) {i : Nat} (hi : i + 1 < m.length) : (Tm.at_ m i).e < (Tm.at_ m (i + 1)).e ∧ (Tm.at_ m (i + 1)).l < (Tm.at_ m i).l := by
  have := List.pairwise_iff_getElem.1 h.rise i (i + 1) (by omega) hi (by omega)
  rw [Tm.at_some (List.getElem?_eq_getElem hi), Tm.at_some (List.getElem?_eq_getElem (by omega : i < m.length))]
  exact this
theorem IsMin.has_all {l m : List Tm} (h : IsMin l m) {x : Tm} (hx : x ∈ l) (hm : x.may = true) : hasL m x = true := by
  rw [h.has]; exact hasL_iff.2 ⟨hm, x, hx, hm, Tm.le_refl x⟩

set_option maxHeartbeats 400000 in
theorem aapart_early {A0 : Option Addr} {n0 c0 : Nat} (w : World) (h0 : 60 < n0) : Calls Try.prog 7 #[.slice A0 n0 c0] w fun e w' => e = .returned (.bool true) ∧ Below w.heap.size w w' := by
  go_enter Try.func7, Try.ntmps7
  go_wp2_with fail
  refine (alive4_any _).mono ?_
  rintro e w1 ⟨rfl, HB⟩
  go_wp2_with fail
  go_ret
  exact ⟨rfl, HB⟩

set_option maxRecDepth 100000 in
set_option maxHeartbeats 4000000 in
theorem aapart_main {A0 : Option Addr} {n0 c0 : Nat} {l0 : List Tm} (w : World) (r0 : Tms w w.heap.size A0 n0 l0) (h0 : ¬ 60 < n0) : Calls Try.prog 7 #[.slice A0 n0 c0] w fun e w' => e = .returned (.bool true) ∧ Below w.heap.size w w' := by
  have H0 := Lib.hid r0
  have HL := Lib.hid (Tms.len r0)
  clear r0
  go_enter Try.func7, Try.ntmps7
  go_wp2_with fail
  refine (alive4_any _).mono ?_
  rintro e w1 ⟨rfl, HB⟩
  go_wp2_with fail
  refine (min_s _ (H0.out.below HB) HB.size (by omega)).mono ?_
  rintro e w3 ⟨A3, M3, c3, m3, rfl, hm3, hM3, hT3, hb, _⟩
  have HB3 := below_after HB hb HB.size
  have HM3 := Lib.hid hm3
  have HL3 := Lib.hid (Tms.len hT3)
  have HT3 := Lib.hid hT3
  have H03 := Lib.hid (H0.out.below HB3)
  clear hm3 hT3 hb
  go_wp2_with fail
  go_loopw [5] (fun vi wr => ∃ i : Nat, i ≤ M3 ∧ vi = .int .i64 i ∧ Hid (Below w3.heap.size w3 wr)) (fun vi _ => M3 - (intOf vi).toNat)
  case atStart => exact ⟨0, Nat.zero_le _, rfl, Lib.hid (Below.refl _ _)⟩
  case round =>
    obtain ⟨i, hi, rfl, HBR⟩ := hrel
    by_cases hlt : i < M3
    · go_wp2_with fail
      obtain ⟨y, hy⟩ : ∃ y, Tm.at_ m3 i = y := ⟨_, rfl⟩
      have HY := Lib.hid hy
      have HYL := Lib.hid (show y ∈ l0 from hy ▸ (HM3.out.sub _ (Tm.at_mem (by have := HL3.out; omega))).1)
      clear hy
      go_loopw [6, 7] (fun vo vk w2 => ∃ k : Nat, k ≤ n0 ∧ vk = .int .i64 k ∧ vo = .bool (thereK l0 y k) ∧ Hid (Below w3.heap.size w3 w2)) (fun _ vk _ => n0 - (intOf vk).toNat)
      case atStart => exact ⟨0, Nat.zero_le _, rfl, rfl, HBR⟩
      case round =>
        obtain ⟨k, hk, rfl, rfl, HBK⟩ := hrel
        by_cases hlk : k < n0
        · have hsucc := thereK_succ (l := l0) (x := y) (k := k) (by have := HL.out; omega)
          cases hth : thereK l0 y k
          · obtain ⟨ad, rfl, hab, hp, hmem, hc0, hc1⟩ := Tms.tm (H03.out.below (HBK.out.mono HB3.size)) hlk
            obtain ⟨ad3, rfl, hab3, hp3, hmem3, hd0, hd1⟩ := Tms.tm (HT3.out.below HBK.out) hlt
            rw [HY.out] at hp3 hmem3 hd0 hd1
            obtain ⟨x, hx⟩ : ∃ x, Tm.at_ l0 k = x := ⟨_, rfl⟩
            rw [hx] at hp hmem hc0 hc1 hsucc
            rw [hth, Bool.false_or] at hsucc
            have hq : ∀ w, (binOp .eql 33 (.agg #[.int .i64 x.e, .int .i64 x.l]) (.agg #[.int .i64 y.e, .int .i64 y.l])).run Try.prog w = .ok (.bool (decide (x = y))) w := run_tm (by simp)
            obtain ⟨b, hb⟩ : ∃ b, decide (x = y) = b := ⟨_, rfl⟩
            rw [hb] at hsucc hq
            have HSUCC := Lib.hid hsucc
            clear hb hsucc hth hp hmem hp3 hmem3 hx
            go_wp2_with fail
            go_quiet (fail)
            go_wp2_with fail
            go_roundw
            case rel => exact ⟨k + 1, by omega, by go_num, by rw [HSUCC.out], Lib.hid (below_drewN HBK.out _)⟩
            case measure => simp [intOf]; omega
          · rw [hth, Bool.true_or] at hsucc
            have HSUCC := Lib.hid hsucc
            clear hsucc hth
            go_wp2_with fail
            go_quiet (fail)
            go_wp2_with fail
            go_roundw
            case rel => exact ⟨k + 1, by omega, by go_num, by rw [HSUCC.out], Lib.hid (below_drewN HBK.out _)⟩
            case measure => simp [intOf]; omega
        · obtain rfl : k = n0 := by omega
          have hth := thereK_all HL.out HYL.out
          rw [hth]
          clear hth
          rcases i with _ | i
          · go_wp2_with fail
            go_quiet (fail)
            go_wp2_with fail
            go_roundw
            case rel => exact ⟨0 + 1, by omega, by go_num, Lib.hid (below_drewN HBK.out _)⟩
            case measure => simp [intOf]; omega
          · obtain ⟨ad3, rfl, hab3, hp3, hmem3, hd0, hd1⟩ := Tms.tm (HT3.out.below HBK.out) hlt
            obtain ⟨ad4, e4, hab4, hp4, hmem4, hg0, hg1⟩ := Tms.tm (k := i) (HT3.out.below HBK.out) (by omega)
            cases e4
            obtain ⟨hE, hL⟩ := HM3.out.step (i := i) (by have := HL3.out; omega)
            rw [HY.out] at hd0 hd1 hE hL
            generalize Tm.at_ m3 i = x at hg0 hg1 hE hL
            have hEd : decide (y.e ≤ x.e) = false := by simp; omega
            have hLd : decide (x.l ≤ y.l) = false := by simp; omega
            have hi1 : (i : Int) ≤ 1000 := by omega
            have hwr : IntKind.i64.wrap (i : Int) = (i : Int) := by rw [IntKind.wrap_i64]; omega
            have hgt : decide ((0 : Int) < (i : Int) + 1) = true := by first | (simp; done) | (simp; omega)
            have hiM : i < M3 := by omega
            clear hE hL hp3 hmem3 hp4 hmem4
            go_wp2_with fail
            go_quiet (fail)
            go_wp2_with fail
            go_roundw
            case rel => exact ⟨i + 1 + 1, by omega, by go_num, Lib.hid (below_drewN HBK.out _)⟩
            case measure => simp [intOf]; omega
    · obtain rfl : i = M3 := by omega
      go_wp2_with fail
      go_loopw [8] (fun vi w2 => ∃ i : Nat, i ≤ n0 ∧ vi = .int .i64 i ∧ Hid (Below w3.heap.size w3 w2)) (fun vi _ => n0 - (intOf vi).toNat)
      case atStart => exact ⟨0, Nat.zero_le _, rfl, HBR⟩
      case round =>
        obtain ⟨k, hk, rfl, HBK⟩ := hrel
        by_cases hlk : k < n0
        · obtain ⟨ad, rfl, hab, hp, hmem, hc0, hc1⟩ := Tms.tm (H03.out.below (HBK.out.mono HB3.size)) hlk
          obtain ⟨x, hx⟩ : ∃ x, Tm.at_ l0 k = x := ⟨_, rfl⟩
          rw [hx] at hp hmem hc0 hc1
          have HMEM := Lib.hid hmem
          have hcb := Nat.lt_of_lt_of_le (show (ad.add (k * 2)).block < w3.heap.size by rw [block_of_add]; have := HB3.size; omega) HBK.out.size
          have hz2 := HBK.out.size
          clear hx hp hmem
          cases hm : x.may
          · have HM := Lib.hid hm
            clear hm
            go_wp2_with fail
            refine (rmay_b _ HM.out).mono ?_
            rintro e w4 ⟨rfl, hb⟩
            have HB4 := Lib.hid (below_after HBK.out hb HBK.out.size)
            clear hb
            go_wp2_with fail
            go_roundw
            case rel => exact ⟨k + 1, by omega, by go_num, HB4⟩
            case measure => simp [intOf]; omega
          · have HM := Lib.hid hm
            clear hm
            go_wp2_with fail
            refine (rmay_b _ HM.out).mono ?_
            rintro e w4 ⟨rfl, hb⟩
            have HB4 := Lib.hid (below_after HBK.out hb HBK.out.size)
            have hd0 := (hb.cell hcb).trans hc0
            have hd1 := (hb.cell (p := ⟨(ad.add (k * 2)).block, (ad.add (k * 2)).off + 1, none⟩) hcb).trans hc1
            clear hb hc0 hc1
            go_wp2_with fail
            refine (has_b _ (HT3.out.below HB4.out) HB4.out.size (by omega) (HM3.out.has_all HMEM.out HM.out)).mono ?_
            rintro e w5 ⟨rfl, hb⟩
            have HB5 := Lib.hid (below_after HB4.out hb HB4.out.size)
            clear hb
            go_wp2_with fail
            go_roundw
            case rel => exact ⟨k + 1, by omega, by go_num, HB5⟩
            case measure => simp [intOf]; omega
        · go_wp2_with fail
          go_ret
          exact ⟨rfl, HB3.trans (HBK.out.mono HB3.size)⟩
theorem antiApart_walk {A0 : Option Addr} {n0 c0 : Nat} {l0 : List Tm} (w : World) (r0 : Tms w w.heap.size A0 n0 l0) (_ : n0 ≤ maxLen) (_ : n0 ≤ c0) : Calls Try.prog 7 #[.slice A0 n0 c0] w fun e w' => e = .returned (.bool true) ∧ Below w.heap.size w w' := by
  by_cases h0 : 60 < n0
  · exact aapart_early w h0
  · exact aapart_main w r0 h0

namespace antiApart
set_option maxRecDepth 100000 in
theorem contract (H : Type) (enc : TypeId × Value → H) (W : World) (base : Nat) (args : Array Value) (ds gs : List (DataW H)) (before : List MemPlace)
    (hval : ∀ (j : Nat) t v, Try.f7.params[j]? = some t → args[j]? = some v → Value.okWide Try.prog W .any base t v)
    (hW : DataW.Whole enc Try.prog Try.f7.params.toList Rows.antiApartSpec.vars false W args.toList ds gs before) :
    Calls Try.prog 7 args W fun e W' => ∃ v, e = .returned v ∧ Rows.antiApartSpec.post enc Try.prog Try.f7 false true false false W args v W' := by
  have hWc := hW
  obtain ⟨p, q, hA0, hV, _, _, _⟩ := hW
  have hA : DataW.TrodAll enc Try.prog W 0 (fun _ => true) true Try.f7.params.toList args.toList ds p := hA0
  clear hA0
  rw [Try.params7] at hA hval
  obtain ⟨v0, vs0, d0, ds0, p0, q0, hargs, rfl, rfl, h0, r0⟩ := trodAll_cons hA
  obtain ⟨rfl, rfl, rfl⟩ := trodAll_nil r0
  obtain rfl : args = #[v0] := by cases args; simp_all
  obtain ⟨A0, n0, c0, l0, rfl, hr0, hn0, hc0⟩ := open_tms (hval 0 38 v0 rfl rfl) h0
  refine (antiApart_walk  W hr0 (Nat.le_trans hn0 hc0) hn0).mono fun e W' ⟨he, hb⟩ => ⟨_, he, ?_⟩
  exact post_true hWc rfl hb laidOut (readables (by kernel_rfl)) rfl Try.underlying4 (fun h => by subst h; rfl)

set_option maxRecDepth 100000 in
theorem lifted (os : Os) (started : os.Started) (H : Type) (enc : TypeId × Value → H) :
    ReturnsInHanded {} Try.checked os 7 .any (Rows.antiApartSpec.pre6 enc Try.prog Try.f7 Rows.antiApartRow.domain false) (Rows.antiApartSpec.post enc Try.prog Try.f7 false true false false) := by
  refine returnsInHanded_of_change (C := Try.checked) own started (by kernel_rfl) Try.func7
    (ChangeSpec.witness6 (enc := enc) (C := Try.checked) false ⟨#[], #[.slice none 0 0], []⟩ 8 (by kernel_rfl) (by kernel_rfl) (by kernel_rfl) (by kernel_rfl)) ?_
  intro W base args ds gs before hval hW _ _
  exact contract H enc W base args ds gs before hval hW

theorem proved : Rows.AntiApartSaid :=
  OpenClaim.holds_of_wide 7 Try.f7 rfl rfl rfl rfl rfl rfl rfl ⟨rfl, rfl, rfl, rfl, rfl⟩ rfl rfl rfl rfl rfl (by kernel_rfl) Try.func7 (by kernel_rfl)
    (of_decide_eq_true (by kernel_rfl)) (by unfold Func.isWrapper; first | (rw [if_pos (by decide +kernel)]; kernel_rfl) | (rw [if_neg (by decide +kernel)]; exact ⟨rfl, rfl⟩))
    (fun os started H enc _ => lifted os started H enc)
end antiApart
end Go.Proofs.Ytifoonjhcjmehaa
