/-
  Has and Under, by contracts.
-/
import Derived.Test.YtifoonjhcjmehaaMin
namespace Go.Proofs.Ytifoonjhcjmehaa
open Go.RowKit
set_option linter.unusedSimpArgs false
set_option linter.unusedVariables false

set_option maxRecDepth 100000 in
set_option maxHeartbeats 2000000 in
theorem h1_any {b : Nat} {gs : List Nat} {t : Tm} (w : World) (h : Blk w b 33 #[.int .i64 t.e, .int .i64 t.l]) (hg : b ∉ gs) : PredT 45 #[.pointer (some ⟨b, 0, none⟩)] gs (fun x => x.may && x.le t) w := fun W x hT => by
  have KT := h.touch hT hg
  have hz := KT.lt
  have K0 := (Blk.new W 33 #[.int .i64 x.e, .int .i64 x.l])
  have KA := KT.alloc (.cells #[.int .i64 x.e, .int .i64 x.l] 33)
  have c0 := KA.c
  clear h
  show Calls Try.prog 45 #[tmv x, .pointer (some ⟨b, 0, none⟩)] W _
  have HB := (Below.refl W.heap.size W).alloc (Nat.le_refl _) (.cells #[.int .i64 x.e, .int .i64 x.l] 33)
  cases hm : x.may
  · have HM := Lib.hid hm
    clear hm
    go_enter Try.func45, Try.ntmps45
    go_wp2_with fail
    refine (may_b _ HM.out).mono ?_
    rintro e w1 ⟨rfl, hb⟩
    have HB1 := below_after HB hb HB.size
    go_wp2_with fail
    go_ret
    exact ⟨by rw [HM.out]; rfl, HB1⟩
  · have HM := Lib.hid hm
    clear hm
    cases hl : x.le t
    all_goals
      have HL := Lib.hid hl
      clear hl
      go_enter Try.func45, Try.ntmps45
      go_wp2_with fail
      refine (may_b _ HM.out).mono ?_
      rintro e w1 ⟨rfl, hb⟩
      have K1 := K0.on hb
      have KT1 := KA.on hb
      have c1 := K1.c
      have ct := KT1.c
      have HB1 := below_after HB hb HB.size
      go_wp2_with fail
      refine (less_b _ HL.out).mono ?_
      rintro e w2 ⟨rfl, hb2⟩
      have HB2 := below_after HB1 hb2 HB1.size
      go_wp2_with fail
      go_ret
      exact ⟨by rw [HM.out, HL.out]; rfl, HB2⟩
theorem h1_enters (args : Array Value) (w : World) : (callFunc 45 args).run Try.prog w = .ok (.enter 45 args) w := by kernel_rfl
theorem u1_enters (args : Array Value) (w : World) : (callFunc 37 args).run Try.prog w = .ok (.enter 37 args) w := by kernel_rfl

theorem hasL_any {l : List Tm} {t : Tm} (h : t.may = true) : (l.any fun x => x.may && x.le t) = hasL l t := by unfold hasL; rw [h]; rfl
theorem hasL_may {l : List Tm} {t : Tm} (h : t.may = false) : hasL l t = false := by unfold hasL; rw [h]; rfl

set_option maxRecDepth 100000 in
set_option maxHeartbeats 2000000 in
theorem has_b {B n c : Nat} {A : Option Addr} {l : List Tm} {t : Tm} {r : Bool} (w : World) (h : Tms w B A n l) (hB : B ≤ w.heap.size) (hn : n ≤ 1000000) (hr : hasL l t = r) :
    Calls Try.prog 24 #[.slice A n c, tmv t] w fun e w' => e = .returned (.bool r) ∧ Below w.heap.size w w' := by
  have K0 := (Blk.new w 33 #[.int .i64 t.e, .int .i64 t.l])
  have HB := (Below.refl w.heap.size w).alloc (Nat.le_refl _) (.cells #[.int .i64 t.e, .int .i64 t.l] 33)
  cases hm : t.may
  · have HR := Lib.hid ((hasL_may hm).symm.trans hr)
    have HM := Lib.hid hm
    clear hm h hr
    go_enter Try.func24, Try.ntmps24
    go_wp2_with fail
    refine (may_b _ HM.out).mono ?_
    rintro e w1 ⟨rfl, hb⟩
    have HB1 := below_after HB hb HB.size
    go_wp2_with fail
    go_ret
    exact ⟨by rw [← HR.out]; rfl, HB1⟩
  · have HR := Lib.hid ((hasL_any hm).trans hr)
    have HM := Lib.hid hm
    have HH := Lib.hid h
    clear hm h hr
    go_enter Try.func24, Try.ntmps24
    go_wp2_with fail
    refine (may_b _ HM.out).mono ?_
    rintro e w1 ⟨rfl, hb⟩
    have HB1 := below_after HB hb HB.size
    have K1 := K0.on hb
    go_wp2_with fail
    refine (contf_b (gs := []) _ (HH.out.below (HB1.mono hB)) (Nat.le_trans hB HB1.size) hn (h1_any _ K1 (by simp)) h1_enters HR.out).mono ?_
    rintro e w2 ⟨rfl, hb2⟩
    have HB2 := below_after HB1 hb2 HB1.size
    go_wp2_with fail
    go_ret
    exact ⟨rfl, HB2⟩

set_option maxRecDepth 100000 in
set_option maxHeartbeats 2000000 in
theorem u1_any {b B n c : Nat} {A : Option Addr} {l : List Tm} (w : World) (h : Blk w b 38 #[.slice A n c]) (hl : Tms w B A n l) (hB : B ≤ w.heap.size) (hn : n ≤ 1000000) :
    PredT 37 #[.pointer (some ⟨b, 0, none⟩)] [] (fun t => t.may && !hasL l t) w := fun W x hT => by
  have KT := h.touch hT (by simp)
  have hz := KT.lt
  have K0 := (Blk.new W 33 #[.int .i64 x.e, .int .i64 x.l])
  have KA := KT.alloc (.cells #[.int .i64 x.e, .int .i64 x.l] 33)
  have HT := Lib.hid (hl.touch hT (by simp) hB)
  have hBW : B ≤ W.heap.size := Nat.le_trans hB hT.size
  clear h hl
  show Calls Try.prog 37 #[tmv x, .pointer (some ⟨b, 0, none⟩)] W _
  have HB := (Below.refl W.heap.size W).alloc (Nat.le_refl _) (.cells #[.int .i64 x.e, .int .i64 x.l] 33)
  cases hm : x.may
  · have HM := Lib.hid hm
    clear hm
    go_enter Try.func37, Try.ntmps37
    go_wp2_with fail
    refine (may_b _ HM.out).mono ?_
    rintro e w1 ⟨rfl, hb⟩
    have HB1 := below_after HB hb HB.size
    go_wp2_with fail
    go_ret
    exact ⟨by rw [HM.out]; rfl, HB1⟩
  · have HM := Lib.hid hm
    clear hm
    cases hl : hasL l x
    all_goals
      have HL := Lib.hid hl
      clear hl
      go_enter Try.func37, Try.ntmps37
      go_wp2_with fail
      refine (may_b _ HM.out).mono ?_
      rintro e w1 ⟨rfl, hb⟩
      have K1 := K0.on hb
      have KT1 := KA.on hb
      have c1 := K1.c
      have ct := KT1.c
      have HB1 := below_after HB hb HB.size
      go_wp2_with fail
      refine (has_b _ (HT.out.below (HB1.mono hBW)) (Nat.le_trans hBW HB1.size) hn HL.out).mono ?_
      rintro e w2 ⟨rfl, hb2⟩
      have HB2 := below_after HB1 hb2 HB1.size
      go_wp2_with fail
      go_ret
      exact ⟨by rw [HM.out, HL.out]; rfl, HB2⟩

theorem underL_any (a b : List Tm) : (b.any fun t => t.may && !hasL a t) = !underL a b := by
  rw [Bool.eq_iff_iff, List.any_eq_true]
  cases hu : underL a b
  · simp only [Bool.not_false, iff_true]
    by_cases h : ∃ x, x ∈ b ∧ (x.may && !hasL a x) = true
    · exact h
    · exfalso
      have : underL a b = true := by
        rw [underL_iff]
        intro t ht hm
        cases hh : hasL a t
        · exact absurd ⟨t, ht, by rw [hm, hh]; rfl⟩ h
        · rfl
      rw [hu] at this; cases this
  · simp only [Bool.not_true, Bool.false_eq_true, iff_false]
    rintro ⟨x, hx, hb⟩
    cases hm : x.may
    · rw [hm] at hb; cases hb
    · rw [underL_iff.1 hu x hx hm, hm] at hb; cases hb

set_option maxRecDepth 100000 in
set_option maxHeartbeats 2000000 in
theorem under_b {B n m c c2 : Nat} {A A2 : Option Addr} {a b : List Tm} {r : Bool} (w : World) (h1 : Tms w B A n a) (h2 : Tms w B A2 m b) (hB : B ≤ w.heap.size) (hn : n ≤ 1000000) (hm : m ≤ 1000000) (hr : underL a b = r) :
    Calls Try.prog 21 #[.slice A n c, .slice A2 m c2] w fun e w' => e = .returned (.bool r) ∧ Below w.heap.size w w' := by
  have K0 := (Blk.new w 38 #[.slice A n c])
  have HB := (Below.refl w.heap.size w).alloc (Nat.le_refl _) (.cells #[.slice A n c] 38)
  have HR := Lib.hid (show (b.any fun t => t.may && !hasL a t) = !r by rw [underL_any, hr])
  have H1 := Lib.hid h1
  have H2 := Lib.hid h2
  clear h1 h2 hr
  go_enter Try.func21, Try.ntmps21
  go_wp2_with fail
  refine (contf_b (gs := []) _ (H2.out.below (HB.mono hB)) (Nat.le_trans hB HB.size) hm (u1_any _ K0 (H1.out.below (HB.mono hB)) (Nat.le_trans hB HB.size) hn) u1_enters HR.out).mono ?_
  rintro e w2 ⟨rfl, hb2⟩
  have HB2 := below_after HB hb2 HB.size
  go_wp2_with fail
  go_ret
  exact ⟨by simp, HB2⟩
end Go.Proofs.Ytifoonjhcjmehaa
