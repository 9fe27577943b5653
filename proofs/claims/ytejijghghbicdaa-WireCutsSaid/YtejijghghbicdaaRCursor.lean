/-
  The reference's cursor, by contracts in the words of the other one: Word, Int, Left, End.
-/
import Derived.Test.YtejijghghbicdaaCursor2
import Derived.Outline
namespace Go.Proofs.Ytejijghghbicdaa
open Go.RowKit
variable {B : Nat}
set_option linter.unusedSimpArgs false
set_option linter.unusedVariables false

/-- The reference's cursor in block g has the bytes l left. -/
def RC (w : World) (B g : Nat) (l : List Nat) (bad : Bool) : Prop :=
  ∃ (A : Option Addr) (n c a : Nat) (all : List Nat), Blk w g 43 #[.slice A n c, .int .i64 (a : Nat), .bool bad] ∧ Reads w B 1 A n (u8s all) ∧ B ≤ g ∧ a ≤ n ∧ n ≤ 1000000000 ∧ (bad = true → l = []) ∧ (bad = false → l = all.drop a)
theorem RC.drewN {w : World} {g : Nat} {l : List Nat} {bad : Bool} (h : RC w B g l bad) (n : Nat) : RC (w.drewN n) B g l bad := h
theorem RC.drew {w : World} {g : Nat} {l : List Nat} {bad : Bool} (h : RC w B g l bad) : RC w.drew B g l bad := h
theorem rd_nil (top : Nat) : rd top [] = none := rfl
theorem rdV_nil (top : Nat) : rdV top [] = 0 := rfl
theorem rdL_nil (top : Nat) : rdL top [] = [] := rfl
theorem rdB_nil (top : Nat) (bad : Bool) : rdB top [] bad = true := rfl
theorem RC.spoiled {w : World} {g : Nat} {l : List Nat} {bad : Bool} (h : RC w B g l bad) : RC (w.setCell ⟨g, 2, none⟩ (.bool true)) B g [] true := by
  obtain ⟨A, n, c, a, all, hB, hR, hBg, ha, hn, _, _⟩ := h
  refine ⟨A, n, c, a, all, by simpa using hB.set_ 2 (.bool true), hR.setCell hBg _, hBg, ha, hn, fun _ => rfl, fun h => by cases h⟩
theorem set_grown {w w' : World} {g i : Nat} {u : Value} {r : Option Nat} (hr : r = some g) (h : w.grownBy w' r) : w.grownBy (w'.setCell ⟨g, i, none⟩ u) r := by
  subst hr; exact grown_set h u

set_option maxHeartbeats 1000000 in
theorem rcleft_any {g : Nat} {l : List Nat} {bad : Bool} (w : World) (h : RC w B g l bad) :
    Calls Try.prog 31 #[.pointer (some ⟨g, 0, none⟩)] w fun e w' => e = .returned (.int .i64 (l.length : Nat)) ∧ ∃ q, w' = w.drewN q := by
  obtain ⟨A, n, c, a, all, hB, hR, hBg, ha, hn, h1, h2⟩ := h
  have c0 := hB.c
  cases bad
  · have hl : n - a = l.length := by rw [h2 rfl]; have := hR.1; simp at this ⊢; omega
    have HL := Lib.hid hl
    have HR := Lib.hid hR
    have e1 : IntKind.i64.wrap ((n : Int) - (a : Int)) = (n : Int) - (a : Int) := IntWalk.i64_in _ (by omega)
    clear hl hR h1 h2
    go_enter Try.func31, Try.ntmps31
    go_wp2_with fail
    go_quiet (fail)
    go_wp2_with fail
    go_ret
    refine ⟨?_, _, rfl⟩
    rw [← HL.out, show ((n - a : Nat) : Int) = (n : Int) - (a : Int) by omega]
    rfl
  · have hl : l = [] := h1 rfl
    subst hl
    have HR := Lib.hid hR
    clear hR h1 h2
    go_enter Try.func31, Try.ntmps31
    go_wp2_with fail
    go_ret
    exact ⟨rfl, 0, rfl⟩

set_option maxHeartbeats 1000000 in
theorem rcend_any {g : Nat} {l : List Nat} {bad : Bool} (w : World) (h : RC w B g l bad) :
    Calls Try.prog 32 #[.pointer (some ⟨g, 0, none⟩)] w fun e w' => e = .returned (.bool (!bad && l.isEmpty)) ∧ ∃ q, w' = w.drewN q := by
  obtain ⟨A, n, c, a, all, hB, hR, hBg, ha, hn, h1, h2⟩ := h
  have c0 := hB.c
  cases bad
  · have hl : n - a = l.length := by rw [h2 rfl]; have := hR.1; simp at this ⊢; omega
    by_cases h0 : a = n
    · have hb : decide ((a : Int) = (n : Int)) = true := by simp [h0]
      have hb' : ((a : Int) == (n : Int)) = true := by simp [h0]
      have he := Lib.hid (show l.isEmpty = true by rw [List.isEmpty_iff_length_eq_zero, ← hl]; omega)
      have HR := Lib.hid hR
      clear hl hR h1 h2 h0
      go_enter Try.func32, Try.ntmps32
      go_wp2_with fail
      go_quiet (fail)
      go_wp2_with fail
      go_ret
      exact ⟨by rw [he.out]; rfl, _, rfl⟩
    · have hb' : ((a : Int) == (n : Int)) = false := by simp; omega
      have he := Lib.hid (show l.isEmpty = false by cases l with | nil => (simp at hl; omega) | cons _ _ => rfl)
      have HR := Lib.hid hR
      clear hl hR h1 h2 h0
      go_enter Try.func32, Try.ntmps32
      go_wp2_with fail
      go_quiet (fail)
      go_wp2_with fail
      go_ret
      exact ⟨by rw [he.out]; rfl, _, rfl⟩
  · have HR := Lib.hid hR
    have H1 := Lib.hid (h1 rfl)
    clear hR h1 h2
    go_enter Try.func32, Try.ntmps32
    go_wp2_with fail
    go_quiet (fail)
    go_wp2_with fail
    go_ret
    exact ⟨rfl, _, rfl⟩
end Go.Proofs.Ytejijghghbicdaa
