/-
  What the functions of package ptime, and those of the reference beside them, return: one contract a function, for every argument; nothing that was in memory has changed.
-/
import Derived.Test.YtifoonjhcjmehaaBase
namespace Go.Proofs.Ytifoonjhcjmehaa
open Go.RowKit

abbrev tv (e l : Int) : Value := .agg #[.int .i64 e, .int .i64 l]
abbrev pv (o : Bool) (a : Int) : Value := .agg #[.bool o, .int .i64 a]
def lessB (a b c d : Int) : Bool := decide (a ≤ c) && decide (b ≤ d)
def mayB (a b : Int) : Bool := decide (0 ≤ a) && decide (0 ≤ b) && decide (b ≤ 1073741824)
def pathB (a : Int) : Bool := decide (0 ≤ a) && decide (a ≤ 1073741824)
def underB (o : Bool) (x : Int) (o' : Bool) (x' : Int) : Bool := if !o && o' then decide (x' = 1073741824) else decide (x ≤ x')
theorem mayB_yes {a b : Int} (h : mayB a b = true) : 0 ≤ a ∧ 0 ≤ b ∧ b ≤ 1073741824 := by simp [mayB] at h; omega
theorem pathB_yes {a : Int} (h : pathB a = true) : 0 ≤ a ∧ a ≤ 1073741824 := by simp [pathB] at h; omega

set_option maxHeartbeats 400000 in
theorem munder_any (a b c d : Int) (w : World) :
    Calls Try.prog 55 #[tv a b, tv c d] w fun e w' => e = .returned (.bool (lessB a b c d)) ∧ Below w.heap.size w w' := by
  go_enter Try.func55, Try.ntmps55
  go_wp2
  all_goals
    go_ret
    refine ⟨by simp [lessB, *] <;> omega, ?_⟩
    repeat (first | exact Below.refl _ _ | refine Below.setCell ?_ (by first | omega | (simp; done) | (simp; omega)) _ | refine Below.alloc ?_ (by first | omega | (simp; done) | (simp; omega)) _ | refine Below.drew ?_ | refine below_drewN ?_ _ | refine below_after ?_ (by assumption) (by first | omega | (simp; done) | (simp; omega)))

set_option maxHeartbeats 400000 in
theorem ofb_any (a b c d : Int) (w : World) :
    Calls Try.prog 54 #[tv a b, tv c d, .func (Fn.func 55) #[] #[]] w fun e w' => e = .returned (.bool (lessB a b c d)) ∧ Below w.heap.size w w' := by
  go_enter Try.func54, Try.ntmps54
  go_wp2_with (go_at_call 55; refine (munder_any _ _ _ _ _).mono ?_; rintro e w1 ⟨rfl, hb⟩)
  go_ret
  refine ⟨rfl, ?_⟩
  repeat (first | exact Below.refl _ _ | refine Below.setCell ?_ (by first | omega | (simp; done) | (simp; omega)) _ | refine Below.alloc ?_ (by first | omega | (simp; done) | (simp; omega)) _ | refine Below.drew ?_ | refine below_drewN ?_ _ | refine below_after ?_ (by assumption) (by first | omega | (simp; done) | (simp; omega)))

set_option maxHeartbeats 400000 in
theorem less_any (a b c d : Int) (w : World) :
    Calls Try.prog 46 #[tv a b, tv c d] w fun e w' => e = .returned (.bool (lessB a b c d)) ∧ Below w.heap.size w w' := by
  go_enter Try.func46, Try.ntmps46
  go_wp2_with (go_at_call 54; refine (ofb_any _ _ _ _ _).mono ?_; rintro e w1 ⟨rfl, hb⟩)
  go_ret
  refine ⟨rfl, ?_⟩
  repeat (first | exact Below.refl _ _ | refine Below.setCell ?_ (by first | omega | (simp; done) | (simp; omega)) _ | refine Below.alloc ?_ (by first | omega | (simp; done) | (simp; omega)) _ | refine Below.drew ?_ | refine below_drewN ?_ _ | refine below_after ?_ (by assumption) (by first | omega | (simp; done) | (simp; omega)))

set_option maxHeartbeats 400000 in
theorem rless_any (a b c d : Int) (w : World) :
    Calls Try.prog 43 #[tv a b, tv c d] w fun e w' => e = .returned (.bool (lessB a b c d)) ∧ Below w.heap.size w w' := by
  go_enter Try.func43, Try.ntmps43
  go_wp2
  all_goals
    go_ret
    refine ⟨by simp [lessB, *] <;> omega, ?_⟩
    repeat (first | exact Below.refl _ _ | refine Below.setCell ?_ (by first | omega | (simp; done) | (simp; omega)) _ | refine Below.alloc ?_ (by first | omega | (simp; done) | (simp; omega)) _ | refine Below.drew ?_ | refine below_drewN ?_ _ | refine below_after ?_ (by assumption) (by first | omega | (simp; done) | (simp; omega)))

set_option maxHeartbeats 400000 in
theorem may_any (a b : Int) (w : World) :
    Calls Try.prog 28 #[tv a b] w fun e w' => e = .returned (.bool (mayB a b)) ∧ Below w.heap.size w w' := by
  go_enter Try.func28, Try.ntmps28
  go_wp2
  all_goals
    go_ret
    refine ⟨by simp [mayB, *] <;> omega, ?_⟩
    repeat (first | exact Below.refl _ _ | refine Below.setCell ?_ (by first | omega | (simp; done) | (simp; omega)) _ | refine Below.alloc ?_ (by first | omega | (simp; done) | (simp; omega)) _ | refine Below.drew ?_ | refine below_drewN ?_ _ | refine below_after ?_ (by assumption) (by first | omega | (simp; done) | (simp; omega)))

set_option maxHeartbeats 400000 in
theorem rmay_any (a b : Int) (w : World) :
    Calls Try.prog 26 #[tv a b] w fun e w' => e = .returned (.bool (mayB a b)) ∧ Below w.heap.size w w' := by
  go_enter Try.func26, Try.ntmps26
  go_wp2
  all_goals
    go_ret
    refine ⟨by simp [mayB, *] <;> omega, ?_⟩
    repeat (first | exact Below.refl _ _ | refine Below.setCell ?_ (by first | omega | (simp; done) | (simp; omega)) _ | refine Below.alloc ?_ (by first | omega | (simp; done) | (simp; omega)) _ | refine Below.drew ?_ | refine below_drewN ?_ _ | refine below_after ?_ (by assumption) (by first | omega | (simp; done) | (simp; omega)))
end Go.Proofs.Ytifoonjhcjmehaa
