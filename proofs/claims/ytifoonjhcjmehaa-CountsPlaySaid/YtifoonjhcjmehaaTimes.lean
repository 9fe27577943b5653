/-
  Rows of times in memory; what the small functions on times return.
-/
import Derived.Test.YtifoonjhcjmehaaPtime
import Derived.Test.YtifoonjhcjmehaaSlices
import Derived.Test.YtifoonjhcjmehaaAntiLaw
import Derived.Outline
namespace Go.Proofs.Ytifoonjhcjmehaa
open Go.RowKit
set_option linter.unusedSimpArgs false
set_option linter.unusedVariables false

abbrev tmv (t : Tm) : Value := tv t.e t.l
def tmCells (l : List Tm) : List Value := l.flatMap fun t => [.int .i64 t.e, .int .i64 t.l]
theorem tmCells_cons (t : Tm) (l : List Tm) : tmCells (t :: l) = .int .i64 t.e :: .int .i64 t.l :: tmCells l := by simp [tmCells]
theorem tmCells_nil : tmCells [] = [] := rfl
theorem tmCells_append (a b : List Tm) : tmCells (a ++ b) = tmCells a ++ tmCells b := by simp [tmCells]
@[simp] theorem tmCells_length (l : List Tm) : (tmCells l).length = l.length * 2 := by
  induction l with
  | nil => rfl
  | cons p l ih => rw [tmCells_cons]; simp [ih]; omega
theorem tmCells_at : ∀ (l : List Tm) (k : Nat) (t : Tm), l[k]? = some t → (tmCells l)[k * 2]? = some (.int .i64 t.e) ∧ (tmCells l)[k * 2 + 1]? = some (.int .i64 t.l)
  | [], k, p, h => by simp at h
  | q :: l, 0, p, h => by
    simp at h; subst h; rw [tmCells_cons]; exact ⟨rfl, rfl⟩
  | q :: l, k + 1, p, h => by
    have := tmCells_at l k p (by simpa using h)
    rw [tmCells_cons, show (k + 1) * 2 = k * 2 + 2 by omega]
    simpa using this
theorem tmCells_one (l : List Tm) : ∀ u ∈ tmCells l, u.oneCell' = true := by
  intro u hu
  obtain ⟨x, _, hx⟩ := List.mem_flatMap.1 hu
  simp at hx
  rcases hx with rfl | rfl <;> rfl
theorem tmCells_take (l : List Tm) (k : Nat) : tmCells (l.take k) = (tmCells l).take (k * 2) := by
  induction l generalizing k with
  | nil => simp [tmCells]
  | cons a l ih =>
    cases k with
    | zero => simp [tmCells]
    | succ k => rw [List.take_succ_cons, tmCells_cons, tmCells_cons, ih, show (k + 1) * 2 = k * 2 + 2 by omega]; simp
theorem tmCells_drop (l : List Tm) (k : Nat) : tmCells (l.drop k) = (tmCells l).drop (k * 2) := by
  induction l generalizing k with
  | nil => simp [tmCells]
  | cons a l ih =>
    cases k with
    | zero => simp
    | succ k => rw [List.drop_succ_cons, tmCells_cons, ih, show (k + 1) * 2 = k * 2 + 2 by omega]; simp
theorem add_one_ (a : Addr) (i : Nat) : a.add (i + 1) = ⟨(a.add i).block, (a.add i).off + 1, none⟩ := by
  unfold Addr.add
  by_cases h : i = 0 <;> simp [h, Nat.add_assoc]
/-- A slice of times. -/
abbrev Tms (w : World) (B : Nat) (A : Option Addr) (n : Nat) (l : List Tm) : Prop := Reads w B 2 A n (tmCells l)
theorem Tms.len {w : World} {B n : Nat} {A : Option Addr} {l : List Tm} (h : Tms w B A n l) : l.length = n := by have := h.1; simp at this; omega
theorem Tms.tm {w : World} {B n k : Nat} {A : Option Addr} {l : List Tm} (h : Tms w B A n l) (hk : k < n) :
    ∃ ad, A = some ad ∧ ad.block < B ∧ l[k]? = some (Tm.at_ l k) ∧ Tm.at_ l k ∈ l ∧ w.cell? (ad.add (k * 2)) = some (.int .i64 (Tm.at_ l k).e) ∧ w.cell? ⟨(ad.add (k * 2)).block, (ad.add (k * 2)).off + 1, none⟩ = some (.int .i64 (Tm.at_ l k).l) := by
  obtain ⟨ad, e, hb, hc⟩ := h.2 (by omega)
  have hl := Tms.len h
  have hp := Tm.some_at (xs := l) (k := k) (by omega)
  have := tmCells_at l k _ hp
  exact ⟨ad, e, hb, hp, Tm.at_mem (by omega), hc _ _ this.1, by rw [← add_one_]; exact hc _ _ this.2⟩
theorem Tms.take {w : World} {B n k : Nat} {A : Option Addr} {l : List Tm} (h : Tms w B A n l) (hk : k ≤ n) : Tms w B A k (l.take k) := by
  have hl := Tms.len h
  refine ⟨by simp; omega, fun h0 => ?_⟩
  obtain ⟨ad, e, hb, hc⟩ := h.2 (by omega)
  refine ⟨ad, e, hb, fun j u hu => hc j u ?_⟩
  rw [tmCells_take, List.getElem?_take] at hu
  split at hu
  · exact hu
  · cases hu
theorem Tms.drop {w : World} {B n k cap : Nat} {A : Option Addr} {l : List Tm} (h : Tms w B A n l) (hk : k ≤ n) (hc : n ≤ cap) : Tms w B (if cap = k then A else A.map (·.add (k * 2))) (n - k) (l.drop k) := by
  unfold Tms
  rw [tmCells_drop]
  exact h.cut hk hc
theorem may_t (t : Tm) (w : World) : Calls Try.prog 28 #[tmv t] w fun e w' => e = .returned (.bool t.may) ∧ Below w.heap.size w w' := may_any t.e t.l w
theorem rmay_t (t : Tm) (w : World) : Calls Try.prog 26 #[tmv t] w fun e w' => e = .returned (.bool t.may) ∧ Below w.heap.size w w' := rmay_any t.e t.l w
theorem less_t (a b : Tm) (w : World) : Calls Try.prog 46 #[tmv a, tmv b] w fun e w' => e = .returned (.bool (a.le b)) ∧ Below w.heap.size w w' := less_any a.e a.l b.e b.l w
theorem rless_t (a b : Tm) (w : World) : Calls Try.prog 43 #[tmv a, tmv b] w fun e w' => e = .returned (.bool (a.le b)) ∧ Below w.heap.size w w' := rless_any a.e a.l b.e b.l w

set_option maxHeartbeats 400000 in
theorem ahead_t (a b : Tm) (w : World) :
    Calls Try.prog 29 #[tmv a, tmv b] w fun e w' => e = .returned (.bool (a.ahead b)) ∧ Below w.heap.size w w' := by
  obtain ⟨a, b⟩ := a
  obtain ⟨c, d⟩ := b
  go_enter Try.func29, Try.ntmps29
  go_wp2
  all_goals
    go_ret
    refine ⟨by simp [Tm.ahead, *] <;> omega, ?_⟩
    repeat (first | exact Below.refl _ _ | refine Below.setCell ?_ (by first | omega | (simp; done) | (simp; omega)) _ | refine Below.alloc ?_ (by first | omega | (simp; done) | (simp; omega)) _ | refine Below.drew ?_ | refine below_drewN ?_ _ | refine below_after ?_ (by assumption) (by first | omega | (simp; done) | (simp; omega)))
end Go.Proofs.Ytifoonjhcjmehaa
