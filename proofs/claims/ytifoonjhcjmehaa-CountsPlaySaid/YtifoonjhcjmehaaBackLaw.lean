/-
  CountsBack's plain law: changes, taken back in any order, leave what was there.
-/
import Derived.Test.YtifoonjhcjmehaaCS
namespace Go.Proofs.Ytifoonjhcjmehaa
open Go.RowKit
set_option linter.unusedSimpArgs false
set_option linter.unusedVariables false

theorem infoAct : (Try.prog.info? 35).map (fun i => (i.zero.map (fun z => z.cells.size), i.size, i.bytes)) = some (some 3, 3, 24) := by kernel_rfl
theorem act_parts : ∃ i z, Try.prog.info? 35 = some i ∧ i.zero = some z ∧ z.cells.size = 3 ∧ i.size = 3 ∧ i.bytes = 24 := by
  have h := infoAct
  cases hi : Try.prog.info? 35 with
  | none => rw [hi] at h; cases h
  | some i =>
    rw [hi] at h
    simp only [Option.map_some, Option.some.injEq, Prod.mk.injEq] at h
    obtain ⟨h1, h2, h3⟩ := h
    cases hz : i.zero with
    | none => rw [hz] at h1; cases h1
    | some z =>
      rw [hz] at h1
      simp only [Option.map_some, Option.some.injEq] at h1
      exact ⟨i, z, rfl, hz, h1, h2, h3⟩
/-- What CountsBack takes of a number. -/
def fnd (n : Int) : Int := bits .and .i64 n 255
theorem fnd_both (n : Int) : 0 ≤ fnd n ∧ fnd n ≤ 255 := by
  have h : ((BitVec.ofInt 64 n) &&& (BitVec.ofInt 64 255)).toNat ≤ 255 := by
    rw [BitVec.toNat_and]; exact Nat.le_trans Nat.and_le_right (by decide)
  have e : fnd n = IntKind.i64.wrap (((BitVec.ofInt 64 n) &&& (BitVec.ofInt 64 255)).toNat : Int) := rfl
  generalize ((BitVec.ofInt 64 n) &&& (BitVec.ofInt 64 255)).toNat = m at h e
  rw [e, IntKind.wrap_i64]
  omega
def bck (n : Int) : Int := -fnd n
theorem bck_both (n : Int) : -255 ≤ bck n ∧ bck n ≤ 255 := by have := fnd_both n; unfold bck; omega
/-- What a row of changes adds to a time's count. -/
def sumOf (f : Int → Int) (l : List Ac) (t : Tm) : Int := (l.map fun a => if t = a.t ∧ a.t.may = true then f a.n else 0).sum
theorem sumOf_append (f : Int → Int) (a b : List Ac) (t : Tm) : sumOf f (a ++ b) t = sumOf f a t + sumOf f b t := by simp [sumOf]
theorem sumOf_turn (f : Int → Int) (l : List Ac) (k : Nat) (t : Tm) : sumOf f (l.drop k ++ l.take k) t = sumOf f l t := by
  rw [sumOf_append, Int.add_comm, ← sumOf_append, List.take_append_drop]
theorem sumOf_bck (l : List Ac) (t : Tm) : sumOf bck l t = -sumOf fnd l t := by
  induction l with
  | nil => rfl
  | cons a l ih =>
    simp only [sumOf, List.map_cons, List.sum_cons] at ih ⊢
    rw [ih]
    unfold bck
    split <;> omega
theorem accL_canon (f : Int → Int) {L : Cnt} (h : Canon L) (l : List Ac) : Canon (accL f L l) := by
  induction l generalizing L with
  | nil => exact h
  | cons a l ih => exact ih (addL_canon h _ _)
theorem acc_of (f : Int → Int) (hf : ∀ n, -255 ≤ f n ∧ f n ≤ 255) (l : List Ac) : ∀ {L : Cnt} (b : Nat), Canon L → (∀ t, -(b : Int) ≤ ofL L t ∧ ofL L t ≤ b) → b + 255 * l.length ≤ 1000000 →
    ∀ t, ofL (accL f L l) t = ofL L t + sumOf f l t ∧ -((b + 255 * l.length : Nat) : Int) ≤ ofL (accL f L l) t ∧ ofL (accL f L l) t ≤ ((b + 255 * l.length : Nat) : Int) := by
  induction l with
  | nil => intro L b hc hb _ t; simpa [accL, sumOf] using hb t
  | cons a l ih =>
    intro L b hc hb hle t
    simp only [List.length_cons] at hle ⊢
    have h1 : ∀ s, ofL (addL L a.t (f a.n)) s = ofL L s + (if s = a.t ∧ a.t.may = true then f a.n else 0) := by
      intro s
      rw [ofL_addL hc]
      have := hb a.t
      have := hf a.n
      have e : addOk L a.t (f a.n) = a.t.may := by
        unfold addOk
        cases a.t.may
        · rfl
        · simp; omega
      rw [e]
    have h2 : ∀ s, -((b + 255 : Nat) : Int) ≤ ofL (addL L a.t (f a.n)) s ∧ ofL (addL L a.t (f a.n)) s ≤ ((b + 255 : Nat) : Int) := by
      intro s
      have := hb s
      have := hf a.n
      rw [h1 s]
      split <;> omega
    have h3 := ih (b + 255) (addL_canon hc a.t (f a.n)) h2 (by omega) t
    have e : accL f L (a :: l) = accL f (addL L a.t (f a.n)) l := rfl
    rw [e]
    rw [h1 t] at h3
    have e2 : sumOf f (a :: l) t = (if t = a.t ∧ a.t.may = true then f a.n else 0) + sumOf f l t := by simp [sumOf]
    rw [e2]
    refine ⟨by rw [h3.1]; omega, ?_, ?_⟩
    · have := h3.2.1; omega
    · have := h3.2.2; omega
theorem back_law {l0 l1 : List Ac} {k : Nat} (h0 : l0.length ≤ 30) (h1 : l1.length ≤ 30) :
    accL bck (accL fnd (accL fnd [] l0) l1) (l1.drop k ++ l1.take k) = accL fnd [] l0 := by
  have c0 : Canon (accL fnd [] l0) := accL_canon _ Canon.nil _
  have c1 := accL_canon fnd c0 l1
  have c2 := accL_canon bck c1 (l1.drop k ++ l1.take k)
  have hf : ∀ n, -255 ≤ fnd n ∧ fnd n ≤ 255 := fun n => by have := fnd_both n; omega
  have a0 := acc_of fnd hf l0 (L := []) 0 Canon.nil (fun t => by simp [ofL]) (by omega)
  have a1 := acc_of fnd hf l1 (0 + 255 * l0.length) c0 (fun t => (a0 t).2) (by omega)
  have hl : (l1.drop k ++ l1.take k).length = l1.length := by simp; omega
  have a2 := acc_of bck bck_both (l1.drop k ++ l1.take k) (0 + 255 * l0.length + 255 * l1.length) c1 (fun t => (a1 t).2) (by omega)
  refine c2.ext c0 fun t => ?_
  rw [(a2 t).1, (a1 t).1, sumOf_turn, sumOf_bck]
  omega
theorem Acs.cells {w : World} {B n k : Nat} {ad : Addr} {l : List Ac} (h : Acs w B (some ad) n l) (hk : k < n) :
    w.cell? (ad.add (k * 3)) = some (.int .i64 (acAt l k).t.e) ∧ w.cell? ⟨(ad.add (k * 3)).block, (ad.add (k * 3)).off + 1, none⟩ = some (.int .i64 (acAt l k).t.l) ∧ w.cell? ⟨(ad.add (k * 3)).block, (ad.add (k * 3)).off + 2, none⟩ = some (.int .i64 (acAt l k).n) := by
  obtain ⟨ad', e, _, _, h1⟩ := h.ac hk
  injection e with e
  subst e
  exact h1
theorem acs_own {w : World} {B n : Nat} {A : Option Addr} {c : Nat} {l : List Ac} (h : w.ownsRow B 35 3 (.slice A n c) n (acCells l)) : Acs w w.heap.size A n l := Reads.of_own h
end Go.Proofs.Ytifoonjhcjmehaa
