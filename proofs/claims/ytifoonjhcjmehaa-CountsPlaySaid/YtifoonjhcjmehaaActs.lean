/-
  Slices of changes that come in.
-/
import Derived.Test.YtifoonjhcjmehaaFront
namespace Go.Proofs.Ytifoonjhcjmehaa
open Go.ChangeShapes Go.WideShapes Go.ChangeAt Go.RowKit Go.Joins Go.Deep
set_option linter.unusedSimpArgs false
set_option linter.unusedVariables false

structure Ac where
  t : Tm
  n : Int
def Ac.ok (a : Ac) : Prop := a.t.ok ∧ (Lit.int .i64 a.n).wf = true
instance : Inhabited Ac := ⟨⟨⟨0, 0⟩, 0⟩⟩
def acAt (l : List Ac) (k : Nat) : Ac := l.getD k default
theorem acAt_some {l : List Ac} {k : Nat} (h : k < l.length) : l[k]? = some (acAt l k) := by simp [acAt, List.getD, List.getElem?_eq_getElem h]
theorem acAt_mem {l : List Ac} {k : Nat} (h : k < l.length) : acAt l k ∈ l := List.mem_of_getElem? (acAt_some h)
def acCells (l : List Ac) : List Value := l.flatMap fun a => [.int .i64 a.t.e, .int .i64 a.t.l, .int .i64 a.n]
theorem acCells_cons (a : Ac) (l : List Ac) : acCells (a :: l) = .int .i64 a.t.e :: .int .i64 a.t.l :: .int .i64 a.n :: acCells l := by simp [acCells]
theorem acCells_append (a b : List Ac) : acCells (a ++ b) = acCells a ++ acCells b := by simp [acCells]
@[simp] theorem acCells_length (l : List Ac) : (acCells l).length = l.length * 3 := by
  induction l with
  | nil => rfl
  | cons p l ih => rw [acCells_cons]; simp [ih]; omega
theorem acCells_at : ∀ (l : List Ac) (k : Nat) (a : Ac), l[k]? = some a → (acCells l)[k * 3]? = some (.int .i64 a.t.e) ∧ (acCells l)[k * 3 + 1]? = some (.int .i64 a.t.l) ∧ (acCells l)[k * 3 + 2]? = some (.int .i64 a.n)
  | [], k, p, h => by simp at h
  | q :: l, 0, p, h => by
    simp at h; subst h; rw [acCells_cons]; exact ⟨rfl, rfl, rfl⟩
  | q :: l, k + 1, p, h => by
    have := acCells_at l k p (by simpa using h)
    rw [acCells_cons, show (k + 1) * 3 = k * 3 + 3 by omega]
    simpa using this
theorem acCells_one (l : List Ac) : ∀ u ∈ acCells l, u.oneCell' = true := by
  intro u hu
  obtain ⟨x, _, hx⟩ := List.mem_flatMap.1 hu
  simp at hx
  rcases hx with rfl | rfl | rfl <;> rfl
theorem acCells_take (l : List Ac) (k : Nat) : acCells (l.take k) = (acCells l).take (k * 3) := by
  induction l generalizing k with
  | nil => simp [acCells]
  | cons a l ih =>
    cases k with
    | zero => simp [acCells]
    | succ k => rw [List.take_succ_cons, acCells_cons, acCells_cons, ih, show (k + 1) * 3 = k * 3 + 3 by omega]; simp
theorem acCells_drop (l : List Ac) (k : Nat) : acCells (l.drop k) = (acCells l).drop (k * 3) := by
  induction l generalizing k with
  | nil => simp [acCells]
  | cons a l ih =>
    cases k with
    | zero => simp
    | succ k => rw [List.drop_succ_cons, acCells_cons, ih, show (k + 1) * 3 = k * 3 + 3 by omega]; simp
abbrev Acs (w : World) (B : Nat) (A : Option Addr) (n : Nat) (l : List Ac) : Prop := Reads w B 3 A n (acCells l)
theorem Acs.len {w : World} {B n : Nat} {A : Option Addr} {l : List Ac} (h : Acs w B A n l) : l.length = n := by have := h.1; simp at this; omega
theorem add_two_ (a : Addr) (i : Nat) : a.add (i + 2) = ⟨(a.add i).block, (a.add i).off + 2, none⟩ := by
  unfold Addr.add
  by_cases h : i = 0 <;> simp [h, Nat.add_assoc]
theorem Acs.ac {w : World} {B n k : Nat} {A : Option Addr} {l : List Ac} (h : Acs w B A n l) (hk : k < n) :
    ∃ ad, A = some ad ∧ ad.block < B ∧ acAt l k ∈ l ∧ w.cell? (ad.add (k * 3)) = some (.int .i64 (acAt l k).t.e) ∧ w.cell? ⟨(ad.add (k * 3)).block, (ad.add (k * 3)).off + 1, none⟩ = some (.int .i64 (acAt l k).t.l) ∧ w.cell? ⟨(ad.add (k * 3)).block, (ad.add (k * 3)).off + 2, none⟩ = some (.int .i64 (acAt l k).n) := by
  obtain ⟨ad, e, hb, hc⟩ := h.2 (by omega)
  have hl := Acs.len h
  have hp := acAt_some (l := l) (k := k) (by omega)
  have := acCells_at l k _ hp
  exact ⟨ad, e, hb, acAt_mem (by omega), hc _ _ this.1, by rw [← add_one_]; exact hc _ _ this.2.1, by rw [← add_two_]; exact hc _ _ this.2.2⟩
theorem Acs.take {w : World} {B n k : Nat} {A : Option Addr} {l : List Ac} (h : Acs w B A n l) (hk : k ≤ n) : Acs w B A k (l.take k) := by
  have hl := Acs.len h
  refine ⟨by simp; omega, fun h0 => ?_⟩
  obtain ⟨ad, e, hb, hc⟩ := h.2 (by omega)
  refine ⟨ad, e, hb, fun j u hu => hc j u ?_⟩
  rw [acCells_take, List.getElem?_take] at hu
  split at hu
  · exact hu
  · cases hu
theorem Acs.drop {w : World} {B n k cap : Nat} {A : Option Addr} {l : List Ac} (h : Acs w B A n l) (hk : k ≤ n) (hc : n ≤ cap) : Acs w B (if cap = k then A else A.map (·.add (k * 3))) (n - k) (l.drop k) := by
  unfold Acs
  rw [acCells_drop]
  exact h.cut hk hc
section
variable {H : Type} {enc : TypeId × Value → H} {W : World} {base : Nat} {spare : Nat → Bool} {held : Bool}
theorem reads_acs {A : Addr} {n : Nat} {l : List Ac} (hl : l.length = n) (h : ∀ i p, l[i]? = some p → W.cell? (A.add (i * 3 + 0)) = some (.int .i64 p.t.e) ∧ W.cell? (A.add (i * 3 + 1)) = some (.int .i64 p.t.l) ∧ W.cell? (A.add (i * 3 + 2)) = some (.int .i64 p.n)) : Acs W W.heap.size (some A) n l := by
  refine ⟨by simp [hl], fun hn => ⟨A, rfl, ?_, fun j u hu => ?_⟩⟩
  · obtain ⟨p, hp⟩ : ∃ p, l[0]? = some p := ⟨_, List.getElem?_eq_getElem (by omega)⟩
    have h0 := (h 0 p hp).1
    have := World.block_lt_of_cell? W _ h0
    rwa [block_of_add] at this
  · have hj : j < l.length * 3 := by have := (List.getElem?_eq_some_iff.1 hu).1; simpa using this
    obtain ⟨p, hp⟩ : ∃ p, l[j / 3]? = some p := ⟨_, List.getElem?_eq_getElem (by omega)⟩
    have h1 := h _ p hp
    have h2 := acCells_at l _ p hp
    rcases (show j = j / 3 * 3 ∨ j = j / 3 * 3 + 1 ∨ j = j / 3 * 3 + 2 by omega) with e | e | e
    · rw [e] at hu ⊢
      rw [h2.1] at hu
      injection hu with hu
      subst hu; exact h1.1
    · rw [e] at hu ⊢
      rw [h2.2.1] at hu
      injection hu with hu
      subst hu; exact h1.2.1
    · rw [e] at hu ⊢
      rw [h2.2.2] at hu
      injection hu with hu
      subst hu; exact h1.2.2
set_option maxRecDepth 100000 in
theorem open_acts {r : Reach} {b0 : Nat} {v : Value} {d : DataW H} {p : List MemPlace} (hv : Value.okWide Try.prog W r b0 22 v) (hh : DataW.Trod enc Try.prog W base spare held 22 v d p) :
    ∃ (A : Option Addr) (n c : Nat) (l : List Ac), v = .slice A n c ∧ Acs W W.heap.size A n l ∧ (∀ a ∈ l, a.ok) ∧ n ≤ c ∧ c ≤ maxLen := by
  obtain ⟨a0, len0, cap0, rfl⟩ := okWide_slice Try.underlying22 hv
  obtain ⟨fuel, h⟩ := hh
  have h3 : Try.prog.cellsOf 35 = 3 := by kernel_rfl
  have h2 : Try.prog.cellsOf 33 = 2 := by kernel_rfl
  have hI : Try.prog.cellsOf 3 = 1 := by kernel_rfl
  rcases open_slice Try.underlying22 h with ⟨hcs, _⟩ | ⟨a, len, cap, m, n, D, Pl, hcs, _, hl, hm, hmm, _, hi⟩
  · simp [Value.cells] at hcs
    obtain ⟨rfl, rfl, rfl⟩ := hcs
    exact ⟨none, 0, 0, [], rfl, Reads.none_, by simp, Nat.le_refl _, Nat.zero_le _⟩
  · simp [Value.cells] at hcs
    obtain ⟨rfl, rfl, rfl⟩ := hcs
    have hle : len0 ≤ m := by rw [hmm]; split <;> omega
    have key : ∀ i, i < len0 → ∃ p : Ac, p.ok ∧ W.cell? (a.add (i * 3 + 0)) = some (.int .i64 p.t.e) ∧ W.cell? (a.add (i * 3 + 1)) = some (.int .i64 p.t.l) ∧ W.cell? (a.add (i * 3 + 2)) = some (.int .i64 p.n) := by
      intro i hil
      obtain ⟨cs', hc, ht⟩ := hi i (by omega)
      rw [h3] at hc
      obtain ⟨_, hcl, hat⟩ := World.cells?_some hc
      obtain ⟨xs, k, _, _, _, hxl, hf⟩ := DataW.trod_struct Try.underlying35 ht
      match cs', hcl with
      | [x0, x1, x2], _ =>
        have g0 : DataW.trod enc Try.prog W base spare held k 33 (([x0, x1, x2].drop 0).take (Try.prog.cellsOf 33)) = xs[0]? := hf 0 _ rfl
        have g2 : DataW.trod enc Try.prog W base spare held k 3 (([x0, x1, x2].drop 2).take (Try.prog.cellsOf 3)) = xs[1]? := hf 1 _ rfl
        rw [h2] at g0
        rw [hI] at g2
        obtain ⟨y0, e0⟩ := some_of g0 (by rw [hxl]; decide)
        obtain ⟨y2, e2⟩ := some_of g2 (by rw [hxl]; decide)
        have e0' : DataW.trod enc Try.prog W base spare held k 33 [x0, x1] = some y0 := e0
        obtain ⟨xs', k', _, _, _, hxl', hf'⟩ := DataW.trod_struct Try.underlying33 e0'
        have g3 : DataW.trod enc Try.prog W base spare held k' 3 (([x0, x1].drop 0).take (Try.prog.cellsOf 3)) = xs'[0]? := hf' 0 _ rfl
        have g4 : DataW.trod enc Try.prog W base spare held k' 3 (([x0, x1].drop 1).take (Try.prog.cellsOf 3)) = xs'[1]? := hf' 1 _ rfl
        rw [hI] at g3
        rw [hI] at g4
        obtain ⟨y3, e3⟩ := some_of g3 (by rw [hxl']; decide)
        obtain ⟨y4, e4⟩ := some_of g4 (by rw [hxl']; decide)
        obtain ⟨z0, q0, _, w0⟩ := DataW.trod_int Try.underlying3 e3
        obtain ⟨z1, q1, _, w1⟩ := DataW.trod_int Try.underlying3 e4
        obtain ⟨z2, q2, _, w2⟩ := DataW.trod_int Try.underlying3 e2
        simp at q0 q1 q2
        subst q0 q1 q2
        have c0 := hat 0 (by omega)
        have c1 := hat 1 (by omega)
        have c2 := hat 2 (by omega)
        rw [add_of_add] at c0 c1 c2
        exact ⟨⟨⟨z0, z1⟩, z2⟩, ⟨⟨w0, w1⟩, w2⟩, c0, c1, c2⟩
    refine ⟨some a, len0, cap0, (List.range len0).map fun i => if h : i < len0 then (key i h).choose else default, rfl, reads_acs (by simp) fun i p hp => ?_, fun p hp => ?_, hl, hm⟩
    · simp only [List.getElem?_map, Option.map_eq_some_iff] at hp
      obtain ⟨i', hi', rfl⟩ := hp
      obtain ⟨hil, e⟩ := List.getElem?_eq_some_iff.1 hi'
      simp at hil e
      subst e
      rw [dif_pos hil]
      exact (key i hil).choose_spec.2
    · obtain ⟨i, hi', rfl⟩ := List.mem_map.1 hp
      have hil : i < len0 := by simpa using hi'
      rw [dif_pos hil]
      exact (key i hil).choose_spec.1
end
end Go.Proofs.Ytifoonjhcjmehaa
