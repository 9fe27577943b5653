/-
  Replies, batches and pairs that come in.
-/
import Derived.Test.YtejijghghbicdaaWireRepLaw
import Derived.Test.YtejijghghbicdaaOpen
import Derived.Deep.Slices
import Derived.Deep.Fields
import Derived.ChangeSame
import Derived.Lib.SmallJoins
namespace Go.Proofs.Ytejijghghbicdaa
open Go.ChangeShapes Go.WideShapes Go.ChangeAt Go.RowKit Go.Joins Go.Deep
set_option linter.unusedSimpArgs false
set_option linter.unusedVariables false

section
variable {H : Type} {enc : TypeId × Value → H} {W : World} {base : Nat} {spare : Nat → Bool} {held : Bool}
theorem reads_cells2 {A : Addr} {n : Nat} {l : List Pr} (hl : l.length = n) (h : ∀ i p, l[i]? = some p → W.cell? (A.add (i * 2 + 0)) = some (.int .i64 p.v) ∧ W.cell? (A.add (i * 2 + 1)) = some (.int .u64 (p.x : Nat))) : Reads W W.heap.size 2 (some A) n (prCells l) := by
  refine ⟨by simp [hl], fun hn => ⟨A, rfl, ?_, fun j u hu => ?_⟩⟩
  · obtain ⟨p, hp⟩ : ∃ p, l[0]? = some p := ⟨_, List.getElem?_eq_getElem (by omega)⟩
    have h0 := (h 0 p hp).1
    have := World.block_lt_of_cell? W _ h0
    rwa [block_of_add] at this
  · have hj : j < l.length * 2 := by have := (List.getElem?_eq_some_iff.1 hu).1; simpa using this
    obtain ⟨p, hp⟩ : ∃ p, l[j / 2]? = some p := ⟨_, List.getElem?_eq_getElem (by omega)⟩
    have h1 := h _ p hp
    have h2 := prCells_at l _ p hp
    rcases (show j = j / 2 * 2 ∨ j = j / 2 * 2 + 1 by omega) with e | e
    · rw [e] at hu ⊢
      rw [h2.1] at hu
      injection hu with hu
      subst hu; exact h1.1
    · rw [e] at hu ⊢
      rw [h2.2] at hu
      injection hu with hu
      subst hu; exact h1.2
set_option maxRecDepth 100000 in
theorem open_pairs {fuel : Nat} {cs : List Value} {x : DataW H × List MemPlace} (h : DataW.trod enc Try.prog W base spare held fuel 57 cs = some x) :
    ∃ (A : Option Addr) (n c : Nat) (ps : List Pr), cs = [.slice A n c] ∧ Reads W W.heap.size 2 A n (prCells ps) ∧ (∀ p ∈ ps, p.ok) ∧ n ≤ c ∧ c ≤ maxLen := by
  have h2 : Try.prog.cellsOf 64 = 2 := by kernel_rfl
  have hI : Try.prog.cellsOf 3 = 1 := by kernel_rfl
  have hU : Try.prog.cellsOf 33 = 1 := by kernel_rfl
  rcases open_slice Try.underlying57 h with ⟨rfl, _⟩ | ⟨a, len, cap, m, n, D, Pl, rfl, _, hl, hm, hmm, _, hi⟩
  · exact ⟨none, 0, 0, [], rfl, Reads.none_, by simp, Nat.le_refl _, Nat.zero_le _⟩
  · have hle : len ≤ m := by rw [hmm]; split <;> omega
    have key : ∀ i, i < len → ∃ p : Pr, p.ok ∧ W.cell? (a.add (i * 2 + 0)) = some (.int .i64 p.v) ∧ W.cell? (a.add (i * 2 + 1)) = some (.int .u64 (p.x : Nat)) := by
      intro i hil
      obtain ⟨cs', hc, ht⟩ := hi i (by omega)
      rw [h2] at hc
      obtain ⟨_, hcl, hat⟩ := World.cells?_some hc
      obtain ⟨xs, k, _, _, _, hxl, hf⟩ := DataW.trod_struct Try.underlying64 ht
      match cs', hcl with
      | [x0, x1], _ =>
        have g0 : DataW.trod enc Try.prog W base spare held k 3 (([x0, x1].drop 0).take (Try.prog.cellsOf 3)) = xs[0]? := hf 0 _ rfl
        have g1 : DataW.trod enc Try.prog W base spare held k 33 (([x0, x1].drop 1).take (Try.prog.cellsOf 33)) = xs[1]? := hf 1 _ rfl
        rw [hI] at g0
        rw [hU] at g1
        obtain ⟨y0, e0⟩ := some_of g0 (by rw [hxl]; decide)
        obtain ⟨y1, e1⟩ := some_of g1 (by rw [hxl]; decide)
        obtain ⟨z0, q0, _, w0⟩ := DataW.trod_int Try.underlying3 e0
        obtain ⟨z1, q1, _, w1⟩ := DataW.trod_int Try.underlying33 e1
        simp at q0 q1
        subst q0 q1
        have b0 := bounds_i64 w0
        have b1 := bounds_u64 w1
        have c0 := hat 0 (by omega)
        have c1 := hat 1 (by omega)
        rw [add_of_add] at c0 c1
        refine ⟨⟨z0, z1.toNat⟩, ⟨⟨b0.2, b0.1⟩, by unfold W64; simp only; omega⟩, c0, ?_⟩
        rw [show (((z1.toNat : Nat)) : Int) = z1 by omega]
        exact c1
    refine ⟨some a, len, cap, (List.range len).map fun i => if h : i < len then (key i h).choose else ⟨0, 0⟩, rfl, reads_cells2 (by simp) fun i p hp => ?_, fun p hp => ?_, hl, hm⟩
    · simp only [List.getElem?_map, Option.map_eq_some_iff] at hp
      obtain ⟨i', hi', rfl⟩ := hp
      obtain ⟨hil, e⟩ := List.getElem?_eq_some_iff.1 hi'
      simp at hil e
      subst e
      rw [dif_pos hil]
      exact (key i hil).choose_spec.2
    · obtain ⟨i, hi', rfl⟩ := List.mem_map.1 hp
      have hil : i < len := by simpa using hi'
      rw [dif_pos hil]
      exact (key i hil).choose_spec.1
set_option maxRecDepth 100000 in
theorem open_prs {r : Reach} {b0 : Nat} {v : Value} {d : DataW H} {p : List MemPlace} (hv : Value.okWide Try.prog W r b0 57 v) (h : DataW.Trod enc Try.prog W base spare held 57 v d p) :
    ∃ (A : Option Addr) (n c : Nat) (ps : List Pr), v = .slice A n c ∧ Reads W W.heap.size 2 A n (prCells ps) ∧ (∀ p ∈ ps, p.ok) ∧ n ≤ c ∧ c ≤ maxLen := by
  obtain ⟨a0, len, cap, rfl⟩ := okWide_slice Try.underlying57 hv
  obtain ⟨fuel, hf⟩ := h
  obtain ⟨A, n, c, ps, hcs, h⟩ := open_pairs hf
  simp [Value.cells] at hcs
  obtain ⟨rfl, rfl, rfl⟩ := hcs
  exact ⟨_, _, _, ps, rfl, h⟩
set_option maxRecDepth 100000 in
theorem open_rep {r : Reach} {b0 : Nat} {v : Value} {d : DataW H} {p : List MemPlace} (hv : Value.okWide Try.prog W r b0 59 v) (h : DataW.Trod enc Try.prog W base spare held 59 v d p) :
    ∃ (q : Rep) (A : Option Addr) (n c : Nat), v = .agg #[.int .i64 q.id, .int .i64 q.e, .bool q.d, .slice A n c] ∧ Reads W W.heap.size 2 A n (prCells q.ps) ∧ q.ok ∧ n ≤ c ∧ c ≤ maxLen := by
  obtain ⟨v0, v1, v2, v3, y0, y1, y2, y3, n, rfl, _, _, h0, h1, h2, h3⟩ := open_agg4 Try.underlying59 (by kernel_rfl) (by kernel_rfl) hv h
  obtain ⟨z0, e0, _, w0⟩ := DataW.trod_int Try.underlying3 h0
  obtain ⟨z1, e1, _, w1⟩ := DataW.trod_int Try.underlying52 h1
  obtain ⟨z2, e2, _⟩ := DataW.trod_bool Try.underlying4 h2
  obtain ⟨A, m, c, ps, e3, hR, hok, h4, h5⟩ := open_pairs h3
  simp at e0 e1 e2 e3
  subst e0 e1 e2 e3
  have b0 := bounds_i64 w0
  have b1 := bounds_i64 w1
  exact ⟨⟨z0, z1, z2, ps⟩, A, m, c, rfl, hR, ⟨⟨b0.2, b0.1⟩, ⟨b1.2, b1.1⟩, hok⟩, h4, h5⟩
set_option maxRecDepth 100000 in
theorem open_bat {r : Reach} {b0 : Nat} {v : Value} {d : DataW H} {p : List MemPlace} (hv : Value.okWide Try.prog W r b0 68 v) (h : DataW.Trod enc Try.prog W base spare held 68 v d p) :
    ∃ (q : Bat) (A : Option Addr) (n c : Nat), v = .agg #[.int .i64 q.r, .int .i64 q.s, .slice A n c] ∧ Reads W W.heap.size 2 A n (prCells q.ps) ∧ q.ok ∧ n ≤ c ∧ c ≤ maxLen := by
  obtain ⟨v0, v1, v3, y0, y1, y3, n, rfl, _, _, h0, h1, h3⟩ := open_agg3 Try.underlying68 (by kernel_rfl) (by kernel_rfl) hv h
  obtain ⟨z0, e0, _, w0⟩ := DataW.trod_int Try.underlying3 h0
  obtain ⟨z1, e1, _, w1⟩ := DataW.trod_int Try.underlying3 h1
  obtain ⟨A, m, c, ps, e3, hR, hok, h4, h5⟩ := open_pairs h3
  simp at e0 e1 e3
  subst e0 e1 e3
  have b0 := bounds_i64 w0
  have b1 := bounds_i64 w1
  exact ⟨⟨z0, z1, ps⟩, A, m, c, rfl, hR, ⟨⟨b0.2, b0.1⟩, ⟨b1.2, b1.1⟩, hok⟩, h4, h5⟩
end
end Go.Proofs.Ytejijghghbicdaa
