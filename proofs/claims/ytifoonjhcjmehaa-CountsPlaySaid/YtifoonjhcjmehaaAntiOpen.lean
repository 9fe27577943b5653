/-
  Slices of times that come in; the document's example of chapter 4.
-/
import Derived.Test.YtifoonjhcjmehaaRow
import Derived.Test.YtifoonjhcjmehaaRefMin2
import Derived.Test.YtifoonjhcjmehaaHas
import Derived.Deep.Slices
import Derived.Deep.Fields
import Derived.ChangeSame
import Derived.Lib.SmallJoins
namespace Go.Proofs.Ytifoonjhcjmehaa
open Go.ChangeShapes Go.WideShapes Go.ChangeAt Go.RowKit Go.Joins Go.Deep
set_option linter.unusedSimpArgs false
set_option linter.unusedVariables false

theorem some_of {α : Type} {o : Option α} {l : List α} {i : Nat} (h : o = l[i]?) (hi : i < l.length) : ∃ x, o = some x := ⟨l[i], by rw [h, List.getElem?_eq_getElem hi]⟩
section
variable {H : Type} {enc : TypeId × Value → H} {W : World} {base : Nat} {spare : Nat → Bool} {held : Bool}
theorem reads_tms {A : Addr} {n : Nat} {l : List Tm} (hl : l.length = n) (h : ∀ i p, l[i]? = some p → W.cell? (A.add (i * 2 + 0)) = some (.int .i64 p.e) ∧ W.cell? (A.add (i * 2 + 1)) = some (.int .i64 p.l)) : Tms W W.heap.size (some A) n l := by
  refine ⟨by simp [hl], fun hn => ⟨A, rfl, ?_, fun j u hu => ?_⟩⟩
  · obtain ⟨p, hp⟩ : ∃ p, l[0]? = some p := ⟨_, List.getElem?_eq_getElem (by omega)⟩
    have h0 := (h 0 p hp).1
    have := World.block_lt_of_cell? W _ h0
    rwa [block_of_add] at this
  · have hj : j < l.length * 2 := by have := (List.getElem?_eq_some_iff.1 hu).1; simpa using this
    obtain ⟨p, hp⟩ : ∃ p, l[j / 2]? = some p := ⟨_, List.getElem?_eq_getElem (by omega)⟩
    have h1 := h _ p hp
    have h2 := tmCells_at l _ p hp
    rcases (show j = j / 2 * 2 ∨ j = j / 2 * 2 + 1 by omega) with e | e
    · rw [e] at hu ⊢
      rw [h2.1] at hu
      injection hu with hu
      subst hu; exact h1.1
    · rw [e] at hu ⊢
      rw [h2.2] at hu
      injection hu with hu
      subst hu; exact h1.2
set_option maxRecDepth 100000 in
theorem open_tms {r : Reach} {b0 : Nat} {v : Value} {d : DataW H} {p : List MemPlace} (hv : Value.okWide Try.prog W r b0 38 v) (hh : DataW.Trod enc Try.prog W base spare held 38 v d p) :
    ∃ (A : Option Addr) (n c : Nat) (l : List Tm), v = .slice A n c ∧ Tms W W.heap.size A n l ∧ n ≤ c ∧ c ≤ maxLen := by
  obtain ⟨a0, len0, cap0, rfl⟩ := okWide_slice Try.underlying38 hv
  obtain ⟨fuel, h⟩ := hh
  have h2 : Try.prog.cellsOf 33 = 2 := by kernel_rfl
  have hI : Try.prog.cellsOf 3 = 1 := by kernel_rfl
  rcases open_slice Try.underlying38 h with ⟨hcs, _⟩ | ⟨a, len, cap, m, n, D, Pl, hcs, _, hl, hm, hmm, _, hi⟩
  · simp [Value.cells] at hcs
    obtain ⟨rfl, rfl, rfl⟩ := hcs
    exact ⟨none, 0, 0, [], rfl, Reads.none_, Nat.le_refl _, Nat.zero_le _⟩
  · simp [Value.cells] at hcs
    obtain ⟨rfl, rfl, rfl⟩ := hcs
    have hle : len0 ≤ m := by rw [hmm]; split <;> omega
    have key : ∀ i, i < len0 → ∃ p : Tm, W.cell? (a.add (i * 2 + 0)) = some (.int .i64 p.e) ∧ W.cell? (a.add (i * 2 + 1)) = some (.int .i64 p.l) := by
      intro i hil
      obtain ⟨cs', hc, ht⟩ := hi i (by omega)
      rw [h2] at hc
      obtain ⟨_, hcl, hat⟩ := World.cells?_some hc
      obtain ⟨xs, k, _, _, _, hxl, hf⟩ := DataW.trod_struct Try.underlying33 ht
      match cs', hcl with
      | [x0, x1], _ =>
        have g0 : DataW.trod enc Try.prog W base spare held k 3 (([x0, x1].drop 0).take (Try.prog.cellsOf 3)) = xs[0]? := hf 0 _ rfl
        have g1 : DataW.trod enc Try.prog W base spare held k 3 (([x0, x1].drop 1).take (Try.prog.cellsOf 3)) = xs[1]? := hf 1 _ rfl
        rw [hI] at g0
        rw [hI] at g1
        obtain ⟨y0, e0⟩ := some_of g0 (by rw [hxl]; decide)
        obtain ⟨y1, e1⟩ := some_of g1 (by rw [hxl]; decide)
        obtain ⟨z0, q0, _, w0⟩ := DataW.trod_int Try.underlying3 e0
        obtain ⟨z1, q1, _, w1⟩ := DataW.trod_int Try.underlying3 e1
        simp at q0 q1
        subst q0 q1
        have c0 := hat 0 (by omega)
        have c1 := hat 1 (by omega)
        rw [add_of_add] at c0 c1
        exact ⟨⟨z0, z1⟩, c0, c1⟩
    refine ⟨some a, len0, cap0, (List.range len0).map fun i => if h : i < len0 then (key i h).choose else ⟨0, 0⟩, rfl, reads_tms (by simp) fun i p hp => ?_, hl, hm⟩
    simp only [List.getElem?_map, Option.map_eq_some_iff] at hp
    obtain ⟨i', hi', rfl⟩ := hp
    obtain ⟨hil, e⟩ := List.getElem?_eq_some_iff.1 hi'
    simp at hil e
    subst e
    rw [dif_pos hil]
    exact (key i hil).choose_spec
end

theorem alive_min {m : List Tm} (h : IsMin [⟨1, 2⟩, ⟨2, 1⟩, ⟨2, 2⟩] m) : m = [⟨1, 2⟩, ⟨2, 1⟩] := by
  rw [h.unique (minR_isMin _)]
  decide
theorem reads_own {w : World} {B n : Nat} {A : Option Addr} {c : Nat} {l : List Tm} (h : w.ownsRow B 33 2 (.slice A n c) n (tmCells l)) : Tms w w.heap.size A n l := Reads.of_own h

/-! The calls, with what they return written out. -/
theorem min_s {B n c : Nat} {A : Option Addr} {l : List Tm} (w : World) (h : Tms w B A n l) (hB : B ≤ w.heap.size) (hbig : n ≤ 1000) :
    Calls Try.prog 22 #[.slice A n c] w fun e w' => ∃ A' M c' m, e = .returned (.slice A' M c') ∧ IsMin l m ∧ M ≤ n ∧ Tms w' w'.heap.size A' M m ∧ Below w.heap.size w w' ∧ w'.ownsRow w.heap.size 33 2 (.slice A' M c') M (tmCells m) := by
  refine (min_any w h hB hbig).mono ?_
  rintro e w' ⟨v, m, rfl, hm, hle, hown, hb⟩
  obtain ⟨A', c', rfl⟩ := own_slice hown
  exact ⟨A', _, c', m, rfl, hm, hle, reads_own hown, hb, hown⟩
theorem rmin_s {B n c : Nat} {A : Option Addr} {l : List Tm} (w : World) (h : Tms w B A n l) (hB : B ≤ w.heap.size) (hbig : n ≤ 1000) :
    Calls Try.prog 23 #[.slice A n c] w fun e w' => ∃ A' M c', e = .returned (.slice A' M c') ∧ M ≤ n ∧ Tms w' w'.heap.size A' M (minR l) ∧ Below w.heap.size w w' := by
  refine (rmin_any w h hB hbig).mono ?_
  rintro e w' ⟨v, rfl, hown, hb⟩
  obtain ⟨A', c', rfl⟩ := own_slice hown
  exact ⟨A', _, c', rfl, by rw [← Tms.len h]; exact minR_len l, reads_own hown, hb⟩
theorem same_b {B1 B2 n m c c2 : Nat} {A A2 : Option Addr} {l1 l2 : List Tm} {b : Bool} (w : World) (h1 : Tms w B1 A n l1) (h2 : Tms w B2 A2 m l2) (hb : b = true ↔ l1 = l2) (hn : n ≤ 1000) (hm : m ≤ 1000) :
    Calls Try.prog 16 #[.slice A n c, .slice A2 m c2] w fun e w' => e = .returned (.bool b) ∧ Below w.heap.size w w' := by
  refine (sametimes_any (B := max B1 B2) w (h1.more (by omega)) (h2.more (by omega)) hb (by omega) (by omega)).mono ?_
  rintro e w' ⟨rfl, q, rfl⟩
  exact ⟨rfl, below_drewN (Below.refl _ _) q⟩
theorem under_s {B1 B2 n m c c2 : Nat} {A A2 : Option Addr} {a b : List Tm} {r : Bool} (w : World) (h1 : Tms w B1 A n a) (h2 : Tms w B2 A2 m b) (hB1 : B1 ≤ w.heap.size) (hB2 : B2 ≤ w.heap.size) (hn : n ≤ 1000) (hm : m ≤ 1000) (hr : underL a b = r) :
    Calls Try.prog 21 #[.slice A n c, .slice A2 m c2] w fun e w' => e = .returned (.bool r) ∧ Below w.heap.size w w' :=
  under_b w (h1.more hB1) (h2.more hB2) (Nat.le_refl _) (by omega) (by omega) hr
theorem runder_s {B1 B2 n m c c2 : Nat} {A A2 : Option Addr} {a b : List Tm} {r : Bool} (w : World) (h1 : Tms w B1 A n a) (h2 : Tms w B2 A2 m b) (hB1 : B1 ≤ w.heap.size) (hB2 : B2 ≤ w.heap.size) (hn : n ≤ 1000) (hm : m ≤ 1000) (hr : underL a b = r) :
    Calls Try.prog 27 #[.slice A n c, .slice A2 m c2] w fun e w' => e = .returned (.bool r) ∧ Below w.heap.size w w' := by
  subst hr
  exact runder_any w (h1.more hB1) (h2.more hB2) (Nat.le_refl _) (by omega) (by omega)

set_option maxRecDepth 100000 in
set_option maxHeartbeats 2000000 in
theorem alive4_any (w : World) :
    Calls Try.prog 11 #[] w fun e w' => e = .returned (.bool true) ∧ Below w.heap.size w w' := by
  have KB : Blk (w.alloc (.cells #[.int .i64 1, .int .i64 2, .int .i64 2, .int .i64 1, .int .i64 2, .int .i64 2] 33)) w.heap.size 33 #[.int .i64 1, .int .i64 2, .int .i64 2, .int .i64 1, .int .i64 2, .int .i64 2] := Blk.new _ _ _
  have HT : Tms (w.alloc (.cells #[.int .i64 1, .int .i64 2, .int .i64 2, .int .i64 1, .int .i64 2, .int .i64 2] 33)) (w.heap.size + 1) (some ⟨w.heap.size, 0, none⟩) 3 [⟨1, 2⟩, ⟨2, 1⟩, ⟨2, 2⟩] :=
    ⟨rfl, fun _ => ⟨_, rfl, Nat.lt_succ_self _, fun j u hu => by rw [Addr.add_lit, KB.c]; simpa [tmCells] using hu⟩⟩
  have HB := (Below.refl w.heap.size w).alloc (Nat.le_refl _) (.cells #[.int .i64 1, .int .i64 2, .int .i64 2, .int .i64 1, .int .i64 2, .int .i64 2] 33)
  clear KB
  go_enter Try.func11, Try.ntmps11
  go_wp2_with fail
  refine (min_any _ HT (by simp) (by omega)).mono ?_
  rintro e w1 ⟨v, m, rfl, hmin, _, hown, hb⟩
  have HB1 := below_after HB hb HB.size
  obtain rfl := alive_min hmin
  obtain ⟨g, c, rfl, _, _, K⟩ := tblk_of_own hown (by decide)
  obtain ⟨c0, c1⟩ := K.tm (k := 0) (by decide)
  obtain ⟨c2, c3⟩ := K.tm (k := 1) (by decide)
  have e0 : Tm.at_ [⟨1, 2⟩, ⟨2, 1⟩] 0 = ⟨1, 2⟩ := rfl
  have e1 : Tm.at_ [⟨1, 2⟩, ⟨2, 1⟩] 1 = ⟨2, 1⟩ := rfl
  rw [e0] at c0 c1
  rw [e1] at c2 c3
  simp only [Nat.zero_mul, Nat.one_mul, Nat.zero_add] at c0 c1 c2 c3
  have HBH := Lib.hid HB1
  clear hown hb K hmin e0 e1 HB HT HB1
  go_wp2_with fail
  go_ret
  exact ⟨rfl, HBH.out⟩
end Go.Proofs.Ytifoonjhcjmehaa
