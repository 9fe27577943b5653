/-
  Slices that come in: as lists of numbers, nil let in.
-/
import Derived.Test.YtejijghghbicdaaRow
import Derived.Test.YtejijghghbicdaaPackRef
import Derived.Deep.Slices
namespace Go.Proofs.Ytejijghghbicdaa
open Go.ChangeShapes Go.WideShapes Go.ChangeAt Go.RowKit Go.Joins Go.Deep

section
variable {H : Type} {enc : TypeId × Value → H} {P : Program} {W : World} {base : Nat} {spare : Nat → Bool} {held : Bool}
theorem reads_cells {A : Addr} {n : Nat} {xs : List Value} (hl : xs.length = n) (h : ∀ i, i < n → W.cell? (A.add i) = xs[i]?) : Reads W W.heap.size 1 (some A) n xs := by
  refine ⟨by simpa using hl, fun hn => ⟨A, rfl, ?_, fun j u hu => ?_⟩⟩
  · have h0 := h 0 hn
    rw [List.getElem?_eq_getElem (by omega)] at h0
    have := World.block_lt_of_cell? W _ h0
    rwa [block_of_add] at this
  · have hj : j < n := by rw [← hl]; exact (List.getElem?_eq_some_iff.1 hu).1
    rw [h j hj, hu]
theorem open_nums {k : IntKind} {r : Reach} {b0 : Nat} {t e : TypeId} {v : Value} {d : DataW H} {p : List MemPlace} (ht : P.underlying t = some (.slice e)) (he : P.underlying e = some (.int k)) (hc : P.cellsOf e = 1)
    (hv : Value.okWide P W r b0 t v) (h : DataW.Trod enc P W base spare held t v d p) :
    ∃ (A : Option Addr) (n c : Nat) (zs : List Int), v = .slice A n c ∧ Reads W W.heap.size 1 A n (zs.map (Value.int k)) ∧ (∀ z ∈ zs, (Lit.int k z).wf = true) ∧ n ≤ c ∧ c ≤ maxLen := by
  obtain ⟨a0, len, cap, rfl⟩ := okWide_slice ht hv
  obtain ⟨fuel, hf⟩ := h
  rcases open_ints ht he hc (by simpa [Value.cells] using hf) with ⟨hcs, _⟩ | ⟨a, len', cap', zs, hcs, _, hl, hm, hz, _, hcell, hw⟩
  · simp at hcs
    obtain ⟨rfl, rfl, rfl⟩ := hcs
    exact ⟨none, 0, 0, [], rfl, ⟨by simp, fun h => absurd h (by omega)⟩, by simp, Nat.le_refl _, Nat.zero_le _⟩
  · simp at hcs
    obtain ⟨rfl, rfl, rfl⟩ := hcs
    have hle : len ≤ zs.length := by rw [hz]; split <;> omega
    refine ⟨some a, len, cap, zs.take len, rfl, reads_cells (by simp; omega) fun i hi => ?_, fun z hz' => hw z (List.mem_of_mem_take hz'), hl, hm⟩
    rw [hcell i (by omega)]
    simp [hi, show i < zs.length by omega]
theorem open_u8s {r : Reach} {b0 : Nat} {t e : TypeId} {v : Value} {d : DataW H} {p : List MemPlace} (ht : P.underlying t = some (.slice e)) (he : P.underlying e = some (.int .u8)) (hc : P.cellsOf e = 1)
    (hv : Value.okWide P W r b0 t v) (h : DataW.Trod enc P W base spare held t v d p) :
    ∃ (A : Option Addr) (n c : Nat) (xs : List Nat), v = .slice A n c ∧ Reads W W.heap.size 1 A n (u8s xs) ∧ (∀ x ∈ xs, x < 256) ∧ n ≤ c ∧ c ≤ maxLen := by
  obtain ⟨A, n, c, zs, hv, hr, hw, h1, h2⟩ := open_nums ht he hc hv h
  have hb : ∀ z ∈ zs, 0 ≤ z ∧ z ≤ 255 := fun z hz => bounds_u8 (hw z hz)
  refine ⟨A, n, c, zs.map Int.toNat, hv, ?_, fun x hx => ?_, h1, h2⟩
  · rw [show u8s (zs.map Int.toNat) = zs.map (Value.int .u8) from ?_]
    · exact hr
    · simp only [u8s, List.map_map]
      exact List.map_congr_left fun z hz => by have := hb z hz; simp; omega
  · obtain ⟨z, hz, rfl⟩ := List.mem_map.1 hx
    have := hb z hz; omega
theorem open_u64s {r : Reach} {b0 : Nat} {t e : TypeId} {v : Value} {d : DataW H} {p : List MemPlace} (ht : P.underlying t = some (.slice e)) (he : P.underlying e = some (.int .u64)) (hc : P.cellsOf e = 1)
    (hv : Value.okWide P W r b0 t v) (h : DataW.Trod enc P W base spare held t v d p) :
    ∃ (A : Option Addr) (n c : Nat) (xs : List Nat), v = .slice A n c ∧ Reads W W.heap.size 1 A n (u64s xs) ∧ (∀ x ∈ xs, W64 x) ∧ n ≤ c ∧ c ≤ maxLen := by
  obtain ⟨A, n, c, zs, hv, hr, hw, h1, h2⟩ := open_nums ht he hc hv h
  have hb : ∀ z ∈ zs, 0 ≤ z ∧ z ≤ 18446744073709551615 := fun z hz => bounds_u64 (hw z hz)
  refine ⟨A, n, c, zs.map Int.toNat, hv, ?_, fun x hx => ?_, h1, h2⟩
  · rw [show u64s (zs.map Int.toNat) = zs.map (Value.int .u64) from ?_]
    · exact hr
    · simp only [u64s, List.map_map]
      exact List.map_congr_left fun z hz => by have := hb z hz; simp; omega
  · obtain ⟨z, hz, rfl⟩ := List.mem_map.1 hx
    have := hb z hz
    unfold W64; omega
theorem open_i64s {r : Reach} {b0 : Nat} {t e : TypeId} {v : Value} {d : DataW H} {p : List MemPlace} (ht : P.underlying t = some (.slice e)) (he : P.underlying e = some (.int .i64)) (hc : P.cellsOf e = 1)
    (hv : Value.okWide P W r b0 t v) (h : DataW.Trod enc P W base spare held t v d p) :
    ∃ (A : Option Addr) (n c : Nat) (zs : List Int), v = .slice A n c ∧ Reads W W.heap.size 1 A n (i64s zs) ∧ (∀ z ∈ zs, IN64 z) ∧ n ≤ c ∧ c ≤ maxLen := by
  obtain ⟨A, n, c, zs, hv, hr, hw, h1, h2⟩ := open_nums ht he hc hv h
  exact ⟨A, n, c, zs, hv, hr, fun z hz => by have := bounds_i64 (hw z hz); exact ⟨this.2, this.1⟩, h1, h2⟩
theorem open_boos {r : Reach} {b0 : Nat} {t e : TypeId} {v : Value} {d : DataW H} {p : List MemPlace} (ht : P.underlying t = some (.slice e)) (he : P.underlying e = some .bool) (hc : P.cellsOf e = 1)
    (hv : Value.okWide P W r b0 t v) (h : DataW.Trod enc P W base spare held t v d p) :
    ∃ (A : Option Addr) (n c : Nat) (zs : List Bool), v = .slice A n c ∧ Reads W W.heap.size 1 A n (boos zs) ∧ n ≤ c ∧ c ≤ maxLen := by
  obtain ⟨a0, len, cap, rfl⟩ := okWide_slice ht hv
  obtain ⟨fuel, hf⟩ := h
  rcases open_slice1 ht hc (by simpa [Value.cells] using hf) with ⟨hcs, _⟩ | ⟨a, len', cap', m, n, V, D, Pl, hcs, _, hl, hm, hz, _, hcell⟩
  · simp at hcs
    obtain ⟨rfl, rfl, rfl⟩ := hcs
    exact ⟨none, 0, 0, [], rfl, ⟨by simp, fun h => absurd h (by omega)⟩, Nat.le_refl _, Nat.zero_le _⟩
  · simp at hcs
    obtain ⟨rfl, rfl, rfl⟩ := hcs
    have hle : len ≤ m := by rw [hz]; split <;> omega
    have hb : ∀ i, i < len → V i = .bool (match V i with | .bool b => b | _ => false) := fun i hi => by
      obtain ⟨b, hb, _⟩ := DataW.trod_bool he (hcell i (by omega)).2
      simp at hb; rw [hb]
    refine ⟨some a, len, cap, (List.range len).map fun i => (match V i with | .bool b => b | _ => false), rfl, reads_cells (by simp) fun i hi => ?_, hl, hm⟩
    rw [(hcell i (by omega)).1, hb i hi]
    simp [boos, hi]
end
end Go.Proofs.Ytejijghghbicdaa
