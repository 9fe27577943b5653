/-
  Words on memory that every walk of this seat uses: what stays below a block number, cells behind a call.
-/
import Derived.Test.YtifoonjhcjmehaaRows
import Derived.WalkKit
import Derived.Laws.StructEq
import Derived.KernelRfl
import Derived.Deep.Draws
import Derived.Deep.RegionHeld3
import Derived.Deep.QuietTactic
import Derived.BigQuiet
import Derived.Laws.OwnMore
import Derived.Deep.AppendLies
import Derived.Deep.DeepCutAuto
import Derived.Deep.RegionWith
import Derived.Maps.AppendAt
import Derived.Lib.Hide
import Derived.WalkSpells
import Derived.WalkLawsBesides
namespace Go.Proofs.Ytifoonjhcjmehaa
open Go.RowKit

theorem bcell {W w1 : World} (hb : Below W.heap.size W w1) : (∀ b o, b < W.heap.size → w1.cell? ⟨b, o, none⟩ = W.cell? ⟨b, o, none⟩) ∧ (∀ b o, b < W.heap.size → w1.frozen? ⟨b, o, none⟩ = W.frozen? ⟨b, o, none⟩) :=
  ⟨fun b o h => hb.cell (p := ⟨b, o, none⟩) h, fun b o h => hb.frozen (p := ⟨b, o, none⟩) h⟩
/-- What a call leaves of the cells below block B. -/
theorem bk {W w1 : World} (B : Nat) (hb : Below W.heap.size W w1) (h : B ≤ W.heap.size) : (∀ b o, b < B → w1.cell? ⟨b, o, none⟩ = W.cell? ⟨b, o, none⟩) ∧ (∀ b o, b < B → w1.frozen? ⟨b, o, none⟩ = W.frozen? ⟨b, o, none⟩) ∧ B ≤ w1.heap.size :=
  ⟨fun b o hh => hb.cell (p := ⟨b, o, none⟩) (Nat.lt_of_lt_of_le hh h), fun b o hh => hb.frozen (p := ⟨b, o, none⟩) (Nat.lt_of_lt_of_le hh h), Nat.le_trans h hb.size⟩
theorem below_drewN {B : Nat} {a w : World} (h : Below B a w) (n : Nat) : Below B a (w.drewN n) := ⟨h.os, h.tape, h.output, h.size, h.block⟩
/-- A call behind which only new memory has come. -/
theorem below_after {B : Nat} {w W w1 : World} (h : Below B w W) (hb : Below W.heap.size W w1) (hB : B ≤ W.heap.size) : Below B w w1 := h.trans (hb.mono hB)

/-! A block that is known whole: just the cells cs of element type t, none of them frozen. -/
def Blk (w : World) (g : Nat) (t : TypeId) (cs : Array Value) : Prop := w.heap[g]? = some (.cells cs t (0, 0))
section
variable {w w' : World} {g : Nat} {t : TypeId} {cs : Array Value}
theorem Blk.lt (h : Blk w g t cs) : g < w.heap.size := by
  rcases Nat.lt_or_ge g w.heap.size with hlt | hge
  · exact hlt
  · unfold Blk at h; rw [Array.getElem?_eq_none hge] at h; cases h
theorem Blk.c (h : Blk w g t cs) : ∀ i, w.cell? ⟨g, i, none⟩ = cs[i]? := fun i => cell_of_row w g i cs t (0, 0) h
theorem Blk.f (h : Blk w g t cs) : ∀ i, w.frozen? ⟨g, i, none⟩ = false := fun i => by
  unfold Blk at h
  simp [World.frozen?, h]
theorem Blk.cf (h : Blk w g t cs) : (∀ i, w.cell? ⟨g, i, none⟩ = cs[i]?) ∧ ∀ i, w.frozen? ⟨g, i, none⟩ = false := ⟨h.c, h.f⟩
/-- .. behind a call. -/
theorem Blk.on (h : Blk w g t cs) (hb : Below w.heap.size w w') : Blk w' g t cs := (hb.block g h.lt).trans h
theorem Blk.below {B : Nat} (h : Blk w g t cs) (hb : Below B w w') (hg : g < B) : Blk w' g t cs := (hb.block g hg).trans h
theorem Blk.grown {row : Option Nat} (h : Blk w g t cs) (hb : w.grownBy w' row) (hg : some g ≠ row) : Blk w' g t cs := (hb.block g h.lt hg).trans h
theorem Blk.new (w : World) (t : TypeId) (cs : Array Value) : Blk (w.alloc (.cells cs t)) w.heap.size t cs := heap_alloc_new w _
theorem Blk.at_ (w : World) (t : TypeId) (cs : Array Value) {g : Nat} (hg : g = w.heap.size) : Blk (w.alloc (.cells cs t)) g t cs := by subst hg; exact heap_alloc_new w _
theorem Blk.alloc (h : Blk w g t cs) (o : Obj) : Blk (w.alloc o) g t cs := (Below.heap_alloc w o g h.lt).trans h
theorem Blk.drewN (h : Blk w g t cs) (n : Nat) : Blk (w.drewN n) g t cs := h
theorem Blk.set_ (h : Blk w g t cs) (i : Nat) (u : Value) : Blk (w.setCell ⟨g, i, none⟩ u) g t (cs.setIfInBounds i u) := by
  unfold Blk at h ⊢
  simp [World.setCell, Array.getElem?_modify, h]
theorem Blk.far (h : Blk w g t cs) {p : Addr} (hp : g ≠ p.block) (u : Value) : Blk (w.setCell p u) g t cs := (Below.heap_setCell w p u g hp).trans h
theorem Blk.ne_ {g' : Nat} {t' : TypeId} {cs' : Array Value} (h : Blk w g t cs) (h' : Blk w g' t' cs') (hne : t ≠ t') : g ≠ g' := by
  rintro rfl
  unfold Blk at h h'
  rw [h] at h'
  injection h' with h'
  injection h' with _ ht
  exact hne ht
end
theorem setCell_again (w : World) (a : Addr) (u v : Value) : (w.setCell a u).setCell a v = w.setCell a v := by
  simp only [World.setCell]
  congr 1
  apply Array.ext
  · simp
  · intro i h1 h2
    simp only [Array.getElem_modify]
    split
    · cases w.heap[i]'(by simpa using h2) <;> simp only [] <;> by_cases hs : a.spot.isSome = true <;> simp [hs]
    · rfl
/-! What a region carries on: nothing below B has changed, and these blocks are as they were: behind one more call. -/
theorem keep1 {B : Nat} {w W w1 : World} {g0 : Nat} {t0 : TypeId} {s0 : Array Value}
    (h : Below B w W ∧ Blk W g0 t0 s0 ∧ (∀ i, W.cell? ⟨g0, i, none⟩ = s0[i]?))
    (hb : Below W.heap.size W w1) (hB : B ≤ w.heap.size) : Below B w w1 ∧ Blk w1 g0 t0 s0 ∧ (∀ i, w1.cell? ⟨g0, i, none⟩ = s0[i]?) := by
  obtain ⟨HB, K0, _⟩ := h
  exact ⟨below_after HB hb (Nat.le_trans hB HB.size), K0.on hb, (K0.on hb).c⟩
theorem keep2 {B : Nat} {w W w1 : World} {g0 g1 : Nat} {t0 t1 : TypeId} {s0 s1 : Array Value}
    (h : Below B w W ∧ Blk W g0 t0 s0 ∧ Blk W g1 t1 s1 ∧ (∀ i, W.cell? ⟨g0, i, none⟩ = s0[i]?) ∧ (∀ i, W.cell? ⟨g1, i, none⟩ = s1[i]?))
    (hb : Below W.heap.size W w1) (hB : B ≤ w.heap.size) : Below B w w1 ∧ Blk w1 g0 t0 s0 ∧ Blk w1 g1 t1 s1 ∧ (∀ i, w1.cell? ⟨g0, i, none⟩ = s0[i]?) ∧ (∀ i, w1.cell? ⟨g1, i, none⟩ = s1[i]?) := by
  obtain ⟨HB, K0, K1, _, _⟩ := h
  exact ⟨below_after HB hb (Nat.le_trans hB HB.size), K0.on hb, K1.on hb, (K0.on hb).c, (K1.on hb).c⟩
theorem keep3 {B : Nat} {w W w1 : World} {g0 g1 g2 : Nat} {t0 t1 t2 : TypeId} {s0 s1 s2 : Array Value}
    (h : Below B w W ∧ Blk W g0 t0 s0 ∧ Blk W g1 t1 s1 ∧ Blk W g2 t2 s2 ∧ (∀ i, W.cell? ⟨g0, i, none⟩ = s0[i]?) ∧ (∀ i, W.cell? ⟨g1, i, none⟩ = s1[i]?) ∧ (∀ i, W.cell? ⟨g2, i, none⟩ = s2[i]?))
    (hb : Below W.heap.size W w1) (hB : B ≤ w.heap.size) : Below B w w1 ∧ Blk w1 g0 t0 s0 ∧ Blk w1 g1 t1 s1 ∧ Blk w1 g2 t2 s2 ∧ (∀ i, w1.cell? ⟨g0, i, none⟩ = s0[i]?) ∧ (∀ i, w1.cell? ⟨g1, i, none⟩ = s1[i]?) ∧ (∀ i, w1.cell? ⟨g2, i, none⟩ = s2[i]?) := by
  obtain ⟨HB, K0, K1, K2, _, _, _⟩ := h
  exact ⟨below_after HB hb (Nat.le_trans hB HB.size), K0.on hb, K1.on hb, K2.on hb, (K0.on hb).c, (K1.on hb).c, (K2.on hb).c⟩
theorem keep4 {B : Nat} {w W w1 : World} {g0 g1 g2 g3 : Nat} {t0 t1 t2 t3 : TypeId} {s0 s1 s2 s3 : Array Value}
    (h : Below B w W ∧ Blk W g0 t0 s0 ∧ Blk W g1 t1 s1 ∧ Blk W g2 t2 s2 ∧ Blk W g3 t3 s3 ∧ (∀ i, W.cell? ⟨g0, i, none⟩ = s0[i]?) ∧ (∀ i, W.cell? ⟨g1, i, none⟩ = s1[i]?) ∧ (∀ i, W.cell? ⟨g2, i, none⟩ = s2[i]?) ∧ (∀ i, W.cell? ⟨g3, i, none⟩ = s3[i]?))
    (hb : Below W.heap.size W w1) (hB : B ≤ w.heap.size) : Below B w w1 ∧ Blk w1 g0 t0 s0 ∧ Blk w1 g1 t1 s1 ∧ Blk w1 g2 t2 s2 ∧ Blk w1 g3 t3 s3 ∧ (∀ i, w1.cell? ⟨g0, i, none⟩ = s0[i]?) ∧ (∀ i, w1.cell? ⟨g1, i, none⟩ = s1[i]?) ∧ (∀ i, w1.cell? ⟨g2, i, none⟩ = s2[i]?) ∧ (∀ i, w1.cell? ⟨g3, i, none⟩ = s3[i]?) := by
  obtain ⟨HB, K0, K1, K2, K3, _, _, _, _⟩ := h
  exact ⟨below_after HB hb (Nat.le_trans hB HB.size), K0.on hb, K1.on hb, K2.on hb, K3.on hb, (K0.on hb).c, (K1.on hb).c, (K2.on hb).c, (K3.on hb).c⟩
theorem keep5 {B : Nat} {w W w1 : World} {g0 g1 g2 g3 g4 : Nat} {t0 t1 t2 t3 t4 : TypeId} {s0 s1 s2 s3 s4 : Array Value}
    (h : Below B w W ∧ Blk W g0 t0 s0 ∧ Blk W g1 t1 s1 ∧ Blk W g2 t2 s2 ∧ Blk W g3 t3 s3 ∧ Blk W g4 t4 s4 ∧ (∀ i, W.cell? ⟨g0, i, none⟩ = s0[i]?) ∧ (∀ i, W.cell? ⟨g1, i, none⟩ = s1[i]?) ∧ (∀ i, W.cell? ⟨g2, i, none⟩ = s2[i]?) ∧ (∀ i, W.cell? ⟨g3, i, none⟩ = s3[i]?) ∧ (∀ i, W.cell? ⟨g4, i, none⟩ = s4[i]?))
    (hb : Below W.heap.size W w1) (hB : B ≤ w.heap.size) : Below B w w1 ∧ Blk w1 g0 t0 s0 ∧ Blk w1 g1 t1 s1 ∧ Blk w1 g2 t2 s2 ∧ Blk w1 g3 t3 s3 ∧ Blk w1 g4 t4 s4 ∧ (∀ i, w1.cell? ⟨g0, i, none⟩ = s0[i]?) ∧ (∀ i, w1.cell? ⟨g1, i, none⟩ = s1[i]?) ∧ (∀ i, w1.cell? ⟨g2, i, none⟩ = s2[i]?) ∧ (∀ i, w1.cell? ⟨g3, i, none⟩ = s3[i]?) ∧ (∀ i, w1.cell? ⟨g4, i, none⟩ = s4[i]?) := by
  obtain ⟨HB, K0, K1, K2, K3, K4, _, _, _, _, _⟩ := h
  exact ⟨below_after HB hb (Nat.le_trans hB HB.size), K0.on hb, K1.on hb, K2.on hb, K3.on hb, K4.on hb, (K0.on hb).c, (K1.on hb).c, (K2.on hb).c, (K3.on hb).c, (K4.on hb).c⟩
theorem keep6 {B : Nat} {w W w1 : World} {g0 g1 g2 g3 g4 g5 : Nat} {t0 t1 t2 t3 t4 t5 : TypeId} {s0 s1 s2 s3 s4 s5 : Array Value}
    (h : Below B w W ∧ Blk W g0 t0 s0 ∧ Blk W g1 t1 s1 ∧ Blk W g2 t2 s2 ∧ Blk W g3 t3 s3 ∧ Blk W g4 t4 s4 ∧ Blk W g5 t5 s5 ∧ (∀ i, W.cell? ⟨g0, i, none⟩ = s0[i]?) ∧ (∀ i, W.cell? ⟨g1, i, none⟩ = s1[i]?) ∧ (∀ i, W.cell? ⟨g2, i, none⟩ = s2[i]?) ∧ (∀ i, W.cell? ⟨g3, i, none⟩ = s3[i]?) ∧ (∀ i, W.cell? ⟨g4, i, none⟩ = s4[i]?) ∧ (∀ i, W.cell? ⟨g5, i, none⟩ = s5[i]?))
    (hb : Below W.heap.size W w1) (hB : B ≤ w.heap.size) : Below B w w1 ∧ Blk w1 g0 t0 s0 ∧ Blk w1 g1 t1 s1 ∧ Blk w1 g2 t2 s2 ∧ Blk w1 g3 t3 s3 ∧ Blk w1 g4 t4 s4 ∧ Blk w1 g5 t5 s5 ∧ (∀ i, w1.cell? ⟨g0, i, none⟩ = s0[i]?) ∧ (∀ i, w1.cell? ⟨g1, i, none⟩ = s1[i]?) ∧ (∀ i, w1.cell? ⟨g2, i, none⟩ = s2[i]?) ∧ (∀ i, w1.cell? ⟨g3, i, none⟩ = s3[i]?) ∧ (∀ i, w1.cell? ⟨g4, i, none⟩ = s4[i]?) ∧ (∀ i, w1.cell? ⟨g5, i, none⟩ = s5[i]?) := by
  obtain ⟨HB, K0, K1, K2, K3, K4, K5, _, _, _, _, _, _⟩ := h
  exact ⟨below_after HB hb (Nat.le_trans hB HB.size), K0.on hb, K1.on hb, K2.on hb, K3.on hb, K4.on hb, K5.on hb, (K0.on hb).c, (K1.on hb).c, (K2.on hb).c, (K3.on hb).c, (K4.on hb).c, (K5.on hb).c⟩
theorem keep7 {B : Nat} {w W w1 : World} {g0 g1 g2 g3 g4 g5 g6 : Nat} {t0 t1 t2 t3 t4 t5 t6 : TypeId} {s0 s1 s2 s3 s4 s5 s6 : Array Value}
    (h : Below B w W ∧ Blk W g0 t0 s0 ∧ Blk W g1 t1 s1 ∧ Blk W g2 t2 s2 ∧ Blk W g3 t3 s3 ∧ Blk W g4 t4 s4 ∧ Blk W g5 t5 s5 ∧ Blk W g6 t6 s6 ∧ (∀ i, W.cell? ⟨g0, i, none⟩ = s0[i]?) ∧ (∀ i, W.cell? ⟨g1, i, none⟩ = s1[i]?) ∧ (∀ i, W.cell? ⟨g2, i, none⟩ = s2[i]?) ∧ (∀ i, W.cell? ⟨g3, i, none⟩ = s3[i]?) ∧ (∀ i, W.cell? ⟨g4, i, none⟩ = s4[i]?) ∧ (∀ i, W.cell? ⟨g5, i, none⟩ = s5[i]?) ∧ (∀ i, W.cell? ⟨g6, i, none⟩ = s6[i]?))
    (hb : Below W.heap.size W w1) (hB : B ≤ w.heap.size) : Below B w w1 ∧ Blk w1 g0 t0 s0 ∧ Blk w1 g1 t1 s1 ∧ Blk w1 g2 t2 s2 ∧ Blk w1 g3 t3 s3 ∧ Blk w1 g4 t4 s4 ∧ Blk w1 g5 t5 s5 ∧ Blk w1 g6 t6 s6 ∧ (∀ i, w1.cell? ⟨g0, i, none⟩ = s0[i]?) ∧ (∀ i, w1.cell? ⟨g1, i, none⟩ = s1[i]?) ∧ (∀ i, w1.cell? ⟨g2, i, none⟩ = s2[i]?) ∧ (∀ i, w1.cell? ⟨g3, i, none⟩ = s3[i]?) ∧ (∀ i, w1.cell? ⟨g4, i, none⟩ = s4[i]?) ∧ (∀ i, w1.cell? ⟨g5, i, none⟩ = s5[i]?) ∧ (∀ i, w1.cell? ⟨g6, i, none⟩ = s6[i]?) := by
  obtain ⟨HB, K0, K1, K2, K3, K4, K5, K6, _, _, _, _, _, _, _⟩ := h
  exact ⟨below_after HB hb (Nat.le_trans hB HB.size), K0.on hb, K1.on hb, K2.on hb, K3.on hb, K4.on hb, K5.on hb, K6.on hb, (K0.on hb).c, (K1.on hb).c, (K2.on hb).c, (K3.on hb).c, (K4.on hb).c, (K5.on hb).c, (K6.on hb).c⟩
end Go.Proofs.Ytifoonjhcjmehaa
