/-
  The heap's exchange of two times.
-/
import Derived.Test.YtifoonjhcjmehaaHeapM
import Derived.BigRegion
namespace Go.Proofs.Ytifoonjhcjmehaa
open Go.RowKit
set_option linter.unusedSimpArgs false
set_option linter.unusedVariables false

/-- A block of times: the first of its cells. -/
def TBlk (w : World) (g : Nat) (l : List Tm) : Prop := ∃ r : List Value, Blk w g 33 (tmCells l ++ r).toArray
section
variable {w w' : World} {g : Nat} {l : List Tm}
theorem TBlk.lt (h : TBlk w g l) : g < w.heap.size := h.choose_spec.lt
theorem TBlk.f (h : TBlk w g l) : ∀ i, w.frozen? ⟨g, i, none⟩ = false := h.choose_spec.f
theorem TBlk.c (h : TBlk w g l) {i : Nat} {u : Value} (hi : (tmCells l)[i]? = some u) : w.cell? ⟨g, i, none⟩ = some u := by
  rw [h.choose_spec.c i, List.getElem?_toArray]
  have : i < (tmCells l).length := (List.getElem?_eq_some_iff.1 hi).1
  rw [List.getElem?_append_left this, hi]
theorem TBlk.on (h : TBlk w g l) (hb : Below w.heap.size w w') : TBlk w' g l := ⟨_, h.choose_spec.on hb⟩
theorem TBlk.below {B : Nat} (h : TBlk w g l) (hb : Below B w w') (hg : g < B) : TBlk w' g l := ⟨_, h.choose_spec.below hb hg⟩
theorem TBlk.touch {gs : List Nat} (h : TBlk w g l) (ht : Touch gs w w') (hg : g ∉ gs) : TBlk w' g l := ⟨_, h.choose_spec.touch ht hg⟩
theorem TBlk.alloc (h : TBlk w g l) (o : Obj) : TBlk (w.alloc o) g l := ⟨_, h.choose_spec.alloc o⟩
theorem TBlk.drewN (h : TBlk w g l) (n : Nat) : TBlk (w.drewN n) g l := ⟨_, h.choose_spec.drewN n⟩
theorem TBlk.tm {k : Nat} (h : TBlk w g l) (hk : k < l.length) :
    w.cell? ⟨g, k * 2, none⟩ = some (.int .i64 (Tm.at_ l k).e) ∧ w.cell? ⟨g, k * 2 + 1, none⟩ = some (.int .i64 (Tm.at_ l k).l) := by
  have := tmCells_at l k _ (Tm.some_at hk)
  exact ⟨h.c this.1, h.c this.2⟩
theorem TBlk.take (h : TBlk w g l) (n : Nat) : TBlk w g (l.take n) := by
  obtain ⟨r, h⟩ := h
  refine ⟨tmCells (l.drop n) ++ r, ?_⟩
  rw [← List.append_assoc, ← tmCells_append, List.take_append_drop]
  exact h
end
theorem cell_set_some {w : World} {p q : Addr} {x v : Value} (h : w.cell? q = some v) : ∃ v', (w.setCell p x).cell? q = some v' := by
  by_cases e : p = q
  · subst e; exact ⟨x, World.cell?_setCell_same w p x h⟩
  · exact ⟨v, (World.cell?_setCell_other w p q x e).trans h⟩
theorem tmCells_set (l : List Tm) (k : Nat) (t : Tm) : tmCells (l.set k t) = ((tmCells l).set (k * 2) (.int .i64 t.e)).set (k * 2 + 1) (.int .i64 t.l) := by
  induction l generalizing k with
  | nil => simp [tmCells]
  | cons a l ih =>
    cases k with
    | zero => simp [tmCells_cons]
    | succ k => rw [List.set_cons_succ, tmCells_cons, tmCells_cons, ih, show (k + 1) * 2 = k * 2 + 2 by omega, show k * 2 + 2 + 1 = k * 2 + 1 + 2 by omega]; simp

theorem TBlk.set_ {w : World} {g : Nat} {l : List Tm} (h : TBlk w g l) {k : Nat} (hk : k < l.length) (t : Tm) : TBlk ((w.setCell ⟨g, k * 2, none⟩ (.int .i64 t.e)).setCell ⟨g, k * 2 + 1, none⟩ (.int .i64 t.l)) g (l.set k t) := by
  obtain ⟨r, h⟩ := h
  have := (h.set_ (k * 2) (.int .i64 t.e)).set_ (k * 2 + 1) (.int .i64 t.l)
  simp only [List.setIfInBounds_toArray] at this
  refine ⟨r, ?_⟩
  rw [tmCells_set]
  rw [List.set_append_left _ _ (by simp; omega), List.set_append_left _ _ (by simp; omega)] at this
  exact this

set_option maxRecDepth 100000 in
set_option maxHeartbeats 2000000 in
theorem hswap_any {g n c : Nat} {l : List Tm} {i j : Nat} (w : World) (h : TBlk w g l) (hn : n ≤ l.length) (hi : i < n) (hj : j < n) (hbig : n ≤ 1000000) :
    Calls Try.prog 93 #[.slice (some ⟨g, 0, none⟩) n c, .int .i64 i, .int .i64 j] w fun e w' => e = .returned (.tuple #[]) ∧ TBlk w' g (swapT l i j) ∧ Touch [g] w w' := by
  obtain ⟨hc0, hc1⟩ := h.tm (k := i) (by omega)
  obtain ⟨hd0, hd1⟩ := h.tm (k := j) (by omega)
  have hf := h.f
  have K := Lib.hid h
  clear h
  generalize hx : Tm.at_ l i = x at hc0 hc1
  generalize hy : Tm.at_ l j = y at hd0 hd1
  have HX := Lib.hid hx
  have HY := Lib.hid hy
  clear hx hy
  obtain ⟨v1, e1⟩ := cell_set_some (p := ⟨g, i * 2, none⟩) (x := .int .i64 y.e) hc1
  obtain ⟨v2, e2⟩ := cell_set_some (p := ⟨g, i * 2 + 1, none⟩) (x := .int .i64 y.l) (cell_set_some (p := ⟨g, i * 2, none⟩) (x := .int .i64 y.e) hd0).choose_spec
  obtain ⟨v3, e3⟩ := cell_set_some (p := ⟨g, j * 2, none⟩) (x := .int .i64 x.e) (cell_set_some (p := ⟨g, i * 2 + 1, none⟩) (x := .int .i64 y.l) (cell_set_some (p := ⟨g, i * 2, none⟩) (x := .int .i64 y.e) hd1).choose_spec).choose_spec
  go_enter Try.func93, Try.ntmps93
  go_wp2_with fail
  go_region
  go_end0
  refine ⟨rfl, ?_, ?_⟩
  rotate_left
  · exact ((((Touch.refl [g] w).at1 _ _).at1 _ _).at1 _ _).at1 _ _ |>.drew
  have := ((K.out.set_ (k := i) (by omega) y).set_ (k := j) (by simp; omega) x).drewN 1
  rw [swapT, HX.out, HY.out]
  exact this

set_option maxRecDepth 100000 in
set_option maxHeartbeats 2000000 in
theorem hpop_any {g b n c : Nat} {l : List Tm} (w : World) (h : TBlk w g l) (hb : Blk w b 60 #[.slice (some ⟨g, 0, none⟩) (n + 1) c]) (hn : n + 1 ≤ l.length) (hc : n + 1 ≤ c) (hbig : n ≤ 1000000) :
    Calls Try.prog 94 #[.pointer (some ⟨b, 0, none⟩)] w fun e w' => e = .returned (.iface 33 (tmv (Tm.at_ l n))) ∧ Blk w' b 60 #[.slice (some ⟨g, 0, none⟩) n c] ∧ Touch [b] w w' := by
  obtain ⟨hc0, hc1⟩ := h.tm (k := n) (by omega)
  have hbc := hb.c
  have hbf := hb.f
  have hbz := hb.lt
  have hgz := h.lt
  have K := Lib.hid hb
  clear h hb
  generalize hx : Tm.at_ l n = x at hc0 hc1
  have hne : w.heap.size ≠ b := by omega
  have hne' : b ≠ w.heap.size := by omega
  go_enter Try.func94, Try.ntmps94
  go_wp2_with fail
  go_ret
  exact ⟨by rw [← hx]; rfl, (K.out.set_ 0 _).alloc _, ((Touch.refl [b] w).at1 _ _).alloc _⟩
end Go.Proofs.Ytifoonjhcjmehaa
