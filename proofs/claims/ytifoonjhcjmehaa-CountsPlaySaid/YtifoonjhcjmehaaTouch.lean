/-
  What a call changes: the blocks of a list, and new memory.
-/
import Derived.Test.YtifoonjhcjmehaaSlices
namespace Go.Proofs.Ytifoonjhcjmehaa
open Go.RowKit

/-- Nothing has changed but the blocks gs, and new memory has come. -/
structure Touch (gs : List Nat) (w w' : World) : Prop where
  os : w'.os = w.os
  tape : w'.tape = w.tape
  output : w'.output = w.output
  size : w.heap.size ≤ w'.heap.size
  block : ∀ k, k < w.heap.size → k ∉ gs → w'.heap[k]? = w.heap[k]?
section
variable {gs gs' : List Nat} {w w' w'' : World} {g : Nat} {t : TypeId} {cs : Array Value}
theorem Touch.refl (gs : List Nat) (w : World) : Touch gs w w := ⟨rfl, rfl, rfl, Nat.le_refl _, fun _ _ _ => rfl⟩
theorem Touch.trans (h : Touch gs w w') (k : Touch gs w' w'') : Touch gs w w'' :=
  ⟨k.os.trans h.os, k.tape.trans h.tape, k.output.trans h.output, Nat.le_trans h.size k.size, fun i hi hg => (k.block i (Nat.lt_of_lt_of_le hi h.size) hg).trans (h.block i hi hg)⟩
theorem Touch.more (h : Touch gs w w') (hh : ∀ x ∈ gs, x ∈ gs') : Touch gs' w w' := ⟨h.os, h.tape, h.output, h.size, fun k hk hg => h.block k hk fun hx => hg (hh k hx)⟩
theorem Touch.of_below {B : Nat} (h : Below B w w') (hB : w.heap.size ≤ B) : Touch gs w w' := ⟨h.os, h.tape, h.output, h.size, fun k hk _ => h.block k (by omega)⟩
theorem Touch.of_grown {row : Option Nat} (h : w.grownBy w' row) (hr : ∀ g, row = some g → g ∈ gs ∨ w.heap.size ≤ g) : Touch gs w w' :=
  ⟨h.os, h.tape, h.output, h.size, fun k hk hg => h.block k hk fun e => by rcases hr k e.symm with h1 | h1; exact hg h1; omega⟩
theorem Touch.below {B : Nat} (h : Touch gs w w') (hg : ∀ x ∈ gs, B ≤ x) (hB : B ≤ w.heap.size) : Below B w w' :=
  ⟨h.os, h.tape, h.output, h.size, fun k hk => h.block k (by omega) fun hx => by have := hg k hx; omega⟩
theorem Touch.alloc (h : Touch gs w w') (o : Obj) : Touch gs w (w'.alloc o) :=
  ⟨h.os, h.tape, h.output, Nat.le_trans h.size (by simp), fun k hk hg => (Below.heap_alloc w' o k (Nat.lt_of_lt_of_le hk h.size)).trans (h.block k hk hg)⟩
theorem Touch.set_ (h : Touch gs w w') {p : Addr} (hp : p.block ∈ gs) (u : Value) : Touch gs w (w'.setCell p u) :=
  ⟨h.os, h.tape, h.output, Nat.le_trans h.size (by simp), fun k hk hg => (Below.heap_setCell w' p u k (fun e => hg (e ▸ hp))).trans (h.block k hk hg)⟩
theorem Touch.at1 (h : Touch [g] w w') (i : Nat) (u : Value) : Touch [g] w (w'.setCell ⟨g, i, none⟩ u) := h.set_ (p := ⟨g, i, none⟩) (List.mem_singleton.2 rfl) u
theorem Touch.drewN (h : Touch gs w w') (n : Nat) : Touch gs w (w'.drewN n) := ⟨h.os, h.tape, h.output, h.size, h.block⟩
theorem Touch.drew (h : Touch gs w w') : Touch gs w w'.drew := ⟨h.os, h.tape, h.output, h.size, h.block⟩
theorem Blk.touch (h : Blk w g t cs) (ht : Touch gs w w') (hg : g ∉ gs) : Blk w' g t cs := (ht.block g h.lt hg).trans h
theorem Reads.touch {B size n : Nat} {A : Option Addr} {xs : List Value} (h : Reads w B size A n xs) (ht : Touch gs w w') (hg : ∀ x ∈ gs, B ≤ x) (hB : B ≤ w.heap.size) : Reads w' B size A n xs := h.below (ht.below hg hB)
end
end Go.Proofs.Ytifoonjhcjmehaa
