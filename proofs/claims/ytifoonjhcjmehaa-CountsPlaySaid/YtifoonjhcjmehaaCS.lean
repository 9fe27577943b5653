/-
  Counts that a law makes: the calls, in one form.
-/
import Derived.Test.YtifoonjhcjmehaaActs
namespace Go.Proofs.Ytifoonjhcjmehaa
open Go.RowKit
set_option linter.unusedSimpArgs false
set_option linter.unusedVariables false

/-- Rows of another type than counts stay. -/
def Keep (w w' : World) : Prop := ∀ (k : Nat) (cs : Array Value) (t : TypeId) (fr : Nat × Nat), t ≠ 26 → w.heap[k]? = some (.cells cs t fr) → w'.heap[k]? = some (.cells cs t fr)
theorem Keep.trans {a b c : World} (h : Keep a b) (k : Keep b c) : Keep a c := fun i cs t fr ht hh => k i cs t fr ht (h i cs t fr ht hh)
theorem Keep.of_below {w w' : World} (h : Below w.heap.size w w') : Keep w w' := fun k cs t fr _ hh => by
  have hlt : k < w.heap.size := (Array.getElem?_eq_some_iff.1 hh).1
  rw [h.block k hlt]; exact hh
theorem Keep.drew (w : World) : Keep w w.drew := fun _ _ _ _ _ h => h
theorem Keep.own {w w' : World} (h : Keep w w') {base e size n : Nat} {v : Value} {xs : List Value} (ho : w.ownsRow base e size v n xs) (he : e ≠ 26) : w'.ownsRow base e size v n xs :=
  ⟨ho.1, ho.2.elim .inl fun ⟨g, cap, cur, hv, hb, hg, rest⟩ => .inr ⟨g, cap, cur, hv, hb, h g cur e (0, 0) he hg, rest⟩⟩
theorem Keep.blk {w w' : World} (h : Keep w w') {g : Nat} {t : TypeId} {cs : Array Value} (hb : Blk w g t cs) (ht : t ≠ 26) : Blk w' g t cs := h g cs t (0, 0) ht hb
theorem addL_ok {L : Cnt} (h : OkL L) {t : Tm} (ht : t.ok) (n : Int) : OkL (addL L t n) := by
  unfold addL
  split
  · intro p hp
    rcases mem_insF.1 hp with ⟨rfl, _⟩ | ⟨hm, _⟩
    · exact ht
    · exact h p hm
  · exact h
theorem add_ct {g N : Nat} {m : Option Nat} {L : Cnt} {t : Tm} {n : Int} (w : World) (h : CtAt w g m N L) (ht : t.ok) (hN : N ≤ 1000000) :
    Calls Try.prog 12 #[.pointer (some ⟨g, 0, none⟩), tmv t, .int .i64 n] w fun e w' => e = .returned (.bool (addOk L t n)) ∧ ∃ m', CtAt w' g m' (N + 1) (addL L t n) ∧ Touch (g :: m'.toList) w w' ∧ (∀ b, m' = some b → m = some b ∨ w.heap.size ≤ b) ∧ Keep w w' := by
  refine (add_any (n := n) w h.box h.map h.bnd h.canon ht hN).mono ?_
  rintro e w' ⟨he, m', hK, hM, hT, hb⟩
  refine ⟨he, m', ⟨hK, hM, addL_canon h.canon t n, h.bnd.add h.canon t n, addL_ok h.ok ht n⟩, hT, hb, ?_⟩
  intro k cs t' fr ht' hk
  have hlt : k < w.heap.size := (Array.getElem?_eq_some_iff.1 hk).1
  rw [hT.block k hlt ?_]
  · exact hk
  · intro hmem
    rcases List.mem_cons.1 hmem with rfl | hmem
    · have := h.box
      unfold Blk at this
      rw [hk] at this
      injection this with this
      injection this with _ e2
      exact ht' e2
    · have hm' : m' = some k := by simpa using hmem
      rcases hb k hm' with h1 | h1
      · rcases h.map with ⟨h0, _⟩ | ⟨b, hbm, D, ⟨es, cl, hbb, _⟩, _⟩
        · rw [h0] at h1; cases h1
        · rw [hbm] at h1
          injection h1 with h1
          subst h1
          rw [hk] at hbb; cases hbb
      · omega
/-- Counts from block B on. -/
def CS (w : World) (B g N : Nat) (L : Cnt) : Prop := ∃ m, CtAt w g m N L ∧ B ≤ g ∧ (∀ b, m = some b → B ≤ b) ∧ B ≤ w.heap.size
section
variable {w w' : World} {B g N : Nat} {L : Cnt}
theorem CS.on (h : CS w B g N L) (hb : Below w.heap.size w w') : CS w' B g N L := by
  obtain ⟨m, h, h1, h2, h3⟩ := h
  exact ⟨m, h.on hb, h1, h2, Nat.le_trans h3 hb.size⟩
theorem CS.drew (h : CS w B g N L) : CS w.drew B g N L := h.on (Below.refl w.heap.size w).drew
theorem CS.canon (h : CS w B g N L) : Canon L := h.choose_spec.1.canon
theorem CS.ok (h : CS w B g N L) : OkL L := h.choose_spec.1.ok
theorem CS.bnd (h : CS w B g N L) : Bnd L := h.choose_spec.1.bnd
theorem CS.lt (h : CS w B g N L) : g < w.heap.size := h.choose_spec.1.box.lt
theorem CS.new (w : World) {B : Nat} (hB : B ≤ w.heap.size) : CS (w.alloc (.cells #[.map none] 26)) B w.heap.size 0 [] :=
  ⟨none, ⟨Blk.new _ _ _, .inl ⟨rfl, rfl⟩, Canon.nil, Bnd.nil, fun _ h => (by cases h)⟩, hB, fun _ h => (by cases h), by simp; omega⟩
theorem cs_add {t : Tm} {n : Int} {r : Bool} (w : World) (h : CS w B g N L) (ht : t.ok) (hN : N ≤ 1000000) (hr : addOk L t n = r) :
    Calls Try.prog 12 #[.pointer (some ⟨g, 0, none⟩), tmv t, .int .i64 n] w fun e w' => e = .returned (.bool r) ∧ CS w' B g (N + 1) (addL L t n) ∧ Below B w w' ∧ Keep w w' := by
  subst hr
  obtain ⟨m, h, h1, h2, h3⟩ := h
  refine (add_ct (n := n) w h ht hN).mono ?_
  rintro e w' ⟨he, m', hC, hT, hb, hk⟩
  have hb' : ∀ b, m' = some b → B ≤ b := fun b hm => by
    rcases hb b hm with h4 | h4
    · exact h2 b h4
    · omega
  have hB : Below B w w' := hT.below (fun x hx => by
    rcases List.mem_cons.1 hx with rfl | hx
    · exact h1
    · exact hb' x (by simpa using hx)) h3
  exact ⟨he, ⟨m', hC, h1, hb', Nat.le_trans h3 hB.size⟩, hB, hk⟩
theorem cs_of {t : Tm} {r : Int} (w : World) (h : CS w B g N L) (ht : t.ok) (hr : ofL L t = r) :
    Calls Try.prog 14 #[.pointer (some ⟨g, 0, none⟩), tmv t] w fun e w' => e = .returned (.int .i64 r) ∧ Below w.heap.size w w' := by
  obtain ⟨m, h, _⟩ := h
  exact of_b w h.box h.map ht hr
theorem cs_front (w : World) (h : CS w B g N L) (hN : N ≤ 1000000) (hlen : L.length ≤ 1000) :
    Calls Try.prog 17 #[.pointer (some ⟨g, 0, none⟩)] w fun e w' => ∃ (A : Option Addr) (M c : Nat) (f : List Tm), e = .returned (.slice A M c) ∧ IsMin (aboveL L) f ∧ M ≤ L.length ∧ w'.ownsRow w.heap.size 33 2 (.slice A M c) M (tmCells f) ∧ Below w.heap.size w w' := by
  obtain ⟨m, h, _⟩ := h
  exact front_any w h hN hlen
theorem cs_times (w : World) (h : CS w B g N L) (hN : N ≤ 1000000) (hlen : L.length ≤ 1000) :
    Calls Try.prog 19 #[.pointer (some ⟨g, 0, none⟩)] w fun e w' => ∃ (A : Option Addr) (n c : Nat), e = .returned (.slice A n c) ∧ L.length = n ∧ w'.ownsRow w.heap.size 33 2 (.slice A n c) n (tmCells (tmsL L)) ∧ Below w.heap.size w w' := by
  obtain ⟨m, h, _⟩ := h
  exact times_any w h hN (by omega)
end
/-- A row of changes, one by one. -/
def accL (f : Int → Int) (L : Cnt) (l : List Ac) : Cnt := l.foldl (fun L a => addL L a.t (f a.n)) L
theorem accL_snoc (f : Int → Int) (L : Cnt) (l : List Ac) (a : Ac) : accL f L (l ++ [a]) = addL (accL f L l) a.t (f a.n) := by simp [accL]
theorem accL_length (f : Int → Int) (L : Cnt) (l : List Ac) : (accL f L l).length ≤ L.length + l.length := by
  induction l generalizing L with
  | nil => simp [accL]
  | cons a l ih =>
    have := ih (addL L a.t (f a.n))
    have h2 := addL_length L a.t (f a.n)
    simp only [accL, List.foldl_cons, List.length_cons] at this ⊢
    omega
theorem take_succ_ac {l : List Ac} {k : Nat} (h : k < l.length) : l.take (k + 1) = l.take k ++ [acAt l k] := by
  rw [List.take_add_one, acAt_some h]; rfl
theorem accL_succ (f : Int → Int) (L : Cnt) {l : List Ac} {k : Nat} (h : k < l.length) : accL f L (l.take (k + 1)) = addL (accL f L (l.take k)) (acAt l k).t (f (acAt l k).n) := by
  rw [take_succ_ac h, accL_snoc]
end Go.Proofs.Ytifoonjhcjmehaa
