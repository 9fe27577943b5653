/-
  Two counts and the reference's, side by side.
-/
import Derived.Test.YtifoonjhcjmehaaRAdd
namespace Go.Proofs.Ytifoonjhcjmehaa
open Go.RowKit
set_option linter.unusedSimpArgs false
set_option linter.unusedVariables false

theorem radd_any {B g : Nat} {L : Cnt} {t : Tm} {n : Int} (w : World) (h : RC w B g L) (hbnd : Bnd L) (hlen : L.length ≤ 1000) :
    Calls Try.prog 13 #[.pointer (some ⟨g, 0, none⟩), tmv t, .int .i64 n] w fun e w' => e = .returned (.bool (addOk L t n)) ∧ RC w' B g (addL L t n) ∧ Touch [g] w w' := by
  cases hk : addOk L t n
  · refine (radd_no w h hbnd hlen hk).mono ?_
    rintro e w' ⟨he, hr, hb⟩
    exact ⟨he, by rw [show addL L t n = L by unfold addL; rw [hk]; rfl]; exact hr, Touch.of_below hb (Nat.le_refl _)⟩
  · exact radd_yes w h hbnd hlen hk

/-- The law's memory: its counts c, another o, the reference's r. -/
structure Pl (w : World) (B gc go gr : Nat) (m mo : Option Nat) (N No : Nat) (Lc Lo Lr : Cnt) : Prop where
  c : CtAt w gc m N Lc
  o : CtAt w go mo No Lo
  r : RC w B gr Lr
  bc : B ≤ gc
  bo : B ≤ go
  bw : B ≤ w.heap.size
  dco : gc ≠ go
  dcr : gc ≠ gr
  dor : go ≠ gr
  dm : ∀ b, m = some b → B ≤ b ∧ b ≠ go ∧ b ≠ gr
  dmo : ∀ b, mo = some b → B ≤ b ∧ b ≠ gc ∧ b ≠ gr
  dmm : ∀ b, m = some b → mo ≠ some b
theorem CtAt.mlt {w : World} {g N b : Nat} {m : Option Nat} {L : Cnt} (h : CtAt w g m N L) (hm : m = some b) : b < w.heap.size := by
  rcases h.map with ⟨h0, _⟩ | ⟨b', hb', hM⟩
  · rw [h0] at hm; cases hm
  · rw [hb'] at hm; injection hm with hm; subst hm; exact hM.lt
theorem RC.lt {w : World} {B g : Nat} {L : Cnt} (h : RC w B g L) : g < w.heap.size := by obtain ⟨⟨_, _, _, K, _⟩, _⟩ := h; exact K.lt
section
variable {w w' : World} {B gc go gr : Nat} {m mo : Option Nat} {N No : Nat} {Lc Lo Lr : Cnt}
theorem Pl.on (h : Pl w B gc go gr m mo N No Lc Lo Lr) (hb : Below w.heap.size w w') : Pl w' B gc go gr m mo N No Lc Lo Lr :=
  ⟨h.c.on hb, h.o.on hb, h.r.on hb, h.bc, h.bo, Nat.le_trans h.bw hb.size, h.dco, h.dcr, h.dor, h.dm, h.dmo, h.dmm⟩
theorem pl_o {t : Tm} {n : Int} (w : World) (h : Pl w B gc go gr m mo N No Lc Lo Lr) (ht : t.ok) (hN : No ≤ 1000000) :
    Calls Try.prog 12 #[.pointer (some ⟨go, 0, none⟩), tmv t, .int .i64 n] w fun e w' => ∃ b mo', e = .returned (.bool b) ∧ Pl w' B gc go gr m mo' N (No + 1) Lc (addL Lo t n) Lr ∧ Below B w w' := by
  refine (add_ct (n := n) w h.o ht hN).mono ?_
  rintro e w' ⟨he, mo', hC, hT, hb, hk⟩
  have hx : ∀ b, mo' = some b → B ≤ b ∧ b ≠ gc ∧ b ≠ gr ∧ m ≠ some b := fun b hm => by
    rcases hb b hm with h4 | h4
    · have := h.dmo b h4
      exact ⟨this.1, this.2.1, this.2.2, fun e => h.dmm b e h4⟩
    · have h1 := h.c.box.lt
      have h2 := h.r.lt
      have h3 := h.bw
      exact ⟨by omega, by omega, by omega, fun e => by have := h.c.mlt e; omega⟩
  have hB : Below B w w' := hT.below (fun x hx' => by
    rcases List.mem_cons.1 hx' with rfl | hx'
    · exact h.bo
    · exact (hx x (by simpa using hx')).1) h.bw
  refine ⟨_, mo', he, ⟨h.c.touch hT ?_ ?_, hC, h.r.keep hk, h.bc, h.bo, Nat.le_trans h.bw hB.size, h.dco, h.dcr, h.dor, h.dm, fun b hm => ⟨(hx b hm).1, (hx b hm).2.1, (hx b hm).2.2.1⟩, fun b hm hm' => (hx b hm').2.2.2 hm⟩, hB⟩
  · intro hg
    rcases List.mem_cons.1 hg with hg | hg
    · exact h.dco hg
    · exact (hx gc (by simpa using hg)).2.1 rfl
  · intro b hm hg
    rcases List.mem_cons.1 hg with rfl | hg
    · exact (h.dm b hm).2.1 rfl
    · exact (hx b (by simpa using hg)).2.2.2 hm
theorem pl_c {t : Tm} {n : Int} {r : Bool} (w : World) (h : Pl w B gc go gr m mo N No Lc Lo Lr) (ht : t.ok) (hN : N ≤ 1000000) (hr : addOk Lc t n = r) :
    Calls Try.prog 12 #[.pointer (some ⟨gc, 0, none⟩), tmv t, .int .i64 n] w fun e w' => ∃ m', e = .returned (.bool r) ∧ Pl w' B gc go gr m' mo (N + 1) No (addL Lc t n) Lo Lr ∧ Below B w w' := by
  subst hr
  refine (add_ct (n := n) w h.c ht hN).mono ?_
  rintro e w' ⟨he, m', hC, hT, hb, hk⟩
  have hx : ∀ b, m' = some b → B ≤ b ∧ b ≠ go ∧ b ≠ gr ∧ mo ≠ some b := fun b hm => by
    rcases hb b hm with h4 | h4
    · have := h.dm b h4
      exact ⟨this.1, this.2.1, this.2.2, h.dmm b h4⟩
    · have h1 := h.o.box.lt
      have h2 := h.r.lt
      have h3 := h.bw
      exact ⟨by omega, by omega, by omega, fun e => by have := h.o.mlt e; omega⟩
  have hB : Below B w w' := hT.below (fun x hx' => by
    rcases List.mem_cons.1 hx' with rfl | hx'
    · exact h.bc
    · exact (hx x (by simpa using hx')).1) h.bw
  refine ⟨m', he, ⟨hC, h.o.touch hT ?_ ?_, h.r.keep hk, h.bc, h.bo, Nat.le_trans h.bw hB.size, h.dco, h.dcr, h.dor, fun b hm => ⟨(hx b hm).1, (hx b hm).2.1, (hx b hm).2.2.1⟩, h.dmo, fun b hm => (hx b hm).2.2.2⟩, hB⟩
  · intro hg
    rcases List.mem_cons.1 hg with hg | hg
    · exact h.dco hg.symm
    · exact (hx go (by simpa using hg)).2.1 rfl
  · intro b hm hg
    rcases List.mem_cons.1 hg with rfl | hg
    · exact (h.dmo b hm).2.1 rfl
    · exact (hx b (by simpa using hg)).2.2.2 hm
theorem pl_r {t : Tm} {n : Int} {r : Bool} (w : World) (h : Pl w B gc go gr m mo N No Lc Lo Lr) (hbnd : Bnd Lr) (hlen : Lr.length ≤ 1000) (hr : addOk Lr t n = r) :
    Calls Try.prog 13 #[.pointer (some ⟨gr, 0, none⟩), tmv t, .int .i64 n] w fun e w' => e = .returned (.bool r) ∧ Pl w' B gc go gr m mo N No Lc Lo (addL Lr t n) ∧ Below B w w' := by
  subst hr
  refine (radd_any (n := n) w h.r hbnd hlen).mono ?_
  rintro e w' ⟨he, hC, hT⟩
  have hB : Below B w w' := hT.below (fun x hx' => by have := List.mem_singleton.1 hx'; subst this; exact h.r.lo) h.bw
  refine ⟨he, ⟨h.c.touch hT ?_ ?_, h.o.touch hT ?_ ?_, hC, h.bc, h.bo, Nat.le_trans h.bw hB.size, h.dco, h.dcr, h.dor, h.dm, h.dmo, h.dmm⟩, hB⟩
  · intro hg; exact h.dcr (List.mem_singleton.1 hg)
  · intro b hm hg; exact (h.dm b hm).2.2 (List.mem_singleton.1 hg)
  · intro hg; exact h.dor (List.mem_singleton.1 hg)
  · intro b hm hg; exact (h.dmo b hm).2.2 (List.mem_singleton.1 hg)
end
end Go.Proofs.Ytifoonjhcjmehaa
