/-
  The plain law of the reference's least ones: a time into a rising list; those that none is under.
-/
import Derived.Test.YtifoonjhcjmehaaHeap
namespace Go.Proofs.Ytifoonjhcjmehaa

def putL : List Tm → Tm → List Tm
  | [], t => [t]
  | a :: l, t => if a.ahead t then a :: putL l t else if a = t then a :: l else t :: a :: l
theorem putL_at : ∀ {l : List Tm} {t : Tm} {k : Nat}, k ≤ l.length → (∀ j, j < k → (Tm.at_ l j).ahead t = true) → (k < l.length → (Tm.at_ l k).ahead t = false) →
    putL l t = if k < l.length ∧ Tm.at_ l k = t then l else l.take k ++ [t] ++ l.drop k
  | [], t, k, hk, _, _ => by
    have : k = 0 := by simpa using hk
    subst this; rfl
  | a :: l, t, 0, _, _, h => by
    have h0 : a.ahead t = false := h (by simp)
    unfold putL
    rw [if_neg (by simp [h0])]
    have e : Tm.at_ (a :: l) 0 = a := rfl
    rw [e]
    by_cases ha : a = t <;> simp [ha]
  | a :: l, t, k + 1, hk, h1, h2 => by
    have h0 : a.ahead t = true := h1 0 (by omega)
    unfold putL
    rw [if_pos h0, putL_at (k := k) (by simpa using hk) (fun j hj => h1 (j + 1) (by omega)) (fun hlt => h2 (by simpa using hlt))]
    have e : Tm.at_ (a :: l) (k + 1) = Tm.at_ l k := rfl
    rw [e]
    by_cases hc : k < l.length ∧ Tm.at_ l k = t
    · rw [if_pos hc, if_pos ⟨by simp; exact hc.1, hc.2⟩]
    · rw [if_neg hc, if_neg (fun hh => hc ⟨by have := hh.1; simpa using this, hh.2⟩)]
      simp
def Tm.lt_ (a b : Tm) : Prop := a.ahead b = true
theorem Tm.lt_iff {a b : Tm} : Tm.lt_ a b ↔ a.e < b.e ∨ (a.e = b.e ∧ a.l < b.l) := by
  unfold Tm.lt_ Tm.ahead; simp
theorem mem_putL {l : List Tm} {t x : Tm} : x ∈ putL l t ↔ x = t ∨ x ∈ l := by
  induction l with
  | nil => simp [putL]
  | cons a l ih =>
    unfold putL
    split
    · rw [List.mem_cons, ih, List.mem_cons]
      constructor
      · rintro (h | h | h) <;> simp [h]
      · rintro (h | h | h) <;> simp [h]
    · split
      · rename_i h; subst h; simp
      · simp
theorem putL_rise {l : List Tm} {t : Tm} (h : l.Pairwise Tm.lt_) : (putL l t).Pairwise Tm.lt_ := by
  induction l with
  | nil => simp [putL]
  | cons a l ih =>
    rw [List.pairwise_cons] at h
    unfold putL
    split
    · rename_i ha
      rw [List.pairwise_cons]
      refine ⟨fun x hx => ?_, ih h.2⟩
      rcases mem_putL.1 hx with rfl | hx
      · exact ha
      · exact h.1 x hx
    · rename_i ha
      split
      · rw [List.pairwise_cons]; exact h
      · rename_i hne
        have hta : Tm.lt_ t a := by
          rw [Tm.lt_iff]
          have h1 : ¬ Tm.lt_ a t := ha
          rw [Tm.lt_iff] at h1
          have h2 : ¬ (a.e = t.e ∧ a.l = t.l) := fun ⟨e1, e2⟩ => hne (by cases a; cases t; simp_all)
          omega
        rw [List.pairwise_cons, List.pairwise_cons]
        refine ⟨fun x hx => ?_, h⟩
        rcases List.mem_cons.1 hx with rfl | hx
        · exact hta
        · have := h.1 x hx
          rw [Tm.lt_iff] at *; omega
theorem putL_length (l : List Tm) (t : Tm) : (putL l t).length ≤ l.length + 1 := by
  induction l with
  | nil => simp [putL]
  | cons a l ih => unfold putL; split <;> (try split) <;> simp <;> omega
def isLeast (l : List Tm) (x : Tm) : Bool := x.may && l.all fun y => decide (y = x) || !y.may || !y.le x
def puts (l : List Tm) : List Tm := l.foldl putL []
theorem puts_snoc (l : List Tm) (x : Tm) : puts (l ++ [x]) = putL (puts l) x := by simp [puts]
theorem puts_mem_rise (l : List Tm) : (∀ x, x ∈ puts l ↔ x ∈ l) ∧ (puts l).Pairwise Tm.lt_ ∧ (puts l).length ≤ l.length := by
  have key : ∀ (l acc : List Tm), acc.Pairwise Tm.lt_ → (∀ x, x ∈ l.foldl putL acc ↔ x ∈ acc ∨ x ∈ l) ∧ (l.foldl putL acc).Pairwise Tm.lt_ ∧ (l.foldl putL acc).length ≤ acc.length + l.length := by
    intro l
    induction l with
    | nil => intro acc h; exact ⟨by simp, h, by simp⟩
    | cons a l ih =>
      intro acc h
      obtain ⟨h1, h2, h3⟩ := ih (putL acc a) (putL_rise h)
      refine ⟨fun x => ?_, h2, ?_⟩
      · rw [List.foldl_cons, h1, mem_putL, List.mem_cons]
        constructor
        · rintro ((h | h) | h) <;> simp [h]
        · rintro (h | h | h) <;> simp [h]
      · have := putL_length acc a
        simp only [List.foldl_cons, List.length_cons]; omega
  have := key l [] List.Pairwise.nil
  simpa [puts] using this
def minR (l : List Tm) : List Tm := puts (l.filter (isLeast l))
theorem isLeast_iff {l : List Tm} {x : Tm} : isLeast l x = true ↔ x.may = true ∧ ∀ y ∈ l, y.may = true → y.le x = true → y = x := by
  unfold isLeast
  rw [Bool.and_eq_true, List.all_eq_true]
  refine and_congr_right fun _ => ?_
  constructor
  · intro h y hy hm hl
    have := h y hy
    simpa [hm, hl] using this
  · intro h y hy
    cases hm : y.may
    · simp
    · cases hl : y.le x
      · simp
      · simp [h y hy hm hl]
theorem Tm.may_iff {a : Tm} : a.may = true ↔ 0 ≤ a.e ∧ 0 ≤ a.l ∧ a.l ≤ 1073741824 := by simp [Tm.may, and_assoc]
theorem least_under {l : List Tm} : ∀ (n : Nat) (x : Tm), x ∈ l → x.may = true → (x.e + x.l).toNat ≤ n → ∃ y ∈ l, isLeast l y = true ∧ y.le x = true := by
  intro n
  induction n with
  | zero =>
    intro x hx hm hn
    refine ⟨x, hx, isLeast_iff.2 ⟨hm, fun y hy hym hyx => ?_⟩, Tm.le_refl x⟩
    have h1 := Tm.may_iff.1 hm
    have h2 := Tm.may_iff.1 hym
    have h3 := Tm.le_iff.1 hyx
    cases x; cases y; simp at *; omega
  | succ n ih =>
    intro x hx hm hn
    by_cases hL : isLeast l x = true
    · exact ⟨x, hx, hL, Tm.le_refl x⟩
    · by_cases hex : ∃ y, y ∈ l ∧ y.may = true ∧ y.le x = true ∧ y ≠ x
      · obtain ⟨y, hy, hym, hyx, hne⟩ := hex
        have h1 := Tm.may_iff.1 hm
        have h2 := Tm.may_iff.1 hym
        have h3 := Tm.le_iff.1 hyx
        have h4 : ¬ (y.e = x.e ∧ y.l = x.l) := fun ⟨e1, e2⟩ => hne (by cases x; cases y; simp_all)
        obtain ⟨z, hz, hzL, hzy⟩ := ih y hy hym (by omega)
        exact ⟨z, hz, hzL, Tm.le_trans hzy hyx⟩
      · exfalso
        refine hL (isLeast_iff.2 ⟨hm, fun y hy hym hyx => ?_⟩)
        by_cases e : y = x
        · exact e
        · exact absurd ⟨y, hy, hym, hyx, e⟩ hex
theorem minR_isMin (l : List Tm) : IsMin l (minR l) := by
  obtain ⟨hmem, hrise, _⟩ := puts_mem_rise (l.filter (isLeast l))
  have hm : ∀ x, x ∈ minR l ↔ x ∈ l ∧ isLeast l x = true := fun x => by unfold minR; rw [hmem, List.mem_filter]
  refine ⟨?_, ?_, ?_⟩
  · refine List.Pairwise.imp_of_mem ?_ hrise
    intro a b ha hb hab
    obtain ⟨hal, haL⟩ := (hm a).1 ha
    obtain ⟨hbl, hbL⟩ := (hm b).1 hb
    have h1 := (isLeast_iff.1 hbL).2 a hal (isLeast_iff.1 haL).1
    rw [Tm.lt_iff] at hab
    have h2 : ¬ (a.e ≤ b.e ∧ a.l ≤ b.l) := fun h => by
      have e := h1 (Tm.le_iff.2 h)
      subst e; omega
    omega
  · intro x hx
    exact ⟨((hm x).1 hx).1, (isLeast_iff.1 ((hm x).1 hx).2).1⟩
  · intro x hx hxm
    obtain ⟨y, hy, hyL, hyx⟩ := least_under _ x hx hxm (Nat.le_refl _)
    exact ⟨y, (hm y).2 ⟨hy, hyL⟩, hyx⟩
theorem minR_len (l : List Tm) : (minR l).length ≤ l.length := Nat.le_trans (puts_mem_rise _).2.2 (List.length_filter_le _ _)
end Go.Proofs.Ytifoonjhcjmehaa
