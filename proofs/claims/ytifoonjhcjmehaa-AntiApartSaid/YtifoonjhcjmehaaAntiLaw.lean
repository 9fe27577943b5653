/-
  Times, which are least, which are ahead of which: plain lists, no program in sight.
-/
namespace Go.Proofs.Ytifoonjhcjmehaa

structure Tm where
  e : Int
  l : Int
deriving DecidableEq

def Tm.may (t : Tm) : Bool := decide (0 ≤ t.e) && decide (0 ≤ t.l) && decide (t.l ≤ 1073741824)
def Tm.le (a b : Tm) : Bool := decide (a.e ≤ b.e) && decide (a.l ≤ b.l)
/-- By E, then by L. -/
def Tm.ahead (a b : Tm) : Bool := decide (a.e < b.e) || (decide (a.e = b.e) && decide (a.l < b.l))
theorem Tm.le_iff {a b : Tm} : a.le b = true ↔ a.e ≤ b.e ∧ a.l ≤ b.l := by simp [Tm.le]
theorem Tm.ahead_iff {a b : Tm} : a.ahead b = true ↔ a.e < b.e ∨ (a.e = b.e ∧ a.l < b.l) := by simp [Tm.ahead]
theorem Tm.not_ahead {a b : Tm} : a.ahead b = false ↔ b.e < a.e ∨ (a.e = b.e ∧ b.l ≤ a.l) := by
  rw [← Bool.not_eq_true, Tm.ahead_iff]; omega
theorem Tm.ext_ {a b : Tm} (h : a.e = b.e) (k : a.l = b.l) : a = b := by cases a; cases b; simp_all
theorem Tm.le_refl (a : Tm) : a.le a = true := by simp [Tm.le]
theorem Tm.le_trans {a b c : Tm} (h : a.le b = true) (k : b.le c = true) : a.le c = true := by rw [Tm.le_iff] at *; omega
theorem Tm.le_antisymm {a b : Tm} (h : a.le b = true) (k : b.le a = true) : a = b := by rw [Tm.le_iff] at *; exact Tm.ext_ (by omega) (by omega)
/-- At most, in the order of a heap. -/
def Tm.lo (a b : Tm) : Prop := b.ahead a = false
theorem Tm.lo_iff {a b : Tm} : a.lo b ↔ a.e < b.e ∨ (a.e = b.e ∧ a.l ≤ b.l) := by unfold Tm.lo; rw [Tm.not_ahead]; omega
theorem Tm.lo_refl (a : Tm) : a.lo a := by rw [Tm.lo_iff]; omega
theorem Tm.lo_trans {a b c : Tm} (h : a.lo b) (k : b.lo c) : a.lo c := by rw [Tm.lo_iff] at *; omega
theorem Tm.lo_of_ahead {a b : Tm} (h : a.ahead b = true) : a.lo b := by rw [Tm.lo_iff]; rw [Tm.ahead_iff] at h; omega

/-! What Has, Under say. -/
def hasL (l : List Tm) (t : Tm) : Bool := t.may && l.any fun x => x.may && x.le t
def underL (a b : List Tm) : Bool := b.all fun t => !t.may || hasL a t
theorem hasL_iff {l : List Tm} {t : Tm} : hasL l t = true ↔ t.may = true ∧ ∃ x ∈ l, x.may = true ∧ x.le t = true := by
  simp [hasL]
theorem underL_iff {a b : List Tm} : underL a b = true ↔ ∀ t ∈ b, t.may = true → hasL a t = true := by
  unfold underL
  rw [List.all_eq_true]
  constructor
  · intro h t ht hm
    have := h t ht
    simpa [hm] using this
  · intro h t ht
    cases hm : t.may
    · rfl
    · simpa using h t ht hm
theorem underL_trans {a b c : List Tm} (h : underL a b = true) (k : underL b c = true) : underL a c = true := by
  rw [underL_iff] at *
  intro t ht hm
  obtain ⟨_, x, hx, hxm, hxt⟩ := hasL_iff.1 (k t ht hm)
  obtain ⟨_, y, hy, hym, hyx⟩ := hasL_iff.1 (h x hx hxm)
  exact hasL_iff.2 ⟨hm, y, hy, hym, Tm.le_trans hyx hxt⟩

/-! The least ones. -/
structure IsMin (l m : List Tm) : Prop where
  rise : m.Pairwise fun a b => a.e < b.e ∧ b.l < a.l
  sub : ∀ x ∈ m, x ∈ l ∧ x.may = true
  dom : ∀ x ∈ l, x.may = true → ∃ y ∈ m, y.le x = true
theorem pair_both {m : List Tm} (h : m.Pairwise fun a b => a.e < b.e ∧ b.l < a.l) : ∀ x ∈ m, ∀ y ∈ m, x.le y = true → x = y := by
  induction m with
  | nil => intro x hx; cases hx
  | cons a m ih =>
    rw [List.pairwise_cons] at h
    intro x hx y hy hxy
    rw [Tm.le_iff] at hxy
    rcases List.mem_cons.1 hx with rfl | hx' <;> rcases List.mem_cons.1 hy with rfl | hy'
    · rfl
    · have := h.1 y hy'; omega
    · have := h.1 x hx'; omega
    · exact ih h.2 x hx' y hy' (Tm.le_iff.2 hxy)
theorem rise_eq : ∀ (m m' : List Tm), (m.Pairwise fun a b => a.e < b.e ∧ b.l < a.l) → (m'.Pairwise fun a b => a.e < b.e ∧ b.l < a.l) → (∀ x, x ∈ m ↔ x ∈ m') → m = m'
  | [], [], _, _, _ => rfl
  | [], b :: m', _, _, h => by have := (h b).2 (by simp); cases this
  | a :: m, [], _, _, h => by have := (h a).1 (by simp); cases this
  | a :: m, b :: m', h1, h2, h => by
    rw [List.pairwise_cons] at h1 h2
    have hab : a = b := by
      rcases List.mem_cons.1 ((h a).1 (by simp)) with e | ha
      · exact e
      · rcases List.mem_cons.1 ((h b).2 (by simp)) with e | hb
        · exact e.symm
        · have := h1.1 b hb; have := h2.1 a ha; omega
    subst hab
    refine congrArg _ (rise_eq m m' h1.2 h2.2 fun x => ?_)
    constructor
    · intro hx
      rcases List.mem_cons.1 ((h x).1 (List.mem_cons_of_mem _ hx)) with e | h'
      · have := h1.1 x hx; subst e; omega
      · exact h'
    · intro hx
      rcases List.mem_cons.1 ((h x).2 (List.mem_cons_of_mem _ hx)) with e | h'
      · have := h2.1 x hx; subst e; omega
      · exact h'
theorem IsMin.may {l m : List Tm} (h : IsMin l m) {x : Tm} (hx : x ∈ m) : x.may = true := (h.sub x hx).2
theorem IsMin.has {l m : List Tm} (h : IsMin l m) (t : Tm) : hasL m t = hasL l t := by
  rw [Bool.eq_iff_iff, hasL_iff, hasL_iff]
  constructor
  · rintro ⟨hm, x, hx, hxm, hle⟩
    exact ⟨hm, x, (h.sub x hx).1, hxm, hle⟩
  · rintro ⟨hm, x, hx, hxm, hle⟩
    obtain ⟨y, hy, hyx⟩ := h.dom x hx hxm
    exact ⟨hm, y, hy, (h.sub y hy).2, Tm.le_trans hyx hle⟩
/-- Rows that have the same ahead of them have the same least ones. -/
theorem IsMin.eq_of_has {l l' m m' : List Tm} (h : IsMin l m) (h' : IsMin l' m') (hh : ∀ t, hasL l t = hasL l' t) : m = m' := by
  have key : ∀ {l l' m m' : List Tm}, IsMin l m → IsMin l' m' → (∀ t, hasL l t = hasL l' t) → ∀ x ∈ m, x ∈ m' := by
    intro l l' m m' h h' hh x hx
    have h1 : hasL m' x = true := by rw [h'.has, ← hh, ← h.has]; exact hasL_iff.2 ⟨h.may hx, x, hx, h.may hx, Tm.le_refl x⟩
    obtain ⟨_, y, hy, hym, hyx⟩ := hasL_iff.1 h1
    have h2 : hasL m y = true := by rw [h.has, hh, ← h'.has]; exact hasL_iff.2 ⟨hym, y, hy, hym, Tm.le_refl y⟩
    obtain ⟨_, z, hz, _, hzy⟩ := hasL_iff.1 h2
    have := pair_both h.rise z hz x hx (Tm.le_trans hzy hyx)
    subst this
    have := Tm.le_antisymm hzy hyx
    subst this
    exact hy
  exact rise_eq m m' h.rise h'.rise fun x => ⟨key h h' hh x, key h' h (fun t => (hh t).symm) x⟩
theorem IsMin.unique {l m m' : List Tm} (h : IsMin l m) (h' : IsMin l m') : m = m' := h.eq_of_has h' fun _ => rfl
theorem hasL_perm {l l' : List Tm} (h : ∀ x, x ∈ l ↔ x ∈ l') (t : Tm) : hasL l t = hasL l' t := by
  rw [Bool.eq_iff_iff, hasL_iff, hasL_iff]
  simp only [h]
theorem hasL_append (a b : List Tm) (t : Tm) : hasL (a ++ b) t = (hasL a t || hasL b t) := by
  unfold hasL
  rw [List.any_append]
  cases t.may <;> simp
theorem IsMin.under {l m : List Tm} (h : IsMin l m) : underL l m = true ∧ underL m l = true := by
  constructor
  · rw [underL_iff]; intro t ht hm
    rw [← h.has]; exact hasL_iff.2 ⟨hm, t, ht, hm, Tm.le_refl t⟩
  · rw [underL_iff]; intro t ht hm
    rw [h.has]; exact hasL_iff.2 ⟨hm, t, ht, hm, Tm.le_refl t⟩
/-- A time more. -/
theorem IsMin.more {l a b : List Tm} {t : Tm} (h : IsMin l a) (h' : IsMin (l ++ [t]) b) : underL b a = true ∧ (a = b ↔ (t.may = false ∨ hasL a t = true)) := by
  constructor
  · rw [underL_iff]; intro x hx hm
    rw [h'.has, hasL_append, Bool.or_eq_true]
    left
    rw [← h.has]; exact hasL_iff.2 ⟨hm, x, hx, hm, Tm.le_refl x⟩
  · constructor
    · rintro rfl
      cases hm : t.may
      · exact .inl rfl
      · right; rw [h'.has, hasL_append, Bool.or_eq_true]; right
        exact hasL_iff.2 ⟨hm, t, by simp, hm, Tm.le_refl t⟩
    · intro hh
      refine h.eq_of_has h' fun x => ?_
      rw [hasL_append]
      rcases hh with hm | hh
      · have : hasL [t] x = false := by simp [hasL, hm]
        rw [this, Bool.or_false]
      · rw [Bool.eq_iff_iff, Bool.or_eq_true]
        constructor
        · exact .inl
        · rintro (h1 | h1)
          · exact h1
          · obtain ⟨hm, y, hy, hym, hyx⟩ := hasL_iff.1 h1
            obtain rfl : y = t := by simpa using hy
            rw [h.has] at hh
            obtain ⟨_, z, hz, hzm, hzt⟩ := hasL_iff.1 hh
            exact hasL_iff.2 ⟨hm, z, hz, hzm, Tm.le_trans hzt hyx⟩
/-- The least ones, one by one: those so far, and one that is behind all that came. -/
theorem IsMin.nil : IsMin [] [] := ⟨List.Pairwise.nil, fun _ h => (by cases h), fun _ h => (by cases h)⟩
theorem IsMin.put {p o : List Tm} {t : Tm} (h : IsMin p o) (hp : ∀ x ∈ p, x.lo t) (ht : t.may = true) (hl : ∀ x, o.getLast? = some x → t.l < x.l) : IsMin (p ++ [t]) (o ++ [t]) := by
  refine ⟨?_, ?_, ?_⟩
  · rw [List.pairwise_append]
    refine ⟨h.rise, by simp, fun a ha b hb => ?_⟩
    obtain rfl : b = t := by simpa using hb
    obtain ⟨o', z, rfl⟩ : ∃ o' z, o = o' ++ [z] := ⟨o.dropLast, o.getLast (List.ne_nil_of_mem ha), (List.dropLast_concat_getLast _).symm⟩
    have hz := hl z (by simp)
    have hza : b.l < a.l := by
      rcases List.mem_append.1 ha with h1 | h1
      · have := (List.pairwise_append.1 h.rise).2.2 a h1 z (by simp); omega
      · obtain rfl : a = z := by simpa using h1
        exact hz
    have := Tm.lo_iff.1 (hp a (h.sub a ha).1)
    omega
  · intro x hx
    rcases List.mem_append.1 hx with h1 | h1
    · exact ⟨List.mem_append_left _ (h.sub x h1).1, (h.sub x h1).2⟩
    · obtain rfl : x = t := by simpa using h1
      exact ⟨by simp, ht⟩
  · intro x hx hm
    rcases List.mem_append.1 hx with h1 | h1
    · obtain ⟨y, hy, hyx⟩ := h.dom x h1 hm
      exact ⟨y, List.mem_append_left _ hy, hyx⟩
    · obtain rfl : x = t := by simpa using h1
      exact ⟨x, by simp, Tm.le_refl x⟩
theorem IsMin.leave {p o : List Tm} {t z : Tm} (h : IsMin p o) (hp : ∀ x ∈ p, x.lo t) (hz : o.getLast? = some z) (hl : z.l ≤ t.l) : IsMin (p ++ [t]) o := by
  have hzo : z ∈ o := List.mem_of_getLast? hz
  refine ⟨h.rise, fun x hx => ⟨List.mem_append_left _ (h.sub x hx).1, (h.sub x hx).2⟩, ?_⟩
  intro x hx hm
  rcases List.mem_append.1 hx with h1 | h1
  · exact h.dom x h1 hm
  · obtain rfl : x = t := by simpa using h1
    have := Tm.lo_iff.1 (hp z (h.sub z hzo).1)
    exact ⟨z, hzo, Tm.le_iff.2 ⟨by omega, hl⟩⟩
theorem IsMin.of_filter {l m : List Tm} (h : IsMin (l.filter Tm.may) m) : IsMin l m :=
  ⟨h.rise, fun x hx => ⟨(List.mem_filter.1 (h.sub x hx).1).1, (h.sub x hx).2⟩, fun x hx hm => h.dom x (List.mem_filter.2 ⟨hx, hm⟩) hm⟩
theorem IsMin.of_mem {l l' m : List Tm} (h : IsMin l m) (hh : ∀ x, x ∈ l ↔ x ∈ l') : IsMin l' m :=
  ⟨h.rise, fun x hx => ⟨(hh x).1 (h.sub x hx).1, (h.sub x hx).2⟩, fun x hx hm => h.dom x ((hh x).2 hx) hm⟩

/-! A heap. -/
def Tm.at_ (xs : List Tm) (k : Nat) : Tm := xs.getD k ⟨0, 0⟩
theorem Tm.at_some {xs : List Tm} {k : Nat} {t : Tm} (h : xs[k]? = some t) : Tm.at_ xs k = t := by simp [Tm.at_, List.getD, h]
theorem Tm.some_at {xs : List Tm} {k : Nat} (h : k < xs.length) : xs[k]? = some (Tm.at_ xs k) := by simp [Tm.at_, List.getD, List.getElem?_eq_getElem h]
theorem Tm.at_mem {xs : List Tm} {k : Nat} (h : k < xs.length) : Tm.at_ xs k ∈ xs := List.mem_of_getElem? (Tm.some_at h)
def swapT (xs : List Tm) (i j : Nat) : List Tm := (xs.set i (Tm.at_ xs j)).set j (Tm.at_ xs i)
@[simp] theorem swapT_length (xs : List Tm) (i j : Nat) : (swapT xs i j).length = xs.length := by simp [swapT]
theorem swapT_at {xs : List Tm} {i j k : Nat} (hi : i < xs.length) (hj : j < xs.length) : Tm.at_ (swapT xs i j) k = if k = j then Tm.at_ xs i else if k = i then Tm.at_ xs j else Tm.at_ xs k := by
  unfold swapT
  generalize Tm.at_ xs i = a
  generalize Tm.at_ xs j = b
  unfold Tm.at_
  simp only [List.getD, List.getElem?_set, List.length_set]
  by_cases h1 : j = k
  · subst h1; simp [hj]
  · by_cases h2 : i = k
    · subst h2
      have h3 : ¬ i = j := fun h => h1 h.symm
      simp [hi, h1, h3]
    · have h3 : ¬ k = j := fun h => h1 h.symm
      have h4 : ¬ k = i := fun h => h2 h.symm
      simp [h1, h2, h3, h4]
theorem swapT_perm {xs : List Tm} {i j : Nat} (hi : i < xs.length) (hj : j < xs.length) : (swapT xs i j).Perm xs := by
  rw [List.perm_iff_count]
  intro t
  unfold swapT
  have e1 : Tm.at_ xs i = xs[i] := Tm.at_some (List.getElem?_eq_getElem hi)
  have e2 : Tm.at_ xs j = xs[j] := Tm.at_some (List.getElem?_eq_getElem hj)
  rw [e1, e2, List.count_set (by simpa using hj), List.count_set hi, List.getElem_set]
  have c1 : xs[i] = t → 0 < xs.count t := fun h => List.count_pos_iff.2 (h ▸ List.getElem_mem hi)
  have c2 : xs[j] = t → 0 < xs.count t := fun h => List.count_pos_iff.2 (h ▸ List.getElem_mem hj)
  by_cases h0 : i = j
  · subst h0
    by_cases h1 : xs[i] = t <;> simp [h1] <;> (have := c1 h1; omega)
  · simp only [if_neg h0]
    by_cases h1 : xs[i] = t <;> by_cases h2 : xs[j] = t <;> simp [h1, h2] <;> (try have := c1 h1) <;> (try have := c2 h2) <;> omega

def par (c : Nat) : Nat := (c - 1) / 2
/-- From i0 on, each is at most its children, of the first n. -/
def HeapFrom (xs : List Tm) (n i0 : Nat) : Prop := ∀ c, 1 ≤ c → c < n → i0 ≤ par c → (Tm.at_ xs (par c)).lo (Tm.at_ xs c)
/-- .. except at i. -/
structure Sift (xs : List Tm) (n i0 i : Nat) : Prop where
  low : i0 ≤ i
  rest : ∀ c, 1 ≤ c → c < n → i0 ≤ par c → par c ≠ i → (Tm.at_ xs (par c)).lo (Tm.at_ xs c)
  over : i ≠ i0 → 1 ≤ i ∧ i0 ≤ par i ∧ ∀ c, 1 ≤ c → c < n → par c = i → (Tm.at_ xs (par i)).lo (Tm.at_ xs c)
theorem Sift.start {xs : List Tm} {n i0 : Nat} (h : HeapFrom xs n (i0 + 1)) : Sift xs n i0 i0 :=
  ⟨Nat.le_refl _, fun c h1 h2 h3 h4 => h c h1 h2 (by omega), fun h => absurd rfl h⟩
theorem Sift.leaf {xs : List Tm} {n i0 i : Nat} (h : Sift xs n i0 i) (hi : n ≤ 2 * i + 1) : HeapFrom xs n i0 :=
  fun c h1 h2 h3 => h.rest c h1 h2 h3 (by unfold par; omega)
/-- j is the least child of i. -/
structure Least (xs : List Tm) (n i j : Nat) : Prop where
  lt : j < n
  pos : 1 ≤ j
  par : par j = i
  least : ∀ c, 1 ≤ c → c < n → Go.Proofs.Ytifoonjhcjmehaa.par c = i → (Tm.at_ xs j).lo (Tm.at_ xs c)
theorem Least.left {xs : List Tm} {n i : Nat} (h : 2 * i + 1 < n) (hr : 2 * i + 2 < n → (Tm.at_ xs (2 * i + 2)).ahead (Tm.at_ xs (2 * i + 1)) = false) : Least xs n i (2 * i + 1) := by
  refine ⟨h, by omega, by unfold Go.Proofs.Ytifoonjhcjmehaa.par; omega, fun c h1 h2 h3 => ?_⟩
  unfold Go.Proofs.Ytifoonjhcjmehaa.par at h3
  rcases (by omega : c = 2 * i + 1 ∨ c = 2 * i + 2) with rfl | rfl
  · exact Tm.lo_refl _
  · exact hr h2
theorem Least.right {xs : List Tm} {n i : Nat} (h : 2 * i + 2 < n) (hr : (Tm.at_ xs (2 * i + 2)).ahead (Tm.at_ xs (2 * i + 1)) = true) : Least xs n i (2 * i + 2) := by
  refine ⟨h, by omega, by unfold Go.Proofs.Ytifoonjhcjmehaa.par; omega, fun c h1 h2 h3 => ?_⟩
  unfold Go.Proofs.Ytifoonjhcjmehaa.par at h3
  rcases (by omega : c = 2 * i + 1 ∨ c = 2 * i + 2) with rfl | rfl
  · exact Tm.lo_of_ahead hr
  · exact Tm.lo_refl _
theorem Sift.stop {xs : List Tm} {n i0 i j : Nat} (h : Sift xs n i0 i) (hj : Least xs n i j) (hs : (Tm.at_ xs j).ahead (Tm.at_ xs i) = false) : HeapFrom xs n i0 := by
  intro c h1 h2 h3
  by_cases hc : par c = i
  · rw [hc]; exact Tm.lo_trans hs (hj.least c h1 h2 hc)
  · exact h.rest c h1 h2 h3 hc
theorem Sift.step {xs : List Tm} {n i0 i j : Nat} (h : Sift xs n i0 i) (hn : n ≤ xs.length) (hj : Least xs n i j) (hs : (Tm.at_ xs j).ahead (Tm.at_ xs i) = true) : Sift (swapT xs i j) n i0 j := by
  have hij : i < j := by have := hj.par; have := hj.pos; unfold par at *; omega
  have hjn := hj.lt
  have at_ : ∀ k, Tm.at_ (swapT xs i j) k = if k = j then Tm.at_ xs i else if k = i then Tm.at_ xs j else Tm.at_ xs k := fun k => swapT_at (by omega) (by omega)
  have hlow := h.low
  refine ⟨by omega, ?_, fun _ => ⟨hj.pos, by rw [hj.par]; exact hlow, ?_⟩⟩
  · intro c h1 h2 h3 h4
    have hpc : par c < c := by unfold par; omega
    rw [at_, at_]
    rw [if_neg h4]
    by_cases hc : par c = i
    · rw [if_pos hc]
      by_cases hcj : c = j
      · rw [if_pos hcj]; exact Tm.lo_of_ahead hs
      · rw [if_neg hcj, if_neg (by omega)]; exact hj.least c h1 h2 hc
    · rw [if_neg hc]
      have hcj : c ≠ j := fun e => hc (e ▸ hj.par)
      rw [if_neg hcj]
      by_cases hci : c = i
      · rw [if_pos hci]
        subst hci
        exact (h.over (by omega)).2.2 j hj.pos hjn hj.par
      · rw [if_neg hci]; exact h.rest c h1 h2 h3 hc
  · intro c h1 h2 h3
    have hpc : par c < c := by unfold par; omega
    rw [at_, at_, hj.par, if_neg (by omega), if_pos rfl, if_neg (by omega), if_neg (by omega)]
    have := h.rest c h1 h2 (by rw [h3]; omega) (by rw [h3]; omega)
    rwa [h3] at this
theorem HeapFrom.least {xs : List Tm} {n : Nat} (h : HeapFrom xs n 0) : ∀ k, k < n → (Tm.at_ xs 0).lo (Tm.at_ xs k) := by
  intro k
  induction k using Nat.strongRecOn with
  | _ k ih =>
    intro hk
    by_cases h0 : k = 0
    · subst h0; exact Tm.lo_refl _
    · have hp : par k < k := by unfold par; omega
      exact Tm.lo_trans (ih _ hp (by omega)) (h k (by omega) hk (Nat.zero_le _))
theorem HeapFrom.none {xs : List Tm} {n i0 : Nat} (h : n ≤ 2 * i0 + 1) : HeapFrom xs n i0 := fun c h1 h2 h3 => by unfold par at h3; omega
/-- The one on top and the last one changed places: below the top all is as it was. -/
theorem HeapFrom.popped {xs : List Tm} {n : Nat} (h : HeapFrom xs (n + 1) 0) (hn : n < xs.length) : HeapFrom (swapT xs 0 n) n 1 := by
  intro c h1 h2 h3
  have hp : par c < c := by unfold par; omega
  rw [swapT_at (by omega) hn, swapT_at (by omega) hn, if_neg (by omega), if_neg (by omega), if_neg (by omega), if_neg (by omega)]
  exact h c h1 (by omega) (Nat.zero_le _)
theorem HeapFrom.take {xs : List Tm} {n i0 : Nat} (h : HeapFrom xs n i0) : HeapFrom (xs.take n) n i0 := by
  intro c h1 h2 h3
  have hp : par c < c := by unfold par; omega
  have e : ∀ k, k < n → Tm.at_ (xs.take n) k = Tm.at_ xs k := fun k hk => by unfold Tm.at_; simp [List.getD, hk]
  rw [e _ (by omega), e _ h2]
  exact h c h1 h2 h3
end Go.Proofs.Ytifoonjhcjmehaa
