/-
  The plain law of counts: rising times, each with its number, none of them 0.
-/
import Derived.Test.YtifoonjhcjmehaaRefLaw
namespace Go.Proofs.Ytifoonjhcjmehaa

abbrev Cnt := List (Tm × Int)
def ofL : Cnt → Tm → Int
  | [], _ => 0
  | p :: L, t => if p.1 = t then p.2 else ofL L t
structure Canon (L : Cnt) : Prop where
  rise : L.Pairwise fun p q => Tm.lt_ p.1 q.1
  none0 : ∀ p ∈ L, p.2 ≠ 0
theorem Canon.nil : Canon [] := ⟨List.Pairwise.nil, fun _ h => (by cases h)⟩
theorem Tm.lt_irrefl (a : Tm) : ¬ Tm.lt_ a a := by rw [Tm.lt_iff]; omega
theorem Tm.lt_trans {a b c : Tm} (h : Tm.lt_ a b) (k : Tm.lt_ b c) : Tm.lt_ a c := by rw [Tm.lt_iff] at *; omega
theorem ofL_mem {L : Cnt} (h : L.Pairwise fun p q => Tm.lt_ p.1 q.1) : ∀ p ∈ L, ofL L p.1 = p.2 := by
  induction L with
  | nil => intro p hp; cases hp
  | cons a L ih =>
    rw [List.pairwise_cons] at h
    intro p hp
    unfold ofL
    rcases List.mem_cons.1 hp with rfl | hp
    · rw [if_pos rfl]
    · rw [if_neg (fun e => by have := h.1 p hp; rw [e] at this; exact Tm.lt_irrefl _ this)]
      exact ih h.2 p hp
theorem mem_ofL {L : Cnt} {t : Tm} (h : ofL L t ≠ 0) : (t, ofL L t) ∈ L := by
  induction L with
  | nil => exact absurd rfl h
  | cons a L ih =>
    unfold ofL at h ⊢
    by_cases e : a.1 = t
    · rw [if_pos e]; subst e; simp
    · rw [if_neg e] at h ⊢
      exact List.mem_cons_of_mem _ (ih h)
theorem Canon.mem {L : Cnt} (h : Canon L) {t : Tm} {x : Int} : (t, x) ∈ L ↔ ofL L t = x ∧ x ≠ 0 := by
  constructor
  · intro hp
    exact ⟨ofL_mem h.rise _ hp, h.none0 _ hp⟩
  · rintro ⟨rfl, hx⟩
    exact mem_ofL hx
theorem Canon.tail {p : Tm × Int} {L : Cnt} (h : Canon (p :: L)) : Canon L := ⟨(List.pairwise_cons.1 h.rise).2, fun q hq => h.none0 q (List.mem_cons_of_mem _ hq)⟩
theorem lt_eq : ∀ (m m' : List Tm), m.Pairwise Tm.lt_ → m'.Pairwise Tm.lt_ → (∀ x, x ∈ m ↔ x ∈ m') → m = m'
  | [], [], _, _, _ => rfl
  | [], b :: m', _, _, h => by have := (h b).2 (by simp); cases this
  | a :: m, [], _, _, h => by have := (h a).1 (by simp); cases this
  | a :: m, b :: m', h1, h2, h => by
    rw [List.pairwise_cons] at h1 h2
    have hab : a = b := by
      rcases List.mem_cons.1 ((h a).1 (by simp)) with e | ha
      · exact e
      · rcases List.mem_cons.1 ((h b).2 (by simp)) with e | hb
        · exact e.symm
        · exact absurd (Tm.lt_trans (h1.1 b hb) (h2.1 a ha)) (Tm.lt_irrefl _)
    subst hab
    refine congrArg _ (lt_eq m m' h1.2 h2.2 fun x => ?_)
    constructor
    · intro hx
      rcases List.mem_cons.1 ((h x).1 (List.mem_cons_of_mem _ hx)) with e | h'
      · have := h1.1 x hx; subst e; exact absurd this (Tm.lt_irrefl _)
      · exact h'
    · intro hx
      rcases List.mem_cons.1 ((h x).2 (List.mem_cons_of_mem _ hx)) with e | h'
      · have := h2.1 x hx; subst e; exact absurd this (Tm.lt_irrefl _)
      · exact h'
theorem cnt_eq : ∀ (m m' : Cnt), m.Pairwise (fun p q => Tm.lt_ p.1 q.1) → m'.Pairwise (fun p q => Tm.lt_ p.1 q.1) → (∀ x, x ∈ m ↔ x ∈ m') → m = m'
  | [], [], _, _, _ => rfl
  | [], b :: m', _, _, h => by have := (h b).2 (by simp); cases this
  | a :: m, [], _, _, h => by have := (h a).1 (by simp); cases this
  | a :: m, b :: m', h1, h2, h => by
    rw [List.pairwise_cons] at h1 h2
    have hab : a = b := by
      rcases List.mem_cons.1 ((h a).1 (by simp)) with e | ha
      · exact e
      · rcases List.mem_cons.1 ((h b).2 (by simp)) with e | hb
        · exact e.symm
        · exact absurd (Tm.lt_trans (h1.1 b hb) (h2.1 a ha)) (Tm.lt_irrefl _)
    subst hab
    refine congrArg _ (cnt_eq m m' h1.2 h2.2 fun x => ?_)
    constructor
    · intro hx
      rcases List.mem_cons.1 ((h x).1 (List.mem_cons_of_mem _ hx)) with e | h'
      · have := h1.1 x hx; subst e; exact absurd this (Tm.lt_irrefl _)
      · exact h'
    · intro hx
      rcases List.mem_cons.1 ((h x).2 (List.mem_cons_of_mem _ hx)) with e | h'
      · have := h2.1 x hx; subst e; exact absurd this (Tm.lt_irrefl _)
      · exact h'
theorem Canon.ext {L L' : Cnt} (h : Canon L) (h' : Canon L') (he : ∀ t, ofL L t = ofL L' t) : L = L' :=
  cnt_eq L L' h.rise h'.rise fun ⟨t, x⟩ => by rw [h.mem, h'.mem, he]

/-! A number set. -/
def insF (t : Tm) (v : Int) : Bool → Cnt → Cnt
  | done, [] => if done then [] else [(t, v)]
  | done, p :: L => (if !done && t.ahead p.1 then [(t, v)] else []) ++ (if p.1 = t then [] else [p]) ++ insF t v (done || t.ahead p.1) L
def setL (t : Tm) (v : Int) (L : Cnt) : Cnt := insF t v (decide (v = 0)) L
theorem insF_cons (t : Tm) (v : Int) (done : Bool) (p : Tm × Int) (L : Cnt) : insF t v done (p :: L) = (if !done && t.ahead p.1 then [(t, v)] else []) ++ (if p.1 = t then [] else [p]) ++ insF t v (done || t.ahead p.1) L := rfl
theorem mem_insF {t : Tm} {v : Int} {p : Tm × Int} : ∀ {done : Bool} {L : Cnt}, p ∈ insF t v done L ↔ (p = (t, v) ∧ done = false) ∨ (p ∈ L ∧ p.1 ≠ t)
  | done, [] => by cases done <;> simp [insF]
  | done, q :: L => by
    unfold insF
    rw [List.mem_append, List.mem_append, mem_insF]
    cases done
    · cases ha : t.ahead q.1
      · by_cases hq : q.1 = t
        · simp only [hq]
          simp
          constructor
          · rintro (h | h)
            · exact .inl h
            · exact .inr ⟨.inr h.1, h.2⟩
          · rintro (h | ⟨rfl | h, h2⟩)
            · exact .inl h
            · exact absurd hq h2
            · exact .inr ⟨h, h2⟩
        · simp [hq]
          constructor
          · rintro (rfl | h | h)
            · exact .inr ⟨.inl rfl, hq⟩
            · exact .inl h
            · exact .inr ⟨.inr h.1, h.2⟩
          · rintro (h | ⟨rfl | h, h2⟩)
            · exact .inr (.inl h)
            · exact .inl rfl
            · exact .inr (.inr ⟨h, h2⟩)
      · have hq : q.1 ≠ t := fun e => by rw [e] at ha; exact Tm.lt_irrefl t ha
        simp [hq]
        constructor
        · rintro ((h | rfl) | h)
          · exact .inl h
          · exact .inr ⟨.inl rfl, hq⟩
          · exact .inr ⟨.inr h.1, h.2⟩
        · rintro (h | ⟨rfl | h, h2⟩)
          · exact .inl (.inl h)
          · exact .inl (.inr rfl)
          · exact .inr ⟨h, h2⟩
    · by_cases hq : q.1 = t
      · simp [hq]
        intro h e
        exact absurd (e ▸ hq) h
      · simp [hq]
        constructor
        · rintro (rfl | h)
          · exact ⟨.inl rfl, hq⟩
          · exact ⟨.inr h.1, h.2⟩
        · rintro ⟨rfl | h, h2⟩
          · exact .inl rfl
          · exact .inr ⟨h, h2⟩
theorem insF_rise {t : Tm} {v : Int} : ∀ {done : Bool} {L : Cnt}, L.Pairwise (fun p q => Tm.lt_ p.1 q.1) → (insF t v done L).Pairwise fun p q => Tm.lt_ p.1 q.1
  | done, [], _ => by cases done <;> simp [insF]
  | done, q :: L, h => by
    rw [List.pairwise_cons] at h
    have ih : ∀ d, (insF t v d L).Pairwise fun p q => Tm.lt_ p.1 q.1 := fun d => insF_rise h.2
    unfold insF
    cases done
    · cases ha : t.ahead q.1
      · by_cases hq : q.1 = t
        · simp [hq]; exact ih _
        · simp [hq]
          refine ⟨fun a b hab => ?_, ih _⟩
          rcases mem_insF.1 hab with ⟨e, _⟩ | ⟨hm, _⟩
          · cases e
            have h1 : ¬ Tm.lt_ t q.1 := fun hh => by unfold Tm.lt_ at hh; rw [ha] at hh; cases hh
            rw [Tm.lt_iff] at h1 ⊢
            have h2 : ¬ (q.1.e = t.e ∧ q.1.l = t.l) := fun ⟨e1, e2⟩ => hq (Tm.ext_ e1 e2)
            omega
          · exact h.1 _ hm
      · have hq : q.1 ≠ t := fun e => by rw [e] at ha; exact Tm.lt_irrefl t ha
        have key : ∀ a b, (a, b) ∈ insF t v true L → Tm.lt_ q.1 a := fun a b hab => by
          rcases mem_insF.1 hab with ⟨_, e⟩ | ⟨hm, _⟩
          · cases e
          · exact h.1 _ hm
        simp [hq]
        exact ⟨⟨ha, fun a b hab => Tm.lt_trans ha (key a b hab)⟩, key, ih _⟩
    · have key : ∀ a b, (a, b) ∈ insF t v true L → Tm.lt_ q.1 a := fun a b hab => by
        rcases mem_insF.1 hab with ⟨_, e⟩ | ⟨hm, _⟩
        · cases e
        · exact h.1 _ hm
      by_cases hq : q.1 = t
      · simp [hq]; exact ih _
      · simp [hq]; exact ⟨key, ih _⟩
theorem setL_canon {t : Tm} {v : Int} {L : Cnt} (h : Canon L) : Canon (setL t v L) := by
  refine ⟨insF_rise h.rise, fun p hp => ?_⟩
  rcases mem_insF.1 hp with ⟨rfl, hd⟩ | ⟨hm, _⟩
  · simpa using hd
  · exact h.none0 _ hm
theorem ofL_setL {t : Tm} {v : Int} {L : Cnt} (h : Canon L) (s : Tm) : ofL (setL t v L) s = if s = t then v else ofL L s := by
  have hc := setL_canon (t := t) (v := v) h
  by_cases hs : s = t
  · subst hs
    rw [if_pos rfl]
    by_cases hv : v = 0
    · by_cases hz : ofL (setL s v L) s = 0
      · rw [hz, hv]
      · have := mem_ofL hz
        rcases mem_insF.1 this with ⟨_, hd⟩ | ⟨_, hne⟩
        · simp [hv] at hd
        · exact absurd rfl hne
    · exact (hc.mem.1 (mem_insF.2 (.inl ⟨rfl, by simp [hv]⟩))).1
  · rw [if_neg hs]
    by_cases hz : ofL L s = 0
    · rw [hz]
      by_cases hz' : ofL (setL t v L) s = 0
      · exact hz'
      · have := mem_ofL hz'
        rcases mem_insF.1 this with ⟨e, _⟩ | ⟨hm, _⟩
        · exact absurd (congrArg Prod.fst e) hs
        · exact absurd ((h.mem.1 hm).1.symm.trans hz) hz'
    · exact (hc.mem.1 (mem_insF.2 (.inr ⟨mem_ofL hz, hs⟩))).1
theorem insF_length (t : Tm) (v : Int) : ∀ (done : Bool) (L : Cnt), (insF t v done L).length ≤ L.length + (if done then 0 else 1)
  | done, [] => by cases done <;> simp [insF]
  | done, p :: L => by
    have ih := insF_length t v (done || t.ahead p.1) L
    unfold insF
    cases done <;> cases ha : t.ahead p.1 <;> rw [ha] at ih <;> by_cases hp : p.1 = t <;> simp [hp] at ih ⊢ <;> omega
theorem setL_length (t : Tm) (v : Int) (L : Cnt) : (setL t v L).length ≤ L.length + 1 := by
  have := insF_length t v (decide (v = 0)) L
  unfold setL
  split at this <;> omega
/-- The reference's loop. -/
def stepR (t : Tm) (v : Int) (s : Cnt × Bool) (p : Tm × Int) : Cnt × Bool :=
  let o := if !s.2 && t.ahead p.1 then s.1 ++ [(t, v)] else s.1
  (if p.1 = t then o else o ++ [p], s.2 || t.ahead p.1)
theorem stepR_all (t : Tm) (v : Int) : ∀ (L : Cnt) (o : Cnt) (d : Bool), (let s := L.foldl (stepR t v) (o, d); if s.2 then s.1 else s.1 ++ [(t, v)]) = o ++ insF t v d L
  | [], o, d => by cases d <;> simp [insF]
  | p :: L, o, d => by
    rw [List.foldl_cons]
    have := stepR_all t v L (stepR t v (o, d) p).1 (stepR t v (o, d) p).2
    rw [show ((stepR t v (o, d) p).1, (stepR t v (o, d) p).2) = stepR t v (o, d) p from rfl] at this
    rw [this, insF_cons]
    unfold stepR
    cases d <;> cases ha : t.ahead p.1 <;> by_cases hp : p.1 = t <;> simp [hp]
theorem stepR_len (t : Tm) (v : Int) : ∀ (L : Cnt) (o : Cnt) (d : Bool), (L.foldl (stepR t v) (o, d)).1.length ≤ o.length + L.length + (if d then 0 else 1)
  | [], o, d => by cases d <;> simp
  | p :: L, o, d => by
    rw [List.foldl_cons]
    have := stepR_len t v L (stepR t v (o, d) p).1 (stepR t v (o, d) p).2
    rw [show ((stepR t v (o, d) p).1, (stepR t v (o, d) p).2) = stepR t v (o, d) p from rfl] at this
    refine Nat.le_trans this ?_
    unfold stepR
    cases d <;> cases ha : t.ahead p.1 <;> by_cases hp : p.1 = t <;> simp [hp] <;> omega

/-! The times, and those above 0. -/
def tmsL (L : Cnt) : List Tm := L.map (·.1)
def aboveL (L : Cnt) : List Tm := (L.filter fun p => decide (0 < p.2)).map (·.1)
theorem tmsL_rise {L : Cnt} (h : Canon L) : (tmsL L).Pairwise Tm.lt_ := List.pairwise_map.2 h.rise
theorem mem_tmsL {L : Cnt} (h : Canon L) {t : Tm} : t ∈ tmsL L ↔ ofL L t ≠ 0 := by
  unfold tmsL
  rw [List.mem_map]
  constructor
  · rintro ⟨p, hp, rfl⟩
    rw [ofL_mem h.rise p hp]; exact h.none0 p hp
  · intro hz; exact ⟨_, mem_ofL hz, rfl⟩
theorem mem_aboveL {L : Cnt} (h : Canon L) {t : Tm} : t ∈ aboveL L ↔ 0 < ofL L t := by
  unfold aboveL
  rw [List.mem_map]
  constructor
  · rintro ⟨p, hp, rfl⟩
    rw [List.mem_filter] at hp
    rw [ofL_mem h.rise p hp.1]; simpa using hp.2
  · intro hz; exact ⟨_, List.mem_filter.2 ⟨mem_ofL (by omega), by simpa using hz⟩, rfl⟩
theorem filter_tmsL {L : Cnt} (h : Canon L) : ((tmsL L).filter fun t => !decide (ofL L t < 0)) = aboveL L := by
  refine lt_eq _ _ ((tmsL_rise h).filter _) (List.pairwise_map.2 (h.rise.filter _)) fun x => ?_
  rw [List.mem_filter, mem_tmsL h, mem_aboveL h]
  simp
  omega
theorem aboveL_len (L : Cnt) : (aboveL L).length ≤ L.length := by unfold aboveL; rw [List.length_map]; exact List.length_filter_le _ _
theorem tmsL_len (L : Cnt) : (tmsL L).length = L.length := by simp [tmsL]
/-- A change: it may be refused. -/
def addOk (L : Cnt) (t : Tm) (n : Int) : Bool := t.may && decide (-2199023255552 ≤ n) && decide (n ≤ 2199023255552) && decide (-1099511627776 ≤ ofL L t + n) && decide (ofL L t + n ≤ 1099511627776)
def addL (L : Cnt) (t : Tm) (n : Int) : Cnt := if addOk L t n then setL t (ofL L t + n) L else L
theorem addL_canon {L : Cnt} (h : Canon L) (t : Tm) (n : Int) : Canon (addL L t n) := by unfold addL; split; exact setL_canon h; exact h
theorem ofL_addL {L : Cnt} (h : Canon L) (t : Tm) (n : Int) (s : Tm) : ofL (addL L t n) s = ofL L s + (if s = t ∧ addOk L t n = true then n else 0) := by
  unfold addL
  cases ha : addOk L t n
  · simp
  · rw [if_pos rfl, ofL_setL h]
    by_cases hs : s = t
    · subst hs; simp
    · simp [hs]
theorem addL_length (L : Cnt) (t : Tm) (n : Int) : (addL L t n).length ≤ L.length + 1 := by
  unfold addL; split
  · exact setL_length _ _ _
  · omega
end Go.Proofs.Ytifoonjhcjmehaa
