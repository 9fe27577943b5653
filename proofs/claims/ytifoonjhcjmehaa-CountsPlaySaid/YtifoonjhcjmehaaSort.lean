/-
  slices.SortFunc at times that are no two alike, ordered by Order: by contract.
-/
import Derived.Test.YtifoonjhcjmehaaSortLay
import Derived.Test.YtifoonjhcjmehaaOrder2
import Derived.Test.YtifoonjhcjmehaaCntLaw
import Derived.Test.YtifoonjhcjmehaaMin
namespace Go.Proofs.Ytifoonjhcjmehaa
open Go.RowKit Go.Sort
set_option linter.unusedSimpArgs false
set_option linter.unusedVariables false
instance : Inhabited Tm := ⟨⟨0, 0⟩⟩
def encT (t : Tm) : List Value := [.int .i64 t.e, .int .i64 t.l]
theorem ltOf_ord (x y : Tm) : ltOf ord x y = x.ahead y := ord_lt x y
theorem swo_ord : SWO (ltOf ord) where
  irrefl x := by rw [ltOf_ord, ← Bool.not_eq_true, Tm.ahead_iff]; omega
  trans x y z h1 h2 := by rw [ltOf_ord, Tm.ahead_iff] at *; omega
  ntrans x y z h1 h2 := by rw [ltOf_ord, Tm.not_ahead] at *; omega
theorem flat_tm (l : List Tm) : flatK encT 2 l.toArray = (tmCells l).toArray := by
  apply Array.ext
  · simp
  · intro i h1 h2
    have hi : i < l.length * 2 := by simpa using h1
    have hg : l[i / 2]? = some (Tm.at_ l (i / 2)) := Tm.some_at (by omega)
    have hat := tmCells_at l (i / 2) _ hg
    have e1 : l.toArray[i / 2]! = Tm.at_ l (i / 2) := by
      rw [getElem!_pos l.toArray (i / 2) (by simp; omega)]
      have := (List.getElem?_eq_some_iff.1 hg).2
      simpa using this
    have e2 : (flatK encT 2 l.toArray)[i] = (encT (Tm.at_ l (i / 2)))[i % 2]! := by
      have := get_flatK encT 2 l.toArray i (by simpa using hi)
      rw [getElem!_pos (flatK encT 2 l.toArray) i h1, e1] at this
      exact this
    rw [e2]
    have h3 : i < (tmCells l).length := by simpa using hi
    show _ = (tmCells l)[i]
    rcases Nat.mod_two_eq_zero_or_one i with h | h
    · have e3 : i / 2 * 2 = i := by omega
      rw [e3] at hat
      rw [List.getElem?_eq_getElem h3] at hat
      have := hat.1
      injection this with this
      rw [this, h]; rfl
    · have e3 : i / 2 * 2 + 1 = i := by omega
      rw [e3] at hat
      rw [List.getElem?_eq_getElem h3] at hat
      have := hat.2
      injection this with this
      rw [this, h]; rfl
theorem holds_tm {w : World} {g : Nat} {cur : Array Value} {e : TypeId} {l : List Tm} (hb : w.heap[g]? = some (.cells cur e (0, 0))) (ht : cur.toList.take (l.length * 2) = tmCells l) : HoldsK encT 2 w g 0 l.toArray := by
  unfold HoldsK
  rw [flat_tm]
  intro j hj
  have hj' : j < (tmCells l).length := by simpa using hj
  refine ⟨?_, by simp [World.frozen?, hb]⟩
  have h1 : (cur.toList.take (l.length * 2))[j]? = (tmCells l)[j]? := by rw [ht]
  rw [List.getElem?_take_of_lt (by simpa using hj')] at h1
  simp only [World.cell?, hb, Nat.zero_add]
  simp only [Option.isSome_none, Bool.false_eq_true, if_false]
  rw [← Array.getElem?_toList, h1]
  rw [getElem!_pos (tmCells l).toArray j hj]
  simp [hj']
theorem heap_sortedT {w : World} {g n : Nat} {os : Array Obj} {cur : Array Value} {e : TypeId} {fr : Nat × Nat} (F : Array Value) (hb : w.heap[g]? = some (.cells cur e fr)) :
    (grow (putRow id (Sort.ahead w n) g 0 F) os).heap[g]? = some (.cells (putCells id 0 F cur) e fr) := by
  have hg : g < w.heap.size := (Array.getElem?_eq_some_iff.1 hb).1
  rw [heap_grow_old _ _ (by simpa using hg)]
  simp [putRow, mapBlock, Sort.ahead, Array.getElem?_modify, hb, onCells]
theorem grownBy_sortedT {w : World} {g n : Nat} {os : Array Obj} (F : Array Value) : w.grownBy (grow (putRow id (Sort.ahead w n) g 0 F) os) (some g) := by
  refine ⟨rfl, rfl, rfl, by simp, fun k hk hne => ?_⟩
  rw [heap_grow_old _ _ (by simpa using hk)]
  have : g ≠ k := fun e => hne (by rw [e])
  simp [putRow, mapBlock, Sort.ahead, Array.getElem?_modify, this]
theorem take_putCellsT (cur : Array Value) (vs : List Value) (h : vs.length ≤ cur.size) : (putCells id 0 vs.toArray cur).toList.take vs.length = vs := by
  apply List.ext_getElem?
  intro j
  by_cases hj : j < vs.length
  · rw [List.getElem?_take_of_lt hj, Array.getElem?_toList]
    simp [putCells, hj, show j < cur.size by omega]
  · rw [List.getElem?_take_eq_none (by omega), List.getElem?_eq_none (by omega)]
theorem ownsRow_sortedT {w : World} {base g cap n : Nat} {e : TypeId} {os : Array Obj} {cur : Array Value} {ss ts : List Tm} (hl : ts.length = ss.length) (hbase : base ≤ g) (hb : w.heap[g]? = some (.cells cur e (0, 0)))
    (h1 : ss.length ≤ cap) (h2 : cap ≤ maxLen) (h3 : cur.size = cap * 2) :
    (grow (putRow id (Sort.ahead w n) g 0 (tmCells ts).toArray) os).ownsRow base e 2 (.slice (some ⟨g, 0, none⟩) ss.length cap) ss.length (tmCells ts) :=
  ⟨by simp [hl], .inr ⟨g, cap, _, rfl, hbase, heap_sortedT _ hb, h1, h2, by simp [putCells, h3], by
    have := take_putCellsT cur (tmCells ts) (by simp; omega)
    rw [tmCells_length, hl] at this
    exact this⟩⟩
theorem cmpLaysT (blk off size : Nat) (w : World) : CmpLays Try.prog 35 #[] encT 2 ord blk off size w := fun m os dk _ x y => order_lays x y _
theorem ord_enters (args : Array Value) (w : World) : (callFunc 35 args).run Try.prog w = .ok (.enter 35 args) w := by kernel_rfl
theorem sorted_rise {ss ts : List Tm} (hn : ss.Nodup) (hp : ts.Perm ss) (hs : SortedIn (ltOf ord) 0 ts.length ts.toArray) : ts.Pairwise Tm.lt_ := by
  have hn' : ts.Nodup := hp.nodup_iff.2 hn
  rw [List.pairwise_iff_getElem]
  intro i j hi hj hij
  have h1 := hs i j (Nat.zero_le _) hij hj
  rw [getElem!_pos ts.toArray i (by simpa using hi), getElem!_pos ts.toArray j (by simpa using hj), ltOf_ord] at h1
  simp only [List.getElem_toArray] at h1
  rw [Tm.not_ahead] at h1
  have hne : ts[i] ≠ ts[j] := fun e => by
    have := (List.pairwise_iff_getElem.1 hn') i j hi hj hij
    exact this e
  rw [Tm.lt_iff]
  have h2 : ¬ (ts[i].e = ts[j].e ∧ ts[i].l = ts[j].l) := fun ⟨e1, e2⟩ => hne (Tm.ext_ e1 e2)
  omega
theorem sortf_any {base n c : Nat} {A : Option Addr} {ss : List Tm} (w : World) (hown : w.ownsRow base 33 2 (.slice A n c) n (tmCells ss)) (hn : ss.Nodup) (hbig : n ≤ 1000000) :
    Calls Try.prog 49 #[.slice A n c, .func (.func 35) #[] #[]] w fun e w' => e = .returned (.tuple #[]) ∧ ∃ ts : List Tm, ts.Perm ss ∧ ts.Pairwise Tm.lt_ ∧ w'.ownsRow base 33 2 (.slice A n c) n (tmCells ts) ∧ w.grownBy w' (Value.slice A n c).ownBlock := by
  have hl : ss.length = n := by have := hown.1; simp at this; omega
  rcases Nat.eq_zero_or_pos n with h0 | h0
  · subst h0
    obtain rfl : ss = [] := List.eq_nil_of_length_eq_zero hl
    refine (AnyF.slices_SortFunc_none { sortT with } A c _ w).mono ?_
    rintro e w' ⟨rfl, rfl⟩
    exact ⟨rfl, [], List.Perm.refl _, List.Pairwise.nil, hown, World.grownBy.refl _ _⟩
  · rcases hown.2 with ⟨_, hz⟩ | ⟨g, cap, cur, hv, hbase, hgb, r1, r2, r3, r4⟩
    · omega
    · injection hv with e1 e2 e3
      subst e1 e3 hl
      have hH : HoldsK encT 2 w g 0 ss.toArray := holds_tm hgb r4
      have hgl : g < w.heap.size := (Array.getElem?_eq_some_iff.1 hgb).1
      have hcon := AnyQ.slices_SortFunc sortT 2 Try.isAgg33 Try.sizeOf33 encT (fun _ => rfl) (fun x v hv => by simp [encT] at hv; rcases hv with rfl | rfl <;> rfl) ord swo_ord 35 #[] g 0 c ss.toArray w ord_enters (cmpLaysT g 0 _ w) hH hgl (by simp; omega)
      have e5 : ss.toArray.size = ss.length := by simp
      rw [e5] at hcon
      refine hcon.mono ?_
      rintro e w' ⟨rfl, d', m, os, ⟨hsz, _, hperm⟩, hsorted, rfl⟩
      have hd : d' = d'.toList.toArray := by simp
      have hsz' : d'.toList.length = ss.length := by simpa using hsz
      have hp : d'.toList.Perm ss := by
        have e6 : (d'.extract 0 ss.length).toList = d'.toList := by simp [← hsz']
        have e7 : (ss.toArray.extract 0 ss.length).toList = ss := by simp
        rw [e6, e7] at hperm
        exact hperm
      have hs : d'.toList.Pairwise Tm.lt_ := sorted_rise hn hp (by rw [hsz', ← hd]; exact hsorted)
      refine ⟨rfl, d'.toList, hp, hs, ?_, ?_⟩
      · have := ownsRow_sortedT (n := m) (os := os) (ss := ss) (ts := d'.toList) (e := 33) hsz' hbase hgb r1 r2 r3
        unfold sortWorldK putRowK
        rw [hd, flat_tm]
        simpa using this
      · unfold sortWorldK putRowK
        exact grownBy_sortedT _
end Go.Proofs.Ytifoonjhcjmehaa
