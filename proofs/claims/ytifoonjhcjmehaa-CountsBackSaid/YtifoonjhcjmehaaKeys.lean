/-
  maps.Keys at a map keyed by times, and its iterator: the keys come, each once, in some order.
-/
import Derived.Test.YtifoonjhcjmehaaMapT
import Derived.Test.YtifoonjhcjmehaaSort
import Derived.Shelf.SlIter.Collect
namespace Go.Proofs.Ytifoonjhcjmehaa
open Go.RowKit Go.Maps Go.Sort
set_option linter.unusedSimpArgs false
set_option linter.unusedVariables false

/-- What has come so far. -/
structure CollT (D : DataW Unit) (left : Lit → Bool) (ss : List Tm) : Prop where
  nodup : ss.Nodup
  ok : ∀ t ∈ ss, t.ok
  mem : ∀ t : Tm, t.ok → (t ∈ ss ↔ (Maps.has D (klT t) = true ∧ left (klT t) = false))
theorem CollT.start (D : DataW Unit) : CollT D (Maps.has D) [] := ⟨List.nodup_nil, fun _ h => (by cases h), fun t _ => by cases Maps.has D (klT t) <;> simp⟩
theorem CollT.step {D : DataW Unit} {left : Lit → Bool} {ss : List Tm} (h : CollT D left ss) {x : Tm} (hx : x.ok) {y : DataW Unit} (hlk : left (klT x) = true) (hat : ∀ zd, D.atKey (klT x) zd = y) :
    CollT D (fun z => left z && !z.sameKey (klT x)) (ss ++ [x]) := by
  have hhas : Maps.has D (klT x) = true := has_true_of_atKey hat
  have hnew : x ∉ ss := fun hm => by have := ((h.mem x hx).1 hm).2; rw [hlk] at this; cases this
  refine ⟨List.nodup_append.2 ⟨h.nodup, by simp, fun a ha b hb => by simp at hb; subst hb; exact fun e => hnew (e ▸ ha)⟩, ?_, fun t ht => ?_⟩
  · intro t ht
    rcases List.mem_append.1 ht with h1 | h1
    · exact h.ok t h1
    · obtain rfl : t = x := by simpa using h1
      exact hx
  · by_cases hy : t = x
    · subst hy; simp [hhas, WideAt.sameKey_self (isKeyT ht)]
    · have := sameKey_ne (fun e => hy (klT_inj ht hx e))
      simp [h.mem t ht, hy, this]
theorem CollT.end_ {D : DataW Unit} {left : Lit → Bool} {ss : List Tm} {L : Cnt} (h : CollT D left ss) (hl : ∀ kl, left kl = false) (hr : Rep D L) (hc : Canon L) (hok : ∀ p ∈ L, p.1.ok) : ss.Nodup ∧ ∀ t, t ∈ ss ↔ t ∈ tmsL L := by
  refine ⟨h.nodup, fun t => ?_⟩
  constructor
  · intro ht
    have hto := h.ok t ht
    have := ((h.mem t hto).1 ht).1
    rw [hr.has t hto] at this
    exact (mem_tmsL hc).2 (by simpa using this)
  · intro ht
    obtain ⟨p, hp, rfl⟩ := List.mem_map.1 ht
    have hto := hok p hp
    exact (h.mem _ hto).2 ⟨by rw [hr.has _ hto]; simpa using (mem_tmsL hc).1 ht, hl _⟩

abbrev vT (t : Tm) : Value := .agg #[.int .i64 t.e, .int .i64 t.l]
theorem vT_inj {a b : Tm} (h : vT a = vT b) : a = b := by
  injection h with e
  have e1 : ([Value.int .i64 a.e, .int .i64 a.l] : List Value) = [.int .i64 b.e, .int .i64 b.l] := congrArg Array.toList e
  simp at e1
  exact Tm.ext_ e1.1 e1.2
set_option maxRecDepth 100000 in
set_option maxHeartbeats 2000000 in
theorem keys1_T (F : Fence) (n : Nat) (h10 : F.fn 50) (hro : F.round = none) (hn : 1 ≤ n) (l Bm b nn : Nat) (D0 : DataW Unit) (J : List Tm → World → Prop)
    (hY : ∀ pre x W, J pre W → pre.length < Maps.size D0 → YieldAt F (n - 1) Try.prog l #[vT x] W fun e W' => e = .returned (.bool true) ∧ J (pre ++ [x]) W' ∧ KeepsWalks W W')
    (W : World) (hJ : AbidesFrom W.heap.size J) (hm : W.cell? ⟨Bm, 0, none⟩ = some (.map (some b))) (hown : OwnsT W b nn D0) (h0 : J [] W) :
    CallsIn F n Try.prog 50 #[.func (.yield l) #[] #[], .pointer (some ⟨Bm, 0, none⟩)] W fun e W' => (∃ v, e = .returned v) ∧ ∃ ss : List Tm, (∃ left, CollT D0 left ss ∧ ∀ kl, left kl = false) ∧ J ss W' := by
  refine callsIn_of_wp Try.func50 rfl h10 ?_ hro
  simp only [Try.ntmps50, List.size_toArray, List.length_cons, List.length_nil, Nat.reduceAdd, Nat.reduceSub, Array.replicate_succ, Array.replicate_zero, List.push_toArray, List.append_toArray, List.nil_append, List.cons_append]
  gi_wp2_with (first
    | (gi_at_range; refine wpListIn_range_own _ rfl _ 24 rfl 33 3 keyedT Try.underlying24 _ b nn _ rfl hown ?_; intro w0 hrg0 hg0 hs0)
    | gi_in)
  go_frame
  gi_loopw [3] (fun _ wr => ∃ (left : Lit → Bool) (cnt : Nat) (ss : List Tm), wr.ranges Try.prog 33 (plainElem Try.prog 3) b W.heap.size nn D0 left cnt ∧ ss.length + cnt ≤ Maps.size D0 ∧ CollT D0 left ss ∧ J ss wr)
    (fun _ wr => wr.rangeLeft b W.heap.size)
  case atStart =>
    exact ⟨_, _, [], hrg0, by simp, CollT.start D0, hJ [] W w0 none h0 hg0 (fun r e => by cases e)⟩
  case round =>
    obtain ⟨left, cnt, ss, hrg, hcs, hC, hJs⟩ := hrel
    gi_wp2_with (first
      | (gi_at_next; refine wpListIn_next_ranges _ rfl _ rfl 33 keyedT (plainElem Try.prog 3) vT id (fun key kl hk => by obtain ⟨x, hx, _⟩ := keyT_inv hk; exact ⟨x, hx⟩) (fun v _ _ => ⟨v, rfl⟩) b W.heap.size nn _ _ _ rfl hrg ?_ ?_)
      | gi_in)
    · intro hc0 hl0
      gi_wp2
      go_end0
      exact ⟨⟨_, rfl⟩, ss, ⟨left, hC, hl0⟩, hJs⟩
    · intro x c kl yd yp w2 cnt2 hkey hlk hv hat hrg2 hlt hg2 hs2 hen
      obtain ⟨x', ex, hxo, rfl⟩ := keyT_inv hkey
      obtain rfl : x = x' := vT_inj ex
      have hJ2 : J ss w2 := hJ ss wr w2 (some W.heap.size) hJs hg2 (fun r e => by cases e; exact ⟨Nat.le_refl _, hrg.iter_walk⟩)
      have hJ3 : J ss (w2.alloc (.cells #[.int .i64 x.e, .int .i64 x.l] 33)) := hJ ss w2 _ none hJ2 (World.grownBy_alloc w2 _ none) (fun r e => by cases e)
      have hrg3 := hrg2.alloc (.cells #[.int .i64 x.e, .int .i64 x.l] 33)
      obtain ⟨fn, tmps, assign, body, hy, hR⟩ := hY ss x _ hJ3 (by omega)
      clear hs2
      gi_wp2
      refine hR.mono ?_
      rintro e W3 ⟨rfl, hJ4, hk3⟩
      gi_wp2
      have hrg4 := hrg3.of_walks hk3
      go_roundw
      case rel => exact ⟨_, cnt2, ss ++ [x], hrg4, by simp; omega, hC.step hxo hlk hat, hJ4⟩
      case measure => rw [hrg4.left_eq, hrg.left_eq]; exact hlt

/-- maps.Keys: the map is boxed; the function value captures the box. -/
theorem keys_T (F : Fence) (n : Nat) (h7 : F.fn 34) (hro : F.round = none) (mb : Option Nat) (w : World) :
    CallsIn F n Try.prog 34 #[.map mb] w fun e w' => e = .returned (.func (.func 50) #[] #[.pointer (some ⟨w.heap.size, 0, none⟩)]) ∧ w' = w.alloc (.cells #[.map mb] 24) := by
  refine callsIn_of_wp Try.func34 rfl h7 ?_ hro
  simp only [Try.ntmps34, List.size_toArray, List.length_cons, List.length_nil, Nat.reduceAdd, Nat.reduceSub, Array.replicate_succ, Array.replicate_zero, List.push_toArray, List.append_toArray, List.nil_append, List.cons_append]
  gi_wp2
  go_ret
  exact ⟨rfl, rfl⟩
theorem keys_gives_T (F : Fence) (n : Nat) (h10 : F.fn 50) (hro : F.round = none) (hn : 1 ≤ n) (Bm b nn : Nat) (D0 : DataW Unit) (w : World) (hBm : Bm < w.heap.size)
    (hm : w.cell? ⟨Bm, 0, none⟩ = some (.map (some b))) (hown : OwnsT w b nn D0) :
    SeqGives F n Try.prog 50 #[.pointer (some ⟨Bm, 0, none⟩)] vT (fun ss => ∃ left, CollT D0 left ss ∧ ∀ kl, left kl = false) (Maps.size D0) w := fun l J W hW hJ hY h0 => by
  have hown' : OwnsT W b nn D0 := by
    have hbl := hown.lt
    obtain ⟨es, clock, hb, Ft, hs, hD⟩ := hown
    exact ⟨es, clock, (hW.block b hbl).trans hb, Ft, hs, hD⟩
  exact keys1_T F n h10 hro hn l Bm b nn D0 J hY W hJ ((hW.cell (p := ⟨Bm, 0, none⟩) hBm).trans hm) hown' h0
end Go.Proofs.Ytifoonjhcjmehaa
