/-
  slices.IndexFunc, ContainsFunc at times, for whatever predicate, by contracts.
-/
import Derived.Test.YtifoonjhcjmehaaHeap
import Derived.Test.YtifoonjhcjmehaaTimesRef
import Derived.Lib.SliceRun
import Derived.Laws.IdiomCopy
namespace Go.Proofs.Ytifoonjhcjmehaa
open Go.RowKit
set_option linter.unusedSimpArgs false
set_option linter.unusedVariables false

/-- A predicate on times, in every world in which nothing but the blocks gs has changed. -/
def PredT (f : Nat) (lb : Array Value) (gs : List Nat) (p : Tm → Bool) (w : World) : Prop :=
  ∀ (W : World) (x : Tm), Touch gs w W → Calls Try.prog f (#[tmv x] ++ lb) W fun e w' => e = .returned (.bool (p x)) ∧ Below W.heap.size W w'
theorem PredT.on {f : Nat} {lb : Array Value} {gs : List Nat} {p : Tm → Bool} {w w' : World} (h : PredT f lb gs p w) (ht : Touch gs w w') : PredT f lb gs p w' := fun W x hW => h W x (ht.trans hW)
theorem PredT.b {f : Nat} {lb : Array Value} {gs : List Nat} {p : Tm → Bool} {w : World} {x : Tm} {r : Bool} (h : PredT f lb gs p w) (hr : p x = r) :
    Calls Try.prog f (#[tmv x] ++ lb) w fun e w' => e = .returned (.bool r) ∧ Below w.heap.size w w' := by subst hr; exact h w x (Touch.refl _ _)

/-- The place of the first one, or -1. -/
def idxL (p : Tm → Bool) (l : List Tm) (n : Nat) (r : Int) : Prop :=
  (r = -1 ∧ ∀ k, k < n → p (Tm.at_ l k) = false) ∨ ∃ j : Nat, r = j ∧ j < n ∧ p (Tm.at_ l j) = true ∧ ∀ k, k < j → p (Tm.at_ l k) = false

set_option maxRecDepth 100000 in
set_option maxHeartbeats 2000000 in
theorem idxf_any {B n c f : Nat} {A : Option Addr} {l : List Tm} {lb : Array Value} {gs : List Nat} {p : Tm → Bool} (w : World) (h : Tms w B A n l) (hB : B ≤ w.heap.size) (hn : n ≤ 1000000)
    (hp : PredT f lb gs p w) (ef : ∀ args w, (callFunc f args).run Try.prog w = .ok (.enter f args) w) :
    Calls Try.prog 47 #[.slice A n c, .func (.func f) #[] lb] w fun e w' => ∃ r : Int, e = .returned (.int .i64 r) ∧ Below w.heap.size w w' ∧ idxL p l n r := by
  have HP := Lib.hid hp
  clear hp
  go_enter Try.func47, Try.ntmps47
  go_wp2_with fail
  go_loopw [8] (fun i wr => ∃ k : Nat, k ≤ n ∧ i = .int .i64 k ∧ Below w.heap.size w wr ∧ Hid (∀ j, j < k → p (Tm.at_ l j) = false)) (fun i _ => n - (intOf i).toNat)
  case atStart => exact ⟨0, Nat.zero_le _, rfl, Below.refl _ _, Lib.hid (fun j hj => absurd hj (by omega))⟩
  case round =>
    obtain ⟨k, hk, rfl, HB, HN⟩ := hrel
    by_cases hlt : k < n
    · obtain ⟨ad, rfl, hab, hp, hmem, hc0, hc1⟩ := Tms.tm (h.below (HB.mono hB)) hlt
      obtain ⟨x, hx⟩ : ∃ x, Tm.at_ l k = x := ⟨_, rfl⟩
      rw [hx] at hp hmem hc0 hc1
      have HX := Lib.hid hx
      have HPW := Lib.hid (HP.out.on (Touch.of_below HB (Nat.le_refl _)))
      clear hx hp hmem
      cases hq : p x
      · have HQ := Lib.hid hq
        clear hq
        go_wp2_with fail
        refine (HPW.out.b HQ.out).mono ?_
        rintro e w1 ⟨rfl, hb⟩
        have HB1 := below_after HB hb HB.size
        go_wp2_with fail
        go_roundw
        case rel => exact ⟨k + 1, by omega, by go_num, HB1, Lib.hid (all_succ HN.out (by rw [HX.out, HQ.out]))⟩
        case measure => simp [intOf]; omega
      · have HQ := Lib.hid hq
        clear hq
        go_wp2_with fail
        refine (HPW.out.b HQ.out).mono ?_
        rintro e w1 ⟨rfl, hb⟩
        have HB1 := below_after HB hb HB.size
        go_wp2_with fail
        go_ret
        exact ⟨k, rfl, HB1, .inr ⟨k, rfl, hlt, by rw [HX.out, HQ.out], HN.out⟩⟩
    · go_wp2_with fail
      go_ret
      exact ⟨-1, rfl, HB, .inl ⟨rfl, fun j hj => HN.out j (by omega)⟩⟩

theorem idxL_any {p : Tm → Bool} {l : List Tm} {r : Int} {n : Nat} (hn : l.length = n) (h : idxL p l n r) : decide (0 ≤ r) = l.any p := by
  rw [Bool.eq_iff_iff, List.any_eq_true, decide_eq_true_eq]
  rcases h with ⟨rfl, h⟩ | ⟨j, rfl, hj, hpj, _⟩
  · constructor
    · intro h; omega
    · rintro ⟨x, hx, hpx⟩
      obtain ⟨k, hk, rfl⟩ := List.mem_iff_getElem.1 hx
      have := h k (by omega)
      rw [Tm.at_some (List.getElem?_eq_getElem hk), hpx] at this; cases this
  · exact ⟨fun _ => ⟨_, Tm.at_mem (by omega), hpj⟩, fun _ => by omega⟩

set_option maxRecDepth 100000 in
set_option maxHeartbeats 2000000 in
theorem contf_b {B n c f : Nat} {A : Option Addr} {l : List Tm} {lb : Array Value} {gs : List Nat} {p : Tm → Bool} {r : Bool} (w : World) (h : Tms w B A n l) (hB : B ≤ w.heap.size) (hn : n ≤ 1000000)
    (hp : PredT f lb gs p w) (ef : ∀ args w, (callFunc f args).run Try.prog w = .ok (.enter f args) w) (hr : l.any p = r) :
    Calls Try.prog 36 #[.slice A n c, .func (.func f) #[] lb] w fun e w' => e = .returned (.bool r) ∧ Below w.heap.size w w' := by
  have HR := Lib.hid hr
  clear hr
  go_enter Try.func36, Try.ntmps36
  go_wp2_with fail
  refine (idxf_any w h hB hn hp ef).mono ?_
  rintro e w1 ⟨q, rfl, hb, hi⟩
  have hd := (idxL_any (Tms.len h) hi).trans HR.out
  go_wp2_with fail
  go_ret
  exact ⟨rfl, hb⟩
end Go.Proofs.Ytifoonjhcjmehaa
