/-
  Pairs that rise: as a plain list, and both functions Rise, by contracts.
-/
import Derived.Test.YtejijghghbicdaaWireAlive
import Derived.Outline
namespace Go.Proofs.Ytejijghghbicdaa
open Go.RowKit
set_option linter.unusedSimpArgs false
set_option linter.unusedVariables false

/-- A vertex, and what it has. -/
structure Pr where
  v : Int
  x : Nat
def Pr.ok (p : Pr) : Prop := IN64 p.v ∧ W64 p.x
def prCells (l : List Pr) : List Value := l.flatMap fun p => [.int .i64 p.v, .int .u64 (p.x : Nat)]
theorem prCells_cons (p : Pr) (l : List Pr) : prCells (p :: l) = .int .i64 p.v :: .int .u64 (p.x : Nat) :: prCells l := by simp [prCells]
theorem prCells_nil : prCells [] = [] := rfl
theorem prCells_append (a b : List Pr) : prCells (a ++ b) = prCells a ++ prCells b := by simp [prCells]
@[simp] theorem prCells_length (l : List Pr) : (prCells l).length = l.length * 2 := by
  induction l with
  | nil => rfl
  | cons p l ih => rw [prCells_cons]; simp [ih]; omega
theorem prCells_at : ∀ (l : List Pr) (k : Nat) (p : Pr), l[k]? = some p → (prCells l)[k * 2]? = some (.int .i64 p.v) ∧ (prCells l)[k * 2 + 1]? = some (.int .u64 (p.x : Nat))
  | [], k, p, h => by simp at h
  | q :: l, 0, p, h => by
    simp at h; subst h; rw [prCells_cons]; exact ⟨rfl, rfl⟩
  | q :: l, k + 1, p, h => by
    have := prCells_at l k p (by simpa using h)
    rw [prCells_cons, show (k + 1) * 2 = k * 2 + 2 by omega]
    simpa using this
theorem add_one_ (a : Addr) (i : Nat) : a.add (i + 1) = ⟨(a.add i).block, (a.add i).off + 1, none⟩ := by
  unfold Addr.add
  by_cases h : i = 0 <;> simp [h, Nat.add_assoc]
theorem Reads.pair {w : World} {B n k : Nat} {A : Option Addr} {l : List Pr} (h : Reads w B 2 A n (prCells l)) (hk : k < n) :
    ∃ ad p, A = some ad ∧ ad.block < B ∧ l[k]? = some p ∧ w.cell? (ad.add (k * 2)) = some (.int .i64 p.v) ∧ w.cell? ⟨(ad.add (k * 2)).block, (ad.add (k * 2)).off + 1, none⟩ = some (.int .u64 (p.x : Nat)) := by
  obtain ⟨ad, e, hb, hc⟩ := h.2 (by omega)
  have hl : l.length = n := by have := h.1; simp at this; omega
  obtain ⟨p, hp⟩ : ∃ p, l[k]? = some p := ⟨_, List.getElem?_eq_getElem (by omega)⟩
  have := prCells_at l k p hp
  exact ⟨ad, p, e, hb, hp, hc _ _ this.1, by rw [← add_one_]; exact hc _ _ this.2⟩
theorem reads_plen {w : World} {B n : Nat} {A : Option Addr} {l : List Pr} (h : Reads w B 2 A n (prCells l)) : l.length = n := by have := h.1; simp at this; omega
theorem all_succ {P : Nat → Prop} {k : Nat} (h : ∀ j, j < k → P j) (hk : P k) : ∀ j, j < k + 1 → P j := fun j hj => by
  by_cases e : j < k
  · exact h j e
  · have : j = k := by omega
    subst this; exact hk
def Pr.at_ (l : List Pr) (i : Nat) : Int := ((l[i]?).map Pr.v).getD 0
def okAt (l : List Pr) (i : Nat) : Bool := decide (0 ≤ Pr.at_ l i ∧ Pr.at_ l i < 65536 ∧ (i = 0 ∨ Pr.at_ l (i - 1) < Pr.at_ l i))
def riseB (l : List Pr) : Bool := (List.range l.length).all (okAt l)
theorem rise_no {l : List Pr} {k : Nat} (hk : k < l.length) (h : okAt l k = false) : riseB l = false := by
  unfold riseB
  rw [List.all_eq_false]
  exact ⟨k, by simpa using hk, by simp [h]⟩
theorem rise_yes {l : List Pr} (h : ∀ i, i < l.length → okAt l i = true) : riseB l = true := by
  unfold riseB
  rw [List.all_eq_true]
  intro i hi
  exact h i (by simpa using hi)
theorem at_some {l : List Pr} {k : Nat} {p : Pr} (h : l[k]? = some p) : Pr.at_ l k = p.v := by simp [Pr.at_, h]

theorem quiet_v {P : Program} {f : FuncId} {args : Array Value} {w : World} {n : Nat} {v : Value}
    (h : Calls P f args (w.drewN n) fun e w' => e = .returned v ∧ w.drewN n = w') : Calls P f args (w.drewN n) fun e w'' => e = .returned v ∧ ∃ m, w'' = w.drewN m :=
  h.mono fun _ _ ⟨he, hm⟩ => ⟨he, n, hm.symm⟩
set_option maxRecDepth 100000 in
set_option maxHeartbeats 2000000 in
theorem rise_any {B n c : Nat} {A : Option Addr} {l : List Pr} (w : World) (h : Reads w B 2 A n (prCells l)) (hB : B ≤ w.heap.size) (hn : n ≤ 1000000) :
    Calls Try.prog 53 #[.slice A n c] w fun e w' => e = .returned (.bool (riseB l)) ∧ Below w.heap.size w w' := by
  have HL := Lib.hid (reads_plen h)
  go_enter Try.func53, Try.ntmps53
  go_wp2_with fail
  go_loopw [7] (fun i wr => ∃ k : Nat, k ≤ n ∧ i = .int .i64 k ∧ Below w.heap.size w wr ∧ Hid (∀ j, j < k → okAt l j = true)) (fun i _ => n - (intOf i).toNat)
  case atStart => exact ⟨0, Nat.zero_le _, rfl, Below.refl _ _, Lib.hid (fun j hj => absurd hj (by omega))⟩
  case round =>
    obtain ⟨k, hk, rfl, hb, HOK⟩ := hrel
    by_cases hlt : k < n
    · have hw := h.below (hb.mono hB)
      obtain ⟨ad, p, rfl, hab, hp, hc0, hc1⟩ := hw.pair hlt
      have hkl : k < l.length := by have := HL.out; omega
      obtain ⟨pv, px⟩ := p
      simp only at hc0 hc1
      have hat := at_some hp
      simp only at hat
      by_cases h0 : pv < 0
      · have hd0 : decide (pv < 0) = true := by simpa using h0

        have HR := Lib.hid (rise_no hkl (show okAt l k = false by unfold okAt; rw [hat]; first | (simp; done) | (simp; omega)))
        clear hp hat hkl
        go_wp2_with fail
        go_quiet (fail)
        go_wp2_with fail
        go_ret
        exact ⟨by rw [HR.out]; rfl, below_drewN (hb.alloc hb.size _) _⟩
      · have hd0 : decide (pv < 0) = false := by simpa using h0
        by_cases h1 : 65536 ≤ pv
        · have hd1 : decide (65536 ≤ pv) = true := by simpa using h1
          have HR := Lib.hid (rise_no hkl (show okAt l k = false by unfold okAt; rw [hat]; first | (simp; done) | (simp; omega)))
          clear hp hat hkl
          go_wp2_with fail
          go_quiet (fail)
          go_wp2_with fail
          go_ret
          exact ⟨by rw [HR.out]; rfl, below_drewN (hb.alloc hb.size _) _⟩
        · have hd1 : decide (65536 ≤ pv) = false := by simpa using h1
          cases k with
          | zero =>
            have ea : ad.add (0 * 2) = ad := by simp [Addr.add]
            rw [ea] at hc0 hc1
            clear ea
            have hdk : decide ((0 : Int) < ((0 : Nat) : Int)) = false := by simp
            have HR := Lib.hid (show okAt l (0) = true by unfold okAt; rw [hat]; first | (simp; done) | (simp; omega))
            clear hp hat hkl
            go_wp2_with fail
            go_quiet (fail)
            go_wp2_with fail
            go_roundw
            case rel => exact ⟨0 + 1, by omega, by go_num, below_drewN (hb.alloc hb.size _) _, Lib.hid (all_succ HOK.out HR.out)⟩
            case measure => simp [intOf]; omega
          | succ m =>
            obtain ⟨ad', q, e', _, hq, hq0, _⟩ := hw.pair (k := m) (by omega)
            injection e' with e'
            subst e'
            obtain ⟨qv, qx⟩ := q
            simp only at hq0
            have hat2 := at_some hq
            simp only at hat2
            have hdk : decide (0 < (m : Int) + 1) = true := decide_eq_true (by omega)
            have es : IntKind.i64.wrap ((m : Int) + 1 - 1) = (m : Int) := by rw [IntWalk.i64_in _ (by omega)]; omega
            have es2 : IntKind.i64.wrap (m : Int) = (m : Int) := IntWalk.i64_in _ (by omega)
            have hmn : (m : Int) < (n : Int) := by omega
            have hm0 : 0 ≤ (m : Int) := by omega
            have hbm : (ad.add (m * 2)).block < wr.heap.size := by rw [block_of_add]; have := hb.size; omega
            by_cases h2 : pv ≤ qv
            · have hd2 : decide (pv ≤ qv) = true := by simpa using h2
              have HR := Lib.hid (rise_no hkl (show okAt l (m + 1) = false by unfold okAt; rw [hat, Nat.add_sub_cancel, hat2]; first | (simp; done) | (simp; omega)))
              clear hp hat hkl hq hat2
              go_wp2_with fail
              go_quiet (fail)
              go_wp2_with fail
              go_ret
              exact ⟨by rw [HR.out]; rfl, below_drewN (hb.alloc hb.size _) _⟩
            · have hd2 : decide (pv ≤ qv) = false := by simpa using h2
              have HR := Lib.hid (show okAt l (m + 1) = true by unfold okAt; rw [hat, Nat.add_sub_cancel, hat2]; first | (simp; done) | (simp; omega))
              clear hp hat hkl hq hat2
              go_wp2_with fail
              go_quiet (fail)
              go_wp2_with fail
              go_roundw
              case rel => exact ⟨m + 1 + 1, by omega, by go_num, below_drewN (hb.alloc hb.size _) _, Lib.hid (all_succ HOK.out HR.out)⟩
              case measure => simp [intOf]; omega
    · have HR := Lib.hid (rise_yes (l := l) (fun i hi => HOK.out i (by have := HL.out; omega)))
      go_wp2_with fail
      go_ret
      exact ⟨by rw [HR.out]; rfl, hb⟩

set_option maxRecDepth 100000 in
set_option maxHeartbeats 2000000 in
theorem rrise_any {B n c : Nat} {A : Option Addr} {l : List Pr} (w : World) (h : Reads w B 2 A n (prCells l)) (hB : B ≤ w.heap.size) (hn : n ≤ 1000000) :
    Calls Try.prog 60 #[.slice A n c] w fun e w' => e = .returned (.bool (riseB l)) ∧ Below w.heap.size w w' := by
  have HL := Lib.hid (reads_plen h)
  go_enter Try.func60, Try.ntmps60
  go_wp2_with fail
  go_loopw [3] (fun i wr => ∃ k : Nat, k ≤ n ∧ i = .int .i64 k ∧ Below w.heap.size w wr ∧ Hid (∀ j, j < k → okAt l j = true)) (fun i _ => n - (intOf i).toNat)
  case atStart => exact ⟨0, Nat.zero_le _, rfl, Below.refl _ _, Lib.hid (fun j hj => absurd hj (by omega))⟩
  case round =>
    obtain ⟨k, hk, rfl, hb, HOK⟩ := hrel
    by_cases hlt : k < n
    · have hw := h.below (hb.mono hB)
      obtain ⟨ad, p, rfl, hab, hp, hc0, hc1⟩ := hw.pair hlt
      have hkl : k < l.length := by have := HL.out; omega
      obtain ⟨pv, px⟩ := p
      simp only at hc0 hc1
      have hat := at_some hp
      simp only at hat
      by_cases h0 : pv < 0
      · have hd0 : decide (pv < 0) = true := by simpa using h0
        cases k with
        | zero =>
          have ea : ad.add (0 * 2) = ad := by simp [Addr.add]
          rw [ea] at hc0 hc1
          clear ea
          have hvx : vertexB pv = false := by simp [vertexB]; omega
          have HR := Lib.hid (rise_no hkl (show okAt l 0 = false by unfold okAt; rw [hat]; first | (simp; done) | (simp; omega)))
          clear hp hat hkl
          go_wp2_with fail
          go_quiet ((go_at_call 57; exact quiet_v (rvertex_any _ _)))
          go_wp2_with fail
          go_ret
          exact ⟨by rw [HR.out]; rfl, below_drewN hb _⟩
        | succ k =>
          have hvx : vertexB pv = false := by simp [vertexB]; omega
          have HR := Lib.hid (rise_no hkl (show okAt l (k + 1) = false by unfold okAt; rw [hat]; first | (simp; done) | (simp; omega)))
          clear hp hat hkl
          go_wp2_with fail
          go_quiet ((go_at_call 57; exact quiet_v (rvertex_any _ _)))
          go_wp2_with fail
          go_ret
          exact ⟨by rw [HR.out]; rfl, below_drewN hb _⟩
      · have hd0 : decide (pv < 0) = false := by simpa using h0
        by_cases h1 : 65536 ≤ pv
        · have hd1 : decide (65536 ≤ pv) = true := by simpa using h1
          cases k with
          | zero =>
            have ea : ad.add (0 * 2) = ad := by simp [Addr.add]
            rw [ea] at hc0 hc1
            clear ea
            have hvx : vertexB pv = false := by simp [vertexB]; omega
            have HR := Lib.hid (rise_no hkl (show okAt l 0 = false by unfold okAt; rw [hat]; first | (simp; done) | (simp; omega)))
            clear hp hat hkl
            go_wp2_with fail
            go_quiet ((go_at_call 57; exact quiet_v (rvertex_any _ _)))
            go_wp2_with fail
            go_ret
            exact ⟨by rw [HR.out]; rfl, below_drewN hb _⟩
          | succ k =>
            have hvx : vertexB pv = false := by simp [vertexB]; omega
            have HR := Lib.hid (rise_no hkl (show okAt l (k + 1) = false by unfold okAt; rw [hat]; first | (simp; done) | (simp; omega)))
            clear hp hat hkl
            go_wp2_with fail
            go_quiet ((go_at_call 57; exact quiet_v (rvertex_any _ _)))
            go_wp2_with fail
            go_ret
            exact ⟨by rw [HR.out]; rfl, below_drewN hb _⟩
        · have hd1 : decide (65536 ≤ pv) = false := by simpa using h1
          have hvx : vertexB pv = true := by simp [vertexB]; omega
          cases k with
          | zero =>
            have ea : ad.add (0 * 2) = ad := by simp [Addr.add]
            rw [ea] at hc0 hc1
            clear ea
            have hdk : decide ((0 : Int) < ((0 : Nat) : Int)) = false := by simp
            have HR := Lib.hid (show okAt l (0) = true by unfold okAt; rw [hat]; first | (simp; done) | (simp; omega))
            clear hp hat hkl
            go_wp2_with fail
            go_quiet ((go_at_call 57; exact quiet_v (rvertex_any _ _)))
            go_wp2_with fail
            go_roundw
            case rel => exact ⟨0 + 1, by omega, by go_num, below_drewN hb _, Lib.hid (all_succ HOK.out HR.out)⟩
            case measure => simp [intOf]; omega
          | succ m =>
            obtain ⟨ad', q, e', _, hq, hq0, _⟩ := hw.pair (k := m) (by omega)
            injection e' with e'
            subst e'
            obtain ⟨qv, qx⟩ := q
            simp only at hq0
            have hat2 := at_some hq
            simp only at hat2
            have hdk : decide (0 < (m : Int) + 1) = true := decide_eq_true (by omega)
            have es : IntKind.i64.wrap ((m : Int) + 1 - 1) = (m : Int) := by rw [IntWalk.i64_in _ (by omega)]; omega
            have es2 : IntKind.i64.wrap (m : Int) = (m : Int) := IntWalk.i64_in _ (by omega)
            have hmn : (m : Int) < (n : Int) := by omega
            have hm0 : 0 ≤ (m : Int) := by omega
            have hbm : (ad.add (m * 2)).block < wr.heap.size := by rw [block_of_add]; have := hb.size; omega
            by_cases h2 : pv ≤ qv
            · have hd2 : decide (pv ≤ qv) = true := by simpa using h2
              have HR := Lib.hid (rise_no hkl (show okAt l (m + 1) = false by unfold okAt; rw [hat, Nat.add_sub_cancel, hat2]; first | (simp; done) | (simp; omega)))
              clear hp hat hkl hq hat2
              go_wp2_with fail
              go_quiet ((go_at_call 57; exact quiet_v (rvertex_any _ _)))
              go_wp2_with fail
              go_ret
              exact ⟨by rw [HR.out]; rfl, below_drewN hb _⟩
            · have hd2 : decide (pv ≤ qv) = false := by simpa using h2
              have HR := Lib.hid (show okAt l (m + 1) = true by unfold okAt; rw [hat, Nat.add_sub_cancel, hat2]; first | (simp; done) | (simp; omega))
              clear hp hat hkl hq hat2
              go_wp2_with fail
              go_quiet ((go_at_call 57; exact quiet_v (rvertex_any _ _)))
              go_wp2_with fail
              go_roundw
              case rel => exact ⟨m + 1 + 1, by omega, by go_num, below_drewN hb _, Lib.hid (all_succ HOK.out HR.out)⟩
              case measure => simp [intOf]; omega
    · have HR := Lib.hid (rise_yes (l := l) (fun i hi => HOK.out i (by have := HL.out; omega)))
      go_wp2_with fail
      go_ret
      exact ⟨by rw [HR.out]; rfl, hb⟩

end Go.Proofs.Ytejijghghbicdaa
