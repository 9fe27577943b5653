/-
  The reference's Rise and Reply at slices of any length: a long row of pairs does not rise.
-/
import Derived.Test.YtejijghghbicdaaWireReply
namespace Go.Proofs.Ytejijghghbicdaa
open Go.RowKit
set_option linter.unusedSimpArgs false
set_option linter.unusedVariables false
set_option maxRecDepth 100000 in
set_option maxHeartbeats 2000000 in
theorem rrise_big {B n c : Nat} {A : Option Addr} {l : List Pr} (w : World) (h : Reads w B 2 A n (prCells l)) (hB : B ≤ w.heap.size) (hn : n ≤ 9223372036854775807) :
    Calls Try.prog 60 #[.slice A n c] w fun e w' => e = .returned (.bool (riseB l)) ∧ Below w.heap.size w w' := by
  have HL := Lib.hid (reads_plen h)
  go_enter Try.func60, Try.ntmps60
  go_wp2_with fail
  go_loopw [3] (fun i wr => ∃ k : Nat, k ≤ n ∧ i = .int .i64 k ∧ Below w.heap.size w wr ∧ Hid (∀ j, j < k → okAt l j = true)) (fun i _ => n - (intOf i).toNat)
  case atStart => exact ⟨0, Nat.zero_le _, rfl, Below.refl _ _, Lib.hid (fun j hj => absurd hj (by omega))⟩
  case round =>
    obtain ⟨k, hk, rfl, hb, HOK⟩ := hrel
    by_cases hlt : k < n
    · have hw := h.below (hb.mono hB)
      obtain ⟨ad, p, rfl, hab, hp, hc0, hc1⟩ := hw.pair hlt
      have hkl : k < l.length := by have := HL.out; omega
      obtain ⟨pv, px⟩ := p
      simp only at hc0 hc1
      have hat := at_some hp
      simp only at hat
      by_cases h0 : pv < 0
      · have hd0 : decide (pv < 0) = true := by simpa using h0
        cases k with
        | zero =>
          have ea : ad.add (0 * 2) = ad := by simp [Addr.add]
          rw [ea] at hc0 hc1
          clear ea
          have hvx : vertexB pv = false := by simp [vertexB]; omega
          have HR := Lib.hid (rise_no hkl (show okAt l 0 = false by unfold okAt; rw [hat]; first | (simp; done) | (simp; omega)))
          clear hp hat hkl
          go_wp2_with fail
          go_quiet ((go_at_call 57; exact quiet_v (rvertex_any _ _)))
          go_wp2_with fail
          go_ret
          exact ⟨by rw [HR.out]; rfl, below_drewN hb _⟩
        | succ k =>
          have hvx : vertexB pv = false := by simp [vertexB]; omega
          have HR := Lib.hid (rise_no hkl (show okAt l (k + 1) = false by unfold okAt; rw [hat]; first | (simp; done) | (simp; omega)))
          clear hp hat hkl
          go_wp2_with fail
          go_quiet ((go_at_call 57; exact quiet_v (rvertex_any _ _)))
          go_wp2_with fail
          go_ret
          exact ⟨by rw [HR.out]; rfl, below_drewN hb _⟩
      · have hd0 : decide (pv < 0) = false := by simpa using h0
        by_cases h1 : 65536 ≤ pv
        · have hd1 : decide (65536 ≤ pv) = true := by simpa using h1
          cases k with
          | zero =>
            have ea : ad.add (0 * 2) = ad := by simp [Addr.add]
            rw [ea] at hc0 hc1
            clear ea
            have hvx : vertexB pv = false := by simp [vertexB]; omega
            have HR := Lib.hid (rise_no hkl (show okAt l 0 = false by unfold okAt; rw [hat]; first | (simp; done) | (simp; omega)))
            clear hp hat hkl
            go_wp2_with fail
            go_quiet ((go_at_call 57; exact quiet_v (rvertex_any _ _)))
            go_wp2_with fail
            go_ret
            exact ⟨by rw [HR.out]; rfl, below_drewN hb _⟩
          | succ k =>
            have hvx : vertexB pv = false := by simp [vertexB]; omega
            have HR := Lib.hid (rise_no hkl (show okAt l (k + 1) = false by unfold okAt; rw [hat]; first | (simp; done) | (simp; omega)))
            clear hp hat hkl
            go_wp2_with fail
            go_quiet ((go_at_call 57; exact quiet_v (rvertex_any _ _)))
            go_wp2_with fail
            go_ret
            exact ⟨by rw [HR.out]; rfl, below_drewN hb _⟩
        · have hd1 : decide (65536 ≤ pv) = false := by simpa using h1
          have hvx : vertexB pv = true := by simp [vertexB]; omega
          cases k with
          | zero =>
            have ea : ad.add (0 * 2) = ad := by simp [Addr.add]
            rw [ea] at hc0 hc1
            clear ea
            have hdk : decide ((0 : Int) < ((0 : Nat) : Int)) = false := by simp
            have HR := Lib.hid (show okAt l (0) = true by unfold okAt; rw [hat]; first | (simp; done) | (simp; omega))
            clear hp hat hkl
            go_wp2_with fail
            go_quiet ((go_at_call 57; exact quiet_v (rvertex_any _ _)))
            go_wp2_with fail
            go_roundw
            case rel => exact ⟨0 + 1, by omega, by go_num, below_drewN hb _, Lib.hid (all_succ HOK.out HR.out)⟩
            case measure => simp [intOf]; omega
          | succ m =>
            obtain ⟨ad', q, e', _, hq, hq0, _⟩ := hw.pair (k := m) (by omega)
            injection e' with e'
            subst e'
            obtain ⟨qv, qx⟩ := q
            simp only at hq0
            have hat2 := at_some hq
            simp only at hat2
            have hdk : decide (0 < (m : Int) + 1) = true := decide_eq_true (by omega)
            have es : IntKind.i64.wrap ((m : Int) + 1 - 1) = (m : Int) := by rw [IntWalk.i64_in _ (by omega)]; omega
            have es2 : IntKind.i64.wrap (m : Int) = (m : Int) := IntWalk.i64_in _ (by omega)
            have hmn : (m : Int) < (n : Int) := by omega
            have hm0 : 0 ≤ (m : Int) := by omega
            have hbm : (ad.add (m * 2)).block < wr.heap.size := by rw [block_of_add]; have := hb.size; omega
            by_cases h2 : pv ≤ qv
            · have hd2 : decide (pv ≤ qv) = true := by simpa using h2
              have HR := Lib.hid (rise_no hkl (show okAt l (m + 1) = false by unfold okAt; rw [hat, Nat.add_sub_cancel, hat2]; first | (simp; done) | (simp; omega)))
              clear hp hat hkl hq hat2
              go_wp2_with fail
              go_quiet ((go_at_call 57; exact quiet_v (rvertex_any _ _)))
              go_wp2_with fail
              go_ret
              exact ⟨by rw [HR.out]; rfl, below_drewN hb _⟩
            · have hd2 : decide (pv ≤ qv) = false := by simpa using h2
              have HR := Lib.hid (show okAt l (m + 1) = true by unfold okAt; rw [hat, Nat.add_sub_cancel, hat2]; first | (simp; done) | (simp; omega))
              clear hp hat hkl hq hat2
              go_wp2_with fail
              go_quiet ((go_at_call 57; exact quiet_v (rvertex_any _ _)))
              go_wp2_with fail
              go_roundw
              case rel => exact ⟨m + 1 + 1, by omega, by go_num, below_drewN hb _, Lib.hid (all_succ HOK.out HR.out)⟩
              case measure => simp [intOf]; omega
    · have HR := Lib.hid (rise_yes (l := l) (fun i hi => HOK.out i (by have := HL.out; omega)))
      go_wp2_with fail
      go_ret
      exact ⟨by rw [HR.out]; rfl, hb⟩


set_option maxHeartbeats 1000000 in
theorem rrepx_no_id {m c : Nat} {A : Option Addr} (id e : Int) (d : Bool) (w : World) (h : id < 0) : Calls Try.prog 45 #[.agg #[.int .i64 id, .int .i64 e, .bool d, .slice A m c]] w fun e w' => e = .returned (.tuple #[.slice none 0 0, .int .i64 1]) ∧ Below w.heap.size w w' := by
  go_enter Try.func45, Try.ntmps45
  go_wp2_with fail
  all_goals
    go_ret2
    exact ⟨rfl, (Below.refl _ _).alloc (Nat.le_refl _) _⟩


set_option maxHeartbeats 1000000 in
theorem rrepx_no_e0 {m c : Nat} {A : Option Addr} (id e : Int) (d : Bool) (w : World) (h0 : ¬ id < 0) (h : e < 0) : Calls Try.prog 45 #[.agg #[.int .i64 id, .int .i64 e, .bool d, .slice A m c]] w fun e w' => e = .returned (.tuple #[.slice none 0 0, .int .i64 1]) ∧ Below w.heap.size w w' := by
  go_enter Try.func45, Try.ntmps45
  go_wp2_with fail
  all_goals
    go_ret2
    exact ⟨rfl, (Below.refl _ _).alloc (Nat.le_refl _) _⟩


set_option maxHeartbeats 1000000 in
theorem rrepx_no_e1 {m c : Nat} {A : Option Addr} (id e : Int) (d : Bool) (w : World) (h0 : ¬ id < 0) (h1 : ¬ e < 0) (h : 255 < e) : Calls Try.prog 45 #[.agg #[.int .i64 id, .int .i64 e, .bool d, .slice A m c]] w fun e w' => e = .returned (.tuple #[.slice none 0 0, .int .i64 1]) ∧ Below w.heap.size w w' := by
  go_enter Try.func45, Try.ntmps45
  go_wp2_with fail
  all_goals
    go_ret2
    exact ⟨rfl, (Below.refl _ _).alloc (Nat.le_refl _) _⟩


set_option maxRecDepth 100000 in
set_option maxHeartbeats 2000000 in
theorem rrepx_no_rise {B m c : Nat} {A : Option Addr} {l : List Pr} (id e : Int) (d : Bool) (w : World) (hl : Reads w B 2 A m (prCells l)) (hB : B ≤ w.heap.size) (hm : m ≤ 9223372036854775807) (h0 : ¬ id < 0) (h1 : ¬ e < 0) (h2 : ¬ 255 < e) (hri : riseB l = false) : Calls Try.prog 45 #[.agg #[.int .i64 id, .int .i64 e, .bool d, .slice A m c]] w fun e w' => e = .returned (.tuple #[.slice none 0 0, .int .i64 1]) ∧ Below w.heap.size w w' := by
  have HRI := Lib.hid hri
  clear hri
  go_enter Try.func45, Try.ntmps45
  go_wp2_with fail
  refine (rrise_big (B := B) _ (hl.alloc hB _) (by simp; omega) hm).mono ?_
  rw [HRI.out]
  rintro en w1 ⟨rfl, hb⟩
  have K0 := Blk.on (g := w.heap.size) (t := 59) (cs := #[.int .i64 id, .int .i64 e, .bool d, .slice A m c]) (by repeat (first | exact Blk.at_ _ _ _ (by simp) | refine Blk.alloc ?_ _)) hb
  have HB := below_after ((Below.refl w.heap.size w).alloc (Nat.le_refl _) _) hb (by simp)
  have HL1 := Lib.hid (hl.below (HB.mono hB))
  have c0 := K0.c
  have z0 := K0.lt
  clear hb
  go_wp2_with fail
  go_ret2
  exact ⟨rfl, HB⟩


set_option maxRecDepth 100000 in
set_option maxHeartbeats 2000000 in
theorem rrepx_no_done {B m c : Nat} {A : Option Addr} {l : List Pr} (id e : Int) (w : World) (hl : Reads w B 2 A m (prCells l)) (hB : B ≤ w.heap.size) (hm : m ≤ 9223372036854775807) (h0 : ¬ id < 0) (h1 : ¬ e < 0) (h2 : ¬ 255 < e) (hri : riseB l = true) (he : ¬ e = 0) : Calls Try.prog 45 #[.agg #[.int .i64 id, .int .i64 e, .bool true, .slice A m c]] w fun e w' => e = .returned (.tuple #[.slice none 0 0, .int .i64 1]) ∧ Below w.heap.size w w' := by
  have he2 : (e != 0) = true := by simpa using he
  clear he
  have HRI := Lib.hid hri
  clear hri
  go_enter Try.func45, Try.ntmps45
  go_wp2_with fail
  refine (rrise_big (B := B) _ (hl.alloc hB _) (by simp; omega) hm).mono ?_
  rw [HRI.out]
  rintro en w1 ⟨rfl, hb⟩
  have K0 := Blk.on (g := w.heap.size) (t := 59) (cs := #[.int .i64 id, .int .i64 e, .bool true, .slice A m c]) (by repeat (first | exact Blk.at_ _ _ _ (by simp) | refine Blk.alloc ?_ _)) hb
  have HB := below_after ((Below.refl w.heap.size w).alloc (Nat.le_refl _) _) hb (by simp)
  have HL1 := Lib.hid (hl.below (HB.mono hB))
  have c0 := K0.c
  have z0 := K0.lt
  clear hb
  go_wp2_with fail
  go_ret2
  exact ⟨rfl, HB⟩


set_option maxRecDepth 100000 in
set_option maxHeartbeats 2000000 in
theorem rrepx_no_some {B m c : Nat} {A : Option Addr} {l : List Pr} (id e : Int) (w : World) (hl : Reads w B 2 A m (prCells l)) (hB : B ≤ w.heap.size) (hm : m ≤ 9223372036854775807) (h0 : ¬ id < 0) (h1 : ¬ e < 0) (h2 : ¬ 255 < e) (hri : riseB l = true) (he : ¬ e = 0) (hm0 : 0 < m) : Calls Try.prog 45 #[.agg #[.int .i64 id, .int .i64 e, .bool false, .slice A m c]] w fun e w' => e = .returned (.tuple #[.slice none 0 0, .int .i64 1]) ∧ Below w.heap.size w w' := by
  have he2 : (e != 0) = true := by simpa using he
  clear he
  have HRI := Lib.hid hri
  clear hri
  go_enter Try.func45, Try.ntmps45
  go_wp2_with fail
  refine (rrise_big (B := B) _ (hl.alloc hB _) (by simp; omega) hm).mono ?_
  rw [HRI.out]
  rintro en w1 ⟨rfl, hb⟩
  have K0 := Blk.on (g := w.heap.size) (t := 59) (cs := #[.int .i64 id, .int .i64 e, .bool false, .slice A m c]) (by repeat (first | exact Blk.at_ _ _ _ (by simp) | refine Blk.alloc ?_ _)) hb
  have HB := below_after ((Below.refl w.heap.size w).alloc (Nat.le_refl _) _) hb (by simp)
  have HL1 := Lib.hid (hl.below (HB.mono hB))
  have c0 := K0.c
  have z0 := K0.lt
  clear hb
  go_wp2_with fail
  go_ret2
  exact ⟨rfl, HB⟩


theorem rrepx_no {B m c : Nat} {A : Option Addr} {l : List Pr} (id e : Int) (d : Bool) (w : World) (hl : Reads w B 2 A m (prCells l)) (hB : B ≤ w.heap.size) (hm : m ≤ 9223372036854775807) (h : repB id e d l = false) : Calls Try.prog 45 #[.agg #[.int .i64 id, .int .i64 e, .bool d, .slice A m c]] w fun e w' => e = .returned (.tuple #[.slice none 0 0, .int .i64 1]) ∧ Below w.heap.size w w' := by
  have hll := reads_plen hl
  by_cases h0 : id < 0
  · exact rrepx_no_id id e d w h0
  by_cases h1 : e < 0
  · exact rrepx_no_e0 id e d w h0 h1
  by_cases h2 : 255 < e
  · exact rrepx_no_e1 id e d w h0 h1 h2
  cases hri : riseB l
  · exact rrepx_no_rise id e d w hl hB hm h0 h1 h2 hri
  have d0 : decide (0 ≤ id) = true := by simpa using h0
  have d1 : decide (0 ≤ e ∧ e ≤ 255) = true := by simp; omega
  unfold repB at h
  rw [d0, d1, hri] at h
  by_cases he : e = 0
  · simp [he] at h
  cases d
  · exact rrepx_no_some id e w hl hB hm h0 h1 h2 hri he (by cases l with | nil => simp at h | cons a t => simp at hll; omega)
  · exact rrepx_no_done id e w hl hB hm h0 h1 h2 hri he

theorem rise_from {l : List Pr} (h : riseB l = true) : ∀ i, i < l.length → (i : Int) ≤ Pr.at_ l i ∧ Pr.at_ l i < 65536 := by
  unfold riseB at h
  rw [List.all_eq_true] at h
  intro i
  induction i with
  | zero =>
    intro hi
    have := h 0 (by simpa using hi)
    unfold okAt at this
    simp at this; omega
  | succ i ih =>
    intro hi
    have h1 := ih (by omega)
    have := h (i + 1) (by simpa using hi)
    unfold okAt at this
    simp at this; omega
theorem rise_short {l : List Pr} (h : riseB l = true) : l.length ≤ 65536 := by
  rcases Nat.eq_zero_or_pos l.length with h0 | h0
  · omega
  · have := rise_from h (l.length - 1) (by omega); omega
theorem repB_short {id e : Int} {d : Bool} {l : List Pr} (h : repB id e d l = true) : l.length ≤ 65536 := by
  unfold repB at h
  simp only [Bool.and_eq_true] at h
  exact rise_short h.1.2
/-- Whatever reply comes: some answer. -/
theorem rrep_gen {B m c : Nat} {A : Option Addr} {l : List Pr} (id e : Int) (d : Bool) (w : World) (hl : Reads w B 2 A m (prCells l)) (hB : B ≤ w.heap.size) (hm : m ≤ 9223372036854775807) (hid : IN64 id) (hok : ∀ p ∈ l, p.ok) :
    Calls Try.prog 45 #[.agg #[.int .i64 id, .int .i64 e, .bool d, .slice A m c]] w fun en w' => ∃ v z, en = .returned (.tuple #[v, .int .i64 z]) ∧ Below w.heap.size w w' := by
  cases h : repB id e d l
  · exact (rrepx_no id e d w hl hB hm h).mono fun _ _ ⟨he, hb⟩ => ⟨_, _, he, hb⟩
  · have := repB_short h
    have hll := reads_plen hl
    exact (rrep_yes id e d w hl hB (by omega) hid hok h).mono fun _ _ ⟨v, he, _, hb⟩ => ⟨_, _, he, hb⟩
end Go.Proofs.Ytejijghghbicdaa
