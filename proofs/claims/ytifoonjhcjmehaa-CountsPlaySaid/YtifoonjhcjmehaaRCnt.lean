/-
  The reference's Counts in memory; its Of, by contract.
-/
import Derived.Test.YtifoonjhcjmehaaBackLaw
namespace Go.Proofs.Ytifoonjhcjmehaa
open Go.RowKit
set_option linter.unusedSimpArgs false
set_option linter.unusedVariables false

def acOf (L : Cnt) : List Ac := L.map fun p => ⟨p.1, p.2⟩
@[simp] theorem acOf_length (L : Cnt) : (acOf L).length = L.length := by simp [acOf]
theorem acOf_append (a b : Cnt) : acOf (a ++ b) = acOf a ++ acOf b := by simp [acOf]
theorem acOf_at {L : Cnt} {k : Nat} (h : k < L.length) : L[k]? = some ((acAt (acOf L) k).t, (acAt (acOf L) k).n) := by
  have h1 : (acOf L)[k]? = some (acAt (acOf L) k) := acAt_some (by simpa using h)
  simp only [acOf, List.getElem?_map, Option.map_eq_some_iff] at h1
  obtain ⟨p, hp, he⟩ := h1
  have he' : acAt (acOf L) k = ⟨p.1, p.2⟩ := he.symm
  rw [he', hp]
theorem acOf_mem {L : Cnt} {k : Nat} (h : k < L.length) : ((acAt (acOf L) k).t, (acAt (acOf L) k).n) ∈ L := List.mem_of_getElem? (acOf_at h)
theorem ofL_none {L : Cnt} {t : Tm} {n : Nat} (hn : L.length = n) (h : ∀ j, j < n → (acAt (acOf L) j).t ≠ t) : ofL L t = 0 := by
  by_cases hz : ofL L t = 0
  · exact hz
  · obtain ⟨k, hk, he⟩ := List.mem_iff_getElem.1 (mem_ofL hz)
    have h1 := acOf_at hk
    rw [List.getElem?_eq_getElem hk, he] at h1
    injection h1 with h1
    have h2 : t = (acAt (acOf L) k).t := congrArg Prod.fst h1
    exact absurd h2.symm (h k (by omega))
theorem ofL_here {L : Cnt} (hc : Canon L) {k : Nat} (h : k < L.length) {t : Tm} (ht : (acAt (acOf L) k).t = t) : ofL L t = (acAt (acOf L) k).n := by
  subst ht
  exact ofL_mem hc.rise _ (acOf_mem h)
/-- The reference's counts: a block with a slice, the slice's own row. -/
structure RC (w : World) (B g : Nat) (L : Cnt) : Prop where
  box : ∃ (A : Option Addr) (n c : Nat), Blk w g 30 #[.slice A n c] ∧ L.length = n ∧ w.ownsRow B 52 3 (.slice A n c) n (acCells (acOf L))
  lo : B ≤ g
  canon : Canon L
theorem RC.on {w w' : World} {B g : Nat} {L : Cnt} (h : RC w B g L) (hb : Below w.heap.size w w') : RC w' B g L := by
  obtain ⟨⟨A, n, c, K, hn, ho⟩, h1, h2⟩ := h
  exact ⟨⟨A, n, c, K.on hb, hn, (Keep.of_below hb).own ho (by decide)⟩, h1, h2⟩
theorem RC.keep {w w' : World} {B g : Nat} {L : Cnt} (h : RC w B g L) (hk : Keep w w') : RC w' B g L := by
  obtain ⟨⟨A, n, c, K, hn, ho⟩, h1, h2⟩ := h
  exact ⟨⟨A, n, c, hk.blk K (by decide), hn, hk.own ho (by decide)⟩, h1, h2⟩
theorem cnt_own {w : World} {B n : Nat} {A : Option Addr} {c : Nat} {l : List Ac} (h : w.ownsRow B 52 3 (.slice A n c) n (acCells l)) : Acs w w.heap.size A n l := Reads.of_own h

set_option maxRecDepth 100000 in
set_option maxHeartbeats 2000000 in
theorem rof_any {B g : Nat} {L : Cnt} {t : Tm} {r : Int} (w : World) (h : RC w B g L) (hr : ofL L t = r) (hlen : L.length ≤ 1000000) :
    Calls Try.prog 15 #[.pointer (some ⟨g, 0, none⟩), tmv t] w fun e w' => e = .returned (.int .i64 r) ∧ Below w.heap.size w w' := by
  obtain ⟨⟨A, n, c, K, hn, ho⟩, _, hcan⟩ := h
  have HN := Lib.hid hn
  have HR := Lib.hid hr
  have HCAN := Lib.hid hcan
  have HA := Lib.hid (cnt_own ho)
  have hnb : n ≤ 1000000 := by omega
  have KG := K.alloc (.cells #[.int .i64 t.e, .int .i64 t.l] 33)
  have c0 := KG.c
  have z0 := KG.lt
  have f0 := KG.f
  clear ho hn hr hcan hlen
  go_enter Try.func15, Try.ntmps15
  go_wp2_with fail
  go_loopw [5] (fun v wr => ∃ k : Nat, k ≤ n ∧ v = .int .i64 k ∧ Below w.heap.size w wr ∧ Blk wr w.heap.size 33 #[.int .i64 t.e, .int .i64 t.l] ∧ Hid (∀ j, j < k → (acAt (acOf L) j).t ≠ t)) (fun v _ => n - (intOf v).toNat)
  case atStart => exact ⟨0, Nat.zero_le _, rfl, (Below.refl _ _).alloc (Nat.le_refl _) _, Blk.new _ _ _, Lib.hid (fun j hj => absurd hj (by omega))⟩
  case round =>
    clear c0 z0 f0 KG
    obtain ⟨k, hk, rfl, HB, KT, HNO⟩ := hrel
    have KG := K.on HB
    have c1 := KG.c
    have z1 := KG.lt
    have f1 := KG.f
    have c0 := KT.c
    have z0 := KT.lt
    have f0 := KT.f
    by_cases hlt : k < n
    · obtain ⟨ad, rfl, hab, hmem, hc0, hc1, hc2⟩ := Acs.ac (HA.out.below HB) hlt
      obtain ⟨x, hx⟩ : ∃ x, acAt (acOf L) k = x := ⟨_, rfl⟩
      rw [hx] at hmem hc0 hc1 hc2
      have HX := Lib.hid hx
      have HKL : Hid (k < L.length) := Lib.hid (by have := HN.out; omega)
      have hq : ∀ w, (binOp .eql 33 (.agg #[.int .i64 x.t.e, .int .i64 x.t.l]) (.agg #[.int .i64 t.e, .int .i64 t.l])).run Try.prog w = .ok (.bool (decide (x.t = t))) w := run_tm (by simp)
      clear hx hmem
      by_cases he : x.t = t
      · have hde : decide (x.t = t) = true := by simp [he]
        rw [hde] at hq
        have HE := Lib.hid he
        clear hde he
        go_wp2_with fail
        go_quiet (fail)
        go_wp2_with fail
        go_ret
        exact ⟨by rw [← HR.out, ofL_here HCAN.out HKL.out (by rw [HX.out]; exact HE.out), HX.out]; rfl, below_drewN HB _⟩
      · have hde : decide (x.t = t) = false := by simp [he]
        rw [hde] at hq
        have HE := Lib.hid he
        clear hde he
        go_wp2_with fail
        go_quiet (fail)
        go_wp2_with fail
        go_roundw
        case rel => exact ⟨k + 1, by omega, by go_num, below_drewN HB _, KT, Lib.hid (all_succ HNO.out (by rw [HX.out]; exact HE.out))⟩
        case measure => simp [intOf]; omega
    · obtain rfl : n = k := by omega
      go_wp2_with fail
      go_ret
      exact ⟨by rw [← HR.out, ofL_none HN.out HNO.out]; rfl, HB⟩
end Go.Proofs.Ytifoonjhcjmehaa
