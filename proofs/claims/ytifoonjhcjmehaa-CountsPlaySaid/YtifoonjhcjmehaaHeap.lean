/-
  heap.Init and heap.Pop on a row of times, by contracts.
-/
import Derived.Test.YtifoonjhcjmehaaDown
namespace Go.Proofs.Ytifoonjhcjmehaa
open Go.RowKit
set_option linter.unusedSimpArgs false
set_option linter.unusedVariables false

theorem at_ext {a b : List Tm} (h : a.length = b.length) (hh : ∀ k, k < a.length → Tm.at_ a k = Tm.at_ b k) : a = b := by
  refine List.ext_getElem? fun k => ?_
  rcases Nat.lt_or_ge k a.length with hk | hk
  · rw [Tm.some_at hk, Tm.some_at (by omega), hh k hk]
  · rw [List.getElem?_eq_none hk, List.getElem?_eq_none (by omega)]
theorem at_drop {l : List Tm} {n k : Nat} : Tm.at_ (l.drop n) k = Tm.at_ l (n + k) := by unfold Tm.at_; simp [List.getD]
theorem perm_take {l l' : List Tm} {n : Nat} (hp : l'.Perm l) (h : ∀ k, n ≤ k → Tm.at_ l' k = Tm.at_ l k) : (l'.take n).Perm (l.take n) := by
  have hl := hp.length_eq
  have hd : l'.drop n = l.drop n := at_ext (by simp [hl]) fun k _ => by rw [at_drop, at_drop]; exact h _ (by omega)
  rw [← List.take_append_drop n l', ← List.take_append_drop n l, hd] at hp
  exact (List.perm_append_right_iff _).1 hp
theorem take_succ_at {l : List Tm} {n : Nat} (h : n < l.length) : l.take (n + 1) = l.take n ++ [Tm.at_ l n] := by
  rw [List.take_add_one, Tm.some_at h]; rfl

set_option maxRecDepth 100000 in
set_option maxHeartbeats 4000000 in
theorem init_any {g b N c : Nat} {l : List Tm} (w : World) (K : TBlk w g l) (KB : Blk w b 60 #[.slice (some ⟨g, 0, none⟩) N c]) (hgb : g ≠ b)
    (hN : N ≤ l.length) (hbig : N ≤ 1000000) :
    Calls Try.prog 40 #[.iface 62 (.pointer (some ⟨b, 0, none⟩))] w fun e w' => e = .returned (.tuple #[]) ∧
      ∃ l' : List Tm, l'.Perm l ∧ HeapFrom l' N 0 ∧ (∀ k, N ≤ k → Tm.at_ l' k = Tm.at_ l k) ∧ TBlk w' g l' ∧ Touch [g] w w' := by
  have hs0 : HeapFrom l N (N / 2) := HeapFrom.none (by omega)
  have HS0 := Lib.hid hs0
  have HK := Lib.hid K
  have HKB := Lib.hid KB
  have hm := m_len KB
  have hq : Int.tdiv (N : Int) 2 = (N : Int) / 2 := Int.tdiv_eq_ediv_of_nonneg (by omega)
  clear hs0 K KB
  go_enter Try.func40, Try.ntmps40
  go_wp2_with fail
  refine (hlen_any _).mono ?_
  rintro e w1 ⟨rfl, rfl⟩
  go_wp2_with fail
  go_loopw [3] (fun v wr => ∃ (m : Nat) (l' : List Tm), v = .int .i64 ((m : Int) - 1) ∧ m ≤ N ∧ Hid (l'.length = l.length) ∧ Hid (HeapFrom l' N m) ∧ Hid (l'.Perm l) ∧ Hid (∀ k, N ≤ k → Tm.at_ l' k = Tm.at_ l k) ∧ Hid (TBlk wr g l') ∧ Hid (Touch [g] w1 wr)) (fun v _ => (intOf v + 1).toNat)
  case atStart => exact ⟨N / 2, l, by go_num, by omega, Lib.hid rfl, HS0, Lib.hid (List.Perm.refl _), Lib.hid (fun _ _ => rfl), HK, Lib.hid (Touch.refl _ _)⟩
  case round =>
    obtain ⟨m, l', rfl, hmn, HL, HS, HPM, HA, K, T⟩ := hrel
    have KB := HKB.out.touch T.out (by simp; omega)
    by_cases h1 : 1 ≤ m
    · obtain ⟨i, rfl⟩ : ∃ i, m = i + 1 := ⟨m - 1, by omega⟩
      have E : ((i + 1 : Nat) : Int) - 1 = (i : Int) := by omega
      rw [E]
      go_wp2_with fail
      refine (down_any _ K.out KB hgb (by have := HL.out; omega) (Nat.le_refl _) hbig (by omega) HS.out).mono ?_
      rintro e w2 ⟨r, l2, rfl, hp2, hs2, ha2, K2, T2⟩
      go_wp2_with fail
      go_roundw
      case rel => exact ⟨i, l2, by go_num, by omega, Lib.hid (hp2.length_eq.trans HL.out), Lib.hid hs2, Lib.hid (hp2.trans HPM.out), Lib.hid (fun k hk => (ha2 k hk).trans (HA.out k hk)), Lib.hid K2, Lib.hid (T.out.trans T2)⟩
      case measure => simp [intOf]
    · obtain rfl : m = 0 := by omega
      go_wp2_with fail
      go_end0
      exact ⟨rfl, l', HPM.out, HS.out, HA.out, K.out, T.out⟩

set_option maxRecDepth 100000 in
set_option maxHeartbeats 4000000 in
theorem pop_any {g b N c : Nat} {l : List Tm} (w : World) (K : TBlk w g l) (KB : Blk w b 60 #[.slice (some ⟨g, 0, none⟩) (N + 1) c]) (hgb : g ≠ b)
    (hN : N + 1 ≤ l.length) (hbig : N + 1 ≤ 1000000) (hc : N + 1 ≤ c) (hf : HeapFrom l (N + 1) 0) :
    Calls Try.prog 42 #[.iface 62 (.pointer (some ⟨b, 0, none⟩))] w fun e w' => e = .returned (.iface 33 (tmv (Tm.at_ l 0))) ∧
      ∃ l' : List Tm, (l'.take N ++ [Tm.at_ l 0]).Perm (l.take (N + 1)) ∧ l'.length = l.length ∧ HeapFrom l' N 0 ∧ TBlk w' g l' ∧ Blk w' b 60 #[.slice (some ⟨g, 0, none⟩) N c] ∧ Touch [g, b] w w' := by
  have hm1 := m_len KB
  have hm2 := m_swap KB
  have HKB := Lib.hid KB
  have HK := Lib.hid K
  have HF := Lib.hid hf
  clear K KB hf
  go_enter Try.func42, Try.ntmps42
  go_wp2_with fail
  refine (hlen_any _).mono ?_
  rintro e w1 ⟨rfl, rfl⟩
  go_wp2_with fail
  refine (hswap_k (i := 0) (j := N) _ HK.out hN (by omega) (by omega) hbig (by omega) (by omega)).mono ?_
  rintro e w2 ⟨rfl, K2, T2⟩
  have KB2 := HKB.out.touch T2 (by simp; omega)
  go_wp2_with fail
  refine (down_any (i0 := 0) (n := N) _ K2 KB2 hgb (by simpa using hN) (by omega) hbig (by omega) (HF.out.popped (by omega))).mono ?_
  rintro e w3 ⟨r, l3, rfl, hp3, hf3, ha3, K3, T3⟩
  have KB3 := KB2.touch T3 (by simp; omega)
  have hm3 := m_pop b w3
  have hl3 : l3.length = l.length := by rw [hp3.length_eq, swapT_length]
  have hlast : Tm.at_ l3 N = Tm.at_ l 0 := by rw [ha3 N (Nat.le_refl _), swapT_at (by omega) (by omega), if_pos rfl]
  have hperm : (l3.take N ++ [Tm.at_ l 0]).Perm (l.take (N + 1)) := by
    rw [← hlast, ← take_succ_at (by omega)]
    exact perm_take (hp3.trans (swapT_perm (by omega) (by omega))) fun k hk => (ha3 k (by omega)).trans (swapT_other (by omega) (by omega) (by omega) (by omega))
  have HLAST := Lib.hid hlast
  have HP := Lib.hid hperm
  clear hlast hperm ha3
  go_wp2_with fail
  refine (hpop_any _ K3 KB3 (by omega) hc (by omega)).mono ?_
  rintro e w4 ⟨rfl, KB4, T4⟩
  go_wp2_with fail
  go_ret
  exact ⟨by rw [← HLAST.out]; rfl, l3, HP.out, hl3, hf3, K3.touch T4 (by simp; omega), KB4, ((T2.more (by simp)).trans (T3.more (by simp))).trans (T4.more (by simp))⟩
end Go.Proofs.Ytifoonjhcjmehaa
