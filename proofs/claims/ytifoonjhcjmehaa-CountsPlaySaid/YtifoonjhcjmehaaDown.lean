/-
  heap.down on a row of times, by contract.
-/
import Derived.Test.YtifoonjhcjmehaaHeapS
namespace Go.Proofs.Ytifoonjhcjmehaa
open Go.RowKit
set_option linter.unusedSimpArgs false
set_option linter.unusedVariables false

/-! The methods that an interface value with a heap of times holds. -/
theorem m_len0 (b : Nat) (W : World) : (method 224 62 (.pointer (some ⟨b, 0, none⟩)) "Len").run Try.prog W = (do let v ← loadVar 60 ⟨b, 0, none⟩; pure (41, v) : Sem (FuncId × Value)).run Try.prog W := by kernel_rfl
theorem m_len {b : Nat} {W : World} {v : Value} {t : TypeId} (h : Blk W b t #[v]) : (method 224 62 (.pointer (some ⟨b, 0, none⟩)) "Len").run Try.prog W = .ok (41, v) W := by
  rw [m_len0]
  have c := h.c 0
  go_simp
theorem m_less0 (b : Nat) (W : World) : (method 224 62 (.pointer (some ⟨b, 0, none⟩)) "Less").run Try.prog W = (do let v ← loadVar 60 ⟨b, 0, none⟩; pure (92, v) : Sem (FuncId × Value)).run Try.prog W := by kernel_rfl
theorem m_less {b : Nat} {W : World} {v : Value} {t : TypeId} (h : Blk W b t #[v]) : (method 224 62 (.pointer (some ⟨b, 0, none⟩)) "Less").run Try.prog W = .ok (92, v) W := by
  rw [m_less0]
  have c := h.c 0
  go_simp
theorem m_swap0 (b : Nat) (W : World) : (method 224 62 (.pointer (some ⟨b, 0, none⟩)) "Swap").run Try.prog W = (do let v ← loadVar 60 ⟨b, 0, none⟩; pure (93, v) : Sem (FuncId × Value)).run Try.prog W := by kernel_rfl
theorem m_swap {b : Nat} {W : World} {v : Value} {t : TypeId} (h : Blk W b t #[v]) : (method 224 62 (.pointer (some ⟨b, 0, none⟩)) "Swap").run Try.prog W = .ok (93, v) W := by
  rw [m_swap0]
  have c := h.c 0
  go_simp
theorem m_pop (b : Nat) (W : World) : (method 224 62 (.pointer (some ⟨b, 0, none⟩)) "Pop").run Try.prog W = .ok (94, .pointer (some ⟨b, 0, none⟩)) W := by kernel_rfl

theorem TBlk.tms {w : World} {g N : Nat} {l : List Tm} (h : TBlk w g l) (hN : N ≤ l.length) : Tms w (g + 1) (some ⟨g, 0, none⟩) N (l.take N) := by
  refine ⟨by simp; omega, fun h0 => ⟨_, rfl, Nat.lt_succ_self g, fun j u hu => ?_⟩⟩
  rw [tmCells_take, List.getElem?_take] at hu
  split at hu
  · rw [Addr.add_lit]
    exact h.c (by simpa using hu)
  · cases hu
theorem at_take {l : List Tm} {n k : Nat} (h : k < n) : Tm.at_ (l.take n) k = Tm.at_ l k := by unfold Tm.at_; simp [List.getD, h]
theorem swapT_other {l : List Tm} {i j k : Nat} (hi : i < l.length) (hj : j < l.length) (h1 : k ≠ i) (h2 : k ≠ j) : Tm.at_ (swapT l i j) k = Tm.at_ l k := by rw [swapT_at hi hj, if_neg h2, if_neg h1]
theorem hless_k {g N c i j : Nat} {l : List Tm} {r : Bool} {x y : Int} (w : World) (K : TBlk w g l) (hN : N ≤ l.length) (hi : i < N) (hj : j < N) (hbig : N ≤ 1000000) (hx : x = i) (hy : y = j) (hr : (Tm.at_ l i).ahead (Tm.at_ l j) = r) :
    Calls Try.prog 92 #[.slice (some ⟨g, 0, none⟩) N c, .int .i64 x, .int .i64 y] w fun e w' => e = .returned (.bool r) ∧ Below w.heap.size w w' := by
  subst hx hy
  exact hless_b w (K.tms hN) (by have := K.lt; omega) hi hj hbig (by rw [at_take hi, at_take hj]; exact hr)

theorem hswap_k {g n c : Nat} {l : List Tm} {i j : Nat} {x y : Int} (w : World) (h : TBlk w g l) (hn : n ≤ l.length) (hi : i < n) (hj : j < n) (hbig : n ≤ 1000000) (hx : x = i) (hy : y = j) :
    Calls Try.prog 93 #[.slice (some ⟨g, 0, none⟩) n c, .int .i64 x, .int .i64 y] w fun e w' => e = .returned (.tuple #[]) ∧ TBlk w' g (swapT l i j) ∧ Touch [g] w w' := by
  subst hx hy
  exact hswap_any w h hn hi hj hbig

set_option maxRecDepth 100000 in
set_option maxHeartbeats 4000000 in
theorem down_any {g b N c n i0 : Nat} {l : List Tm} (w : World) (K : TBlk w g l) (KB : Blk w b 60 #[.slice (some ⟨g, 0, none⟩) N c]) (hgb : g ≠ b)
    (hN : N ≤ l.length) (hn : n ≤ N) (hbig : N ≤ 1000000) (hi : i0 ≤ n) (hf : HeapFrom l n (i0 + 1)) :
    Calls Try.prog 53 #[.iface 62 (.pointer (some ⟨b, 0, none⟩)), .int .i64 i0, .int .i64 n] w fun e w' => ∃ (r : Value) (l' : List Tm), e = .returned r ∧ l'.Perm l ∧ HeapFrom l' n i0 ∧ (∀ k, n ≤ k → Tm.at_ l' k = Tm.at_ l k) ∧ TBlk w' g l' ∧ Touch [g] w w' := by
  have hs0 := Sift.start hf
  have HS0 := Lib.hid hs0
  have HK := Lib.hid K
  have HKB := Lib.hid KB
  clear hs0 hf K KB
  go_enter Try.func53, Try.ntmps53
  go_wp2_with fail
  go_loopw [7] (fun v wr => ∃ (i : Nat) (l' : List Tm), v = .int .i64 i ∧ i ≤ n ∧ Hid (l'.length = l.length) ∧ Hid (Sift l' n i0 i) ∧ Hid (l'.Perm l) ∧ Hid (∀ k, n ≤ k → Tm.at_ l' k = Tm.at_ l k) ∧ Hid (TBlk wr g l') ∧ Hid (Touch [g] w wr)) (fun v _ => n - (intOf v).toNat)
  case atStart => exact ⟨i0, l, rfl, hi, Lib.hid rfl, HS0, Lib.hid (List.Perm.refl _), Lib.hid (fun _ _ => rfl), HK, Lib.hid (Touch.refl _ _)⟩
  case round =>
    obtain ⟨i, l', rfl, hin, HL, HS, HP, HA, K, T⟩ := hrel
    have KB : Blk wr b 60 #[.slice (some ⟨g, 0, none⟩) N c] := HKB.out.touch T.out (by simp; omega)
    have cb := KB.c
    by_cases h1 : 2 * i + 1 < n
    · by_cases h2 : 2 * i + 2 < n
      · have hm := m_less KB
        cases hr : (Tm.at_ l' (2 * i + 2)).ahead (Tm.at_ l' (2 * i + 1))
        · have HR := Lib.hid hr
          clear hr
          go_wp2_with fail
          refine (hless_k (i := 2 * i + 2) (j := 2 * i + 1) _ K.out (by have := HL.out; omega) (by omega) (by omega) (by omega) (by omega) (by omega) HR.out).mono ?_
          rintro e w1 ⟨rfl, hb1⟩
          have HLE : Hid (Least l' n i (2 * i + 1)) := Lib.hid (Least.left h1 (fun _ => HR.out))
          have KB1 : Blk w1 b 60 #[.slice (some ⟨g, 0, none⟩) N c] := KB.on hb1
          have K1 := K.out.on hb1
          have T1 := T.out.trans (Touch.of_below hb1 (Nat.le_refl _))
          have hm2 := m_less KB1
          cases hs : (Tm.at_ l' (2 * i + 1)).ahead (Tm.at_ l' i)
          · have HSS := Lib.hid hs
            clear hs
            go_wp2_with fail
            refine (hless_k (i := 2 * i + 1) (j := i) _ K1 (by have := HL.out; omega) (by omega) (by omega) (by omega) (by omega) (by omega) HSS.out).mono ?_
            rintro e w2 ⟨rfl, hb2⟩
            go_wp2_with fail
            go_ret
            exact ⟨_, l', rfl, HP.out, HS.out.stop HLE.out HSS.out, HA.out, K1.on hb2, T1.trans (Touch.of_below hb2 (Nat.le_refl _))⟩
          · have HSS := Lib.hid hs
            clear hs
            go_wp2_with fail
            refine (hless_k (i := 2 * i + 1) (j := i) _ K1 (by have := HL.out; omega) (by omega) (by omega) (by omega) (by omega) (by omega) HSS.out).mono ?_
            rintro e w2 ⟨rfl, hb2⟩
            have KB2 := KB1.on hb2
            have K2 := K1.on hb2
            have hm3 := m_swap KB2
            go_wp2_with fail
            refine (hswap_k (i := i) (j := 2 * i + 1) _ K2 (by have := HL.out; omega) (by omega) (by omega) (by omega) (by omega) (by omega)).mono ?_
            rintro e w3 ⟨rfl, K3, T3⟩
            go_wp2_with fail
            go_roundw
            case rel => exact ⟨2 * i + 1, swapT l' i (2 * i + 1), by go_num, by omega, Lib.hid (by rw [swapT_length]; exact HL.out), Lib.hid (HS.out.step (by have := HL.out; omega) HLE.out HSS.out), Lib.hid ((swapT_perm (by have := HL.out; omega) (by have := HL.out; omega)).trans HP.out), Lib.hid (fun k hk => (swapT_other (by have := HL.out; omega) (by have := HL.out; omega) (by omega) (by omega)).trans (HA.out k hk)), Lib.hid K3, Lib.hid ((T1.trans (Touch.of_below hb2 (Nat.le_refl _))).trans T3)⟩
            case measure => simp [intOf]; omega
        · have HR := Lib.hid hr
          clear hr
          go_wp2_with fail
          refine (hless_k (i := 2 * i + 2) (j := 2 * i + 1) _ K.out (by have := HL.out; omega) (by omega) (by omega) (by omega) (by omega) (by omega) HR.out).mono ?_
          rintro e w1 ⟨rfl, hb1⟩
          have HLE : Hid (Least l' n i (2 * i + 2)) := Lib.hid (Least.right h2 HR.out)
          have KB1 : Blk w1 b 60 #[.slice (some ⟨g, 0, none⟩) N c] := KB.on hb1
          have K1 := K.out.on hb1
          have T1 := T.out.trans (Touch.of_below hb1 (Nat.le_refl _))
          have hm2 := m_less KB1
          cases hs : (Tm.at_ l' (2 * i + 2)).ahead (Tm.at_ l' i)
          · have HSS := Lib.hid hs
            clear hs
            go_wp2_with fail
            refine (hless_k (i := 2 * i + 2) (j := i) _ K1 (by have := HL.out; omega) (by omega) (by omega) (by omega) (by omega) (by omega) HSS.out).mono ?_
            rintro e w2 ⟨rfl, hb2⟩
            go_wp2_with fail
            go_ret
            exact ⟨_, l', rfl, HP.out, HS.out.stop HLE.out HSS.out, HA.out, K1.on hb2, T1.trans (Touch.of_below hb2 (Nat.le_refl _))⟩
          · have HSS := Lib.hid hs
            clear hs
            go_wp2_with fail
            refine (hless_k (i := 2 * i + 2) (j := i) _ K1 (by have := HL.out; omega) (by omega) (by omega) (by omega) (by omega) (by omega) HSS.out).mono ?_
            rintro e w2 ⟨rfl, hb2⟩
            have KB2 := KB1.on hb2
            have K2 := K1.on hb2
            have hm3 := m_swap KB2
            go_wp2_with fail
            refine (hswap_k (i := i) (j := 2 * i + 2) _ K2 (by have := HL.out; omega) (by omega) (by omega) (by omega) (by omega) (by omega)).mono ?_
            rintro e w3 ⟨rfl, K3, T3⟩
            go_wp2_with fail
            go_roundw
            case rel => exact ⟨2 * i + 2, swapT l' i (2 * i + 2), by go_num, by omega, Lib.hid (by rw [swapT_length]; exact HL.out), Lib.hid (HS.out.step (by have := HL.out; omega) HLE.out HSS.out), Lib.hid ((swapT_perm (by have := HL.out; omega) (by have := HL.out; omega)).trans HP.out), Lib.hid (fun k hk => (swapT_other (by have := HL.out; omega) (by have := HL.out; omega) (by omega) (by omega)).trans (HA.out k hk)), Lib.hid K3, Lib.hid ((T1.trans (Touch.of_below hb2 (Nat.le_refl _))).trans T3)⟩
            case measure => simp [intOf]; omega
      · have h2' : ¬ (2 * (i : Int) + 1 + 1 < (n : Int)) := by omega
        have HLE : Hid (Least l' n i (2 * i + 1)) := Lib.hid (Least.left h1 (fun h => absurd h h2))
        have KB1 : Blk wr b 60 #[.slice (some ⟨g, 0, none⟩) N c] := KB
        have K1 := K.out
        have T1 := T.out
        have hm2 := m_less KB1
        cases hs : (Tm.at_ l' (2 * i + 1)).ahead (Tm.at_ l' i)
        · have HSS := Lib.hid hs
          clear hs
          go_wp2_with fail
          refine (hless_k (i := 2 * i + 1) (j := i) _ K1 (by have := HL.out; omega) (by omega) (by omega) (by omega) (by omega) (by omega) HSS.out).mono ?_
          rintro e w2 ⟨rfl, hb2⟩
          go_wp2_with fail
          go_ret
          exact ⟨_, l', rfl, HP.out, HS.out.stop HLE.out HSS.out, HA.out, K1.on hb2, T1.trans (Touch.of_below hb2 (Nat.le_refl _))⟩
        · have HSS := Lib.hid hs
          clear hs
          go_wp2_with fail
          refine (hless_k (i := 2 * i + 1) (j := i) _ K1 (by have := HL.out; omega) (by omega) (by omega) (by omega) (by omega) (by omega) HSS.out).mono ?_
          rintro e w2 ⟨rfl, hb2⟩
          have KB2 := KB1.on hb2
          have K2 := K1.on hb2
          have hm3 := m_swap KB2
          go_wp2_with fail
          refine (hswap_k (i := i) (j := 2 * i + 1) _ K2 (by have := HL.out; omega) (by omega) (by omega) (by omega) (by omega) (by omega)).mono ?_
          rintro e w3 ⟨rfl, K3, T3⟩
          go_wp2_with fail
          go_roundw
          case rel => exact ⟨2 * i + 1, swapT l' i (2 * i + 1), by go_num, by omega, Lib.hid (by rw [swapT_length]; exact HL.out), Lib.hid (HS.out.step (by have := HL.out; omega) HLE.out HSS.out), Lib.hid ((swapT_perm (by have := HL.out; omega) (by have := HL.out; omega)).trans HP.out), Lib.hid (fun k hk => (swapT_other (by have := HL.out; omega) (by have := HL.out; omega) (by omega) (by omega)).trans (HA.out k hk)), Lib.hid K3, Lib.hid ((T1.trans (Touch.of_below hb2 (Nat.le_refl _))).trans T3)⟩
          case measure => simp [intOf]; omega
    · go_wp2_with fail
      go_ret
      exact ⟨⟨_, rfl⟩, l', HP.out, HS.out.leaf (by omega), HA.out, K.out, T.out⟩
end Go.Proofs.Ytifoonjhcjmehaa
