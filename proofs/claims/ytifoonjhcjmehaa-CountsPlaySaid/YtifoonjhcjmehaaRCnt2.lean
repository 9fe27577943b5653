/-
  The reference's Counts: Times, Above and Front, by contracts.
-/
import Derived.Test.YtifoonjhcjmehaaRCnt
namespace Go.Proofs.Ytifoonjhcjmehaa
open Go.RowKit
set_option linter.unusedSimpArgs false
set_option linter.unusedVariables false

theorem tmsL_snoc (L : Cnt) (p : Tm × Int) : tmsL (L ++ [p]) = tmsL L ++ [p.1] := by simp [tmsL]
theorem aboveL_snoc (L : Cnt) (p : Tm × Int) : aboveL (L ++ [p]) = if 0 < p.2 then aboveL L ++ [p.1] else aboveL L := by
  unfold aboveL
  rw [List.filter_append, List.map_append]
  by_cases h : 0 < p.2 <;> simp [h]
theorem take_snoc {L : Cnt} {k : Nat} (h : k < L.length) : L.take (k + 1) = L.take k ++ [((acAt (acOf L) k).t, (acAt (acOf L) k).n)] := by
  rw [List.take_add_one, acOf_at h]; rfl
theorem aboveL_take_len (L : Cnt) (k : Nat) : (aboveL (L.take k)).length ≤ k := by
  unfold aboveL
  rw [List.length_map]
  exact Nat.le_trans (List.length_filter_le _ _) (List.length_take_le ..)
theorem own_snoc {w : World} {B M : Nat} {v : Value} {O : List Tm} {t : Tm} (h : w.ownsRow B 33 2 v (M + 1) (tmCells O ++ [.int .i64 t.e, .int .i64 t.l])) : w.ownsRow B 33 2 v (M + 1) (tmCells (O ++ [t])) := by
  rw [tmCells_append]; simpa [tmCells] using h

set_option maxRecDepth 100000 in
set_option maxHeartbeats 2000000 in
theorem rtimes_any {B g : Nat} {L : Cnt} (w : World) (h : RC w B g L) (hlen : L.length ≤ 1000) :
    Calls Try.prog 20 #[.pointer (some ⟨g, 0, none⟩)] w fun e w' => ∃ (A : Option Addr) (n c : Nat), e = .returned (.slice A n c) ∧ L.length = n ∧ w'.ownsRow w.heap.size 33 2 (.slice A n c) n (tmCells (tmsL L)) ∧ Below w.heap.size w w' := by
  obtain ⟨i0, hi0, hz0, hz1, hz2⟩ := info_parts infoTime
  obtain ⟨⟨A, n, c, K, hn, ho⟩, _, _⟩ := h
  have HN := Lib.hid hn
  have HA := Lib.hid (cnt_own ho)
  have hnb : n ≤ 1000 := by omega
  have c1 := K.c
  have z1 := K.lt
  have f1 := K.f
  clear ho hn hlen
  go_enter Try.func20, Try.ntmps20
  go_wp2_with fail
  go_loopw [3, 4] (fun vo vi wr => ∃ (M : Nat) (A3 : Option Addr) (c3 : Nat) (O : List Tm), M ≤ n ∧ vi = .int .i64 M ∧ vo = .slice A3 M c3 ∧ Hid (O = tmsL (L.take M)) ∧ Hid (wr.ownsRow w.heap.size 33 2 (.slice A3 M c3) M (tmCells O)) ∧ Hid (Below w.heap.size w wr)) (fun _ vi _ => n - (intOf vi).toNat)
  case atStart => exact ⟨0, none, 0, [], Nat.zero_le _, rfl, rfl, Lib.hid rfl, Lib.hid (World.ownsRow_nil _ _ _ _), Lib.hid (Below.refl _ _)⟩
  case round =>
    clear c1 z1 f1
    obtain ⟨M, A3, c3, O, hk, rfl, rfl, HOL, HO, HB⟩ := hrel
    have KG := K.on HB.out
    have c1 := KG.c
    have z1 := KG.lt
    have f1 := KG.f
    by_cases hlt : M < n
    · obtain ⟨ad, rfl, hab, hmem, hc0, hc1, hc2⟩ := Acs.ac (HA.out.below HB.out) hlt
      have hsn := take_snoc (L := L) (k := M) (by have := HN.out; omega)
      obtain ⟨x, hx⟩ : ∃ x, acAt (acOf L) M = x := ⟨_, rfl⟩
      rw [hx] at hmem hc0 hc1 hc2 hsn
      have HSN := Lib.hid hsn
      clear hx hmem hsn
      go_wp2_with (at_builtin; refine wpList_append_any _ rfl _ _ 38 rfl w.heap.size 33 i0 (.agg #[.int .i64 0, .int .i64 0]) 2 16 Try.underlying38 hi0 hz0 hz1 hz2 rfl (by decide) (.slice A3 M c3) M (tmCells O) rfl (HO.out.alloc _) (wr.heap.size + 1) _ 1 1 [.int .i64 x.t.e, .int .i64 x.t.l] rfl (reads_two (t := x.t) (Blk.new _ _ _)) (two_one x.t) (by unfold maxLen; omega) (by omega) (by have := HB.out.size; simp; omega) ?_; intro v2 w2 hown2 hg2 _; go_frame)
      obtain ⟨A4, c4, rfl⟩ := own_slice hown2
      have HB4 := Lib.hid ((HB.out.alloc HB.out.size _).trans ((Touch.grown hg2).below (fun y hy => (HO.out.lt y (by simpa using hy)).1) (by have := HB.out.size; simp; omega)))
      have HO4 := Lib.hid (own_snoc (t := x.t) hown2)
      clear hown2 hg2
      go_wp2_with fail
      go_roundw
      case rel => exact ⟨M + 1, A4, c4, O ++ [x.t], by omega, by go_num, rfl, Lib.hid (by rw [HSN.out, tmsL_snoc, HOL.out]), HO4, HB4⟩
      case measure => simp [intOf]; omega
    · obtain rfl : n = M := by omega
      go_wp2_with fail
      go_ret
      have hO : O = tmsL L := by rw [HOL.out, List.take_of_length_le (by have := HN.out; omega)]
      exact ⟨_, _, _, rfl, HN.out, by rw [← hO]; exact HO.out, HB.out⟩

set_option maxRecDepth 100000 in
set_option maxHeartbeats 2000000 in
theorem rabove_any {B g : Nat} {L : Cnt} (w : World) (h : RC w B g L) (hlen : L.length ≤ 1000) :
    Calls Try.prog 32 #[.pointer (some ⟨g, 0, none⟩)] w fun e w' => ∃ (A : Option Addr) (M c : Nat), e = .returned (.slice A M c) ∧ M ≤ L.length ∧ w'.ownsRow w.heap.size 33 2 (.slice A M c) M (tmCells (aboveL L)) ∧ Below w.heap.size w w' := by
  obtain ⟨i0, hi0, hz0, hz1, hz2⟩ := info_parts infoTime
  obtain ⟨⟨A, n, c, K, hn, ho⟩, _, _⟩ := h
  have HN := Lib.hid hn
  have HA := Lib.hid (cnt_own ho)
  have hnb : n ≤ 1000 := by omega
  have c1 := K.c
  have z1 := K.lt
  have f1 := K.f
  clear ho hn hlen
  go_enter Try.func32, Try.ntmps32
  go_wp2_with fail
  go_loopw [3, 4] (fun vo vi wr => ∃ (i M : Nat) (A3 : Option Addr) (c3 : Nat) (O : List Tm), i ≤ n ∧ M ≤ i ∧ vi = .int .i64 i ∧ vo = .slice A3 M c3 ∧ Hid (O = aboveL (L.take i)) ∧ Hid (wr.ownsRow w.heap.size 33 2 (.slice A3 M c3) M (tmCells O)) ∧ Hid (Below w.heap.size w wr)) (fun _ vi _ => n - (intOf vi).toNat)
  case atStart => exact ⟨0, 0, none, 0, [], Nat.zero_le _, Nat.le_refl _, rfl, rfl, Lib.hid rfl, Lib.hid (World.ownsRow_nil _ _ _ _), Lib.hid (Below.refl _ _)⟩
  case round =>
    clear c1 z1 f1
    obtain ⟨i, M, A3, c3, O, hk, hMi, rfl, rfl, HOL, HO, HB⟩ := hrel
    have KG := K.on HB.out
    have c1 := KG.c
    have z1 := KG.lt
    have f1 := KG.f
    by_cases hlt : i < n
    · obtain ⟨ad, rfl, hab, hmem, hc0, hc1, hc2⟩ := Acs.ac (HA.out.below HB.out) hlt
      have hsn := take_snoc (L := L) (k := i) (by have := HN.out; omega)
      obtain ⟨x, hx⟩ : ∃ x, acAt (acOf L) i = x := ⟨_, rfl⟩
      rw [hx] at hmem hc0 hc1 hc2 hsn
      have HSN := Lib.hid hsn
      clear hx hmem hsn
      by_cases hp : x.n > 0
      · have HP := Lib.hid hp
        go_wp2_with (at_builtin; refine wpList_append_any _ rfl _ _ 38 rfl w.heap.size 33 i0 (.agg #[.int .i64 0, .int .i64 0]) 2 16 Try.underlying38 hi0 hz0 hz1 hz2 rfl (by decide) (.slice A3 M c3) M (tmCells O) rfl (HO.out.alloc _) (wr.heap.size + 1) _ 1 1 [.int .i64 x.t.e, .int .i64 x.t.l] rfl (reads_two (t := x.t) (Blk.new _ _ _)) (two_one x.t) (by unfold maxLen; omega) (by omega) (by have := HB.out.size; simp; omega) ?_; intro v2 w2 hown2 hg2 _; go_frame)
        obtain ⟨A4, c4, rfl⟩ := own_slice hown2
        have HB4 := Lib.hid ((HB.out.alloc HB.out.size _).trans ((Touch.grown hg2).below (fun y hy => (HO.out.lt y (by simpa using hy)).1) (by have := HB.out.size; simp; omega)))
        have HO4 := Lib.hid (own_snoc (t := x.t) hown2)
        clear hown2 hg2
        go_wp2_with fail
        go_roundw
        case rel => exact ⟨i + 1, M + 1, A4, c4, O ++ [x.t], by omega, by omega, by go_num, rfl, Lib.hid (by rw [HSN.out, aboveL_snoc, if_pos HP.out, HOL.out]), HO4, HB4⟩
        case measure => simp [intOf]; omega
      · have HP := Lib.hid (show ¬ 0 < x.n from hp)
        go_wp2_with fail
        go_roundw
        case rel => exact ⟨i + 1, M, A3, c3, O, by omega, by omega, by go_num, rfl, Lib.hid (by rw [HSN.out, aboveL_snoc, if_neg HP.out, HOL.out]), HO, HB⟩
        case measure => simp [intOf]; omega
    · obtain rfl : n = i := by omega
      have HMI := Lib.hid (show M ≤ L.length by have := HN.out; omega)
      go_wp2_with fail
      go_ret
      have hO : O = aboveL L := by rw [HOL.out, List.take_of_length_le (by have := HN.out; omega)]
      exact ⟨_, _, _, rfl, HMI.out, by rw [← hO]; exact HO.out, HB.out⟩

set_option maxRecDepth 100000 in
set_option maxHeartbeats 2000000 in
theorem rfront_any {B g : Nat} {L : Cnt} (w : World) (h : RC w B g L) (hlen : L.length ≤ 1000) :
    Calls Try.prog 18 #[.pointer (some ⟨g, 0, none⟩)] w fun e w' => ∃ (A : Option Addr) (M c : Nat), e = .returned (.slice A M c) ∧ M ≤ L.length ∧ Tms w' w'.heap.size A M (minR (aboveL L)) ∧ Below w.heap.size w w' := by
  have HLEN := Lib.hid hlen
  have h1 := Lib.hid (rabove_any w h hlen)
  clear h hlen
  go_enter Try.func18, Try.ntmps18
  go_wp2_with fail
  refine h1.out.mono ?_
  rintro e w1 ⟨A1, M1, k1, rfl, hM1, hO1, hb1⟩
  have HM1 := Lib.hid hM1
  have HB1 := Lib.hid hb1
  have hM1b : M1 ≤ 1000 := by have := HLEN.out; omega
  have HT1 := Lib.hid (reads_own hO1)
  clear hM1 hb1 hO1
  go_wp2_with fail
  refine (rmin_s _ HT1.out (Nat.le_refl _) hM1b).mono ?_
  rintro e w2 ⟨A2, M2, k2, rfl, hM2, hT2, hb2⟩
  go_wp2_with fail
  go_ret
  exact ⟨_, _, _, rfl, Nat.le_trans hM2 HM1.out, hT2, below_after HB1.out hb2 HB1.out.size⟩
end Go.Proofs.Ytifoonjhcjmehaa
