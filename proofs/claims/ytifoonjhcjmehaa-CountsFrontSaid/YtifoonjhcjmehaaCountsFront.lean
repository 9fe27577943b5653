/-
  CountsFront: a front is of times that are counted above 0, and what goes below 0 hides none; the call returns true and changes nothing that was in memory.
-/
import Derived.Test.YtifoonjhcjmehaaCS
namespace Go.Proofs.Ytifoonjhcjmehaa
open Go.ChangeShapes Go.WideShapes Go.ChangeAt Go.RowKit Go.Joins
set_option linter.unusedSimpArgs false
set_option linter.unusedVariables false
theorem above_ok {L : Cnt} (h : OkL L) {x : Tm} (hx : x ∈ aboveL L) : x.ok := by
  obtain ⟨p, hp, rfl⟩ := List.mem_map.1 hx
  exact h p (List.mem_filter.1 hp).1
theorem addL_no {L : Cnt} {t : Tm} {n : Int} (h : addOk L t n = false) : addL L t n = L := by unfold addL; rw [h]; rfl
theorem ofL_yes {L : Cnt} (hc : Canon L) {t : Tm} {n : Int} (h : addOk L t n = true) : ofL (addL L t n) t = ofL L t + n := by rw [ofL_addL hc]; simp [h]
theorem above_stays {L : Cnt} (hc : Canon L) {t : Tm} {n : Int} (hn : 1 ≤ n) (h : ofL L t < 1 ∨ n < ofL L t) : aboveL (addL L t (-n)) = aboveL L := by
  have hc' := addL_canon hc t (-n)
  refine lt_eq _ _ (List.pairwise_map.2 (hc'.rise.filter _)) (List.pairwise_map.2 (hc.rise.filter _)) fun x => ?_
  rw [mem_aboveL hc', mem_aboveL hc, ofL_addL hc]
  split
  · rename_i hh
    obtain ⟨rfl, _⟩ := hh
    omega
  · omega
theorem front_under {L : Cnt} (hc : Canon L) {t : Tm} {n : Int} (hn : 1 ≤ n) {f g : List Tm} (hf : IsMin (aboveL L) f) (hg : IsMin (aboveL (addL L t (-n))) g) : underL f g = true := by
  rw [underL_iff]
  intro x hx hm
  have h1 := (mem_aboveL (addL_canon hc t (-n))).1 (hg.sub x hx).1
  rw [ofL_addL hc] at h1
  have h2 : x ∈ aboveL L := (mem_aboveL hc).2 (by split at h1 <;> omega)
  rw [hf.has]
  exact hasL_iff.2 ⟨hm, x, h2, hm, Tm.le_refl x⟩

set_option maxHeartbeats 400000 in
theorem cfront_early0 {A0 : Option Addr} {n0 c0 : Nat} {t : Tm} {a2 : Int} (w : World) (h0 : 40 < n0) : Calls Try.prog 4 #[.slice A0 n0 c0, tmv t, .int .i64 a2] w fun e w' => e = .returned (.bool true) ∧ Below w.heap.size w w' := by
  go_enter Try.func4, Try.ntmps4
  go_wp2_with fail
  refine (alive4_any _).mono ?_
  rintro e w1 ⟨rfl, hb⟩
  have K := Blk.on (g := w.heap.size) (t := 33) (cs := #[.int .i64 t.e, .int .i64 t.l]) (by repeat (first | exact Blk.at_ _ _ _ (by simp) | refine Blk.alloc ?_ _)) hb
  have HB : Below w.heap.size w w1 := below_after ((Below.refl w.heap.size w).alloc (Nat.le_refl _) _) hb (by simp)
  clear hb
  go_wp2_with fail
  go_ret
  exact ⟨rfl, HB⟩

set_option maxHeartbeats 400000 in
theorem cfront_early1 {A0 : Option Addr} {n0 c0 : Nat} {t : Tm} {a2 : Int} (w : World) (h0 : ¬ 40 < n0) (h1 : a2 < 1) : Calls Try.prog 4 #[.slice A0 n0 c0, tmv t, .int .i64 a2] w fun e w' => e = .returned (.bool true) ∧ Below w.heap.size w w' := by
  go_enter Try.func4, Try.ntmps4
  go_wp2_with fail
  refine (alive4_any _).mono ?_
  rintro e w1 ⟨rfl, hb⟩
  have K := Blk.on (g := w.heap.size) (t := 33) (cs := #[.int .i64 t.e, .int .i64 t.l]) (by repeat (first | exact Blk.at_ _ _ _ (by simp) | refine Blk.alloc ?_ _)) hb
  have HB : Below w.heap.size w w1 := below_after ((Below.refl w.heap.size w).alloc (Nat.le_refl _) _) hb (by simp)
  clear hb
  go_wp2_with fail
  go_ret
  exact ⟨rfl, HB⟩

set_option maxHeartbeats 400000 in
theorem cfront_early2 {A0 : Option Addr} {n0 c0 : Nat} {t : Tm} {a2 : Int} (w : World) (h0 : ¬ 40 < n0) (h1 : ¬ a2 < 1) (h2 : 1000 < a2) : Calls Try.prog 4 #[.slice A0 n0 c0, tmv t, .int .i64 a2] w fun e w' => e = .returned (.bool true) ∧ Below w.heap.size w w' := by
  go_enter Try.func4, Try.ntmps4
  go_wp2_with fail
  refine (alive4_any _).mono ?_
  rintro e w1 ⟨rfl, hb⟩
  have K := Blk.on (g := w.heap.size) (t := 33) (cs := #[.int .i64 t.e, .int .i64 t.l]) (by repeat (first | exact Blk.at_ _ _ _ (by simp) | refine Blk.alloc ?_ _)) hb
  have HB : Below w.heap.size w w1 := below_after ((Below.refl w.heap.size w).alloc (Nat.le_refl _) _) hb (by simp)
  clear hb
  go_wp2_with fail
  go_ret
  exact ⟨rfl, HB⟩

set_option maxRecDepth 100000 in
set_option maxHeartbeats 8000000 in
theorem cfront_main {A0 : Option Addr} {n0 c0 : Nat} {t : Tm} {a2 : Int} {l0 : List Ac} (w : World) (r0 : Acs w w.heap.size A0 n0 l0) (hok : ∀ a ∈ l0, a.ok) (ht : t.ok) (h0 : ¬ 40 < n0) (h1 : ¬ a2 < 1) (h2 : ¬ 1000 < a2) : Calls Try.prog 4 #[.slice A0 n0 c0, tmv t, .int .i64 a2] w fun e w' => e = .returned (.bool true) ∧ Below w.heap.size w w' := by
  have H0 := Lib.hid r0
  have HL := Lib.hid (Acs.len r0)
  have HOK := Lib.hid hok
  clear r0
  go_enter Try.func4, Try.ntmps4
  go_wp2_with fail
  refine (alive4_any _).mono ?_
  rintro e w1 ⟨rfl, hb⟩
  have K := Blk.on (g := w.heap.size) (t := 33) (cs := #[.int .i64 t.e, .int .i64 t.l]) (by repeat (first | exact Blk.at_ _ _ _ (by simp) | refine Blk.alloc ?_ _)) hb
  have HB : Below w.heap.size w w1 := below_after ((Below.refl w.heap.size w).alloc (Nat.le_refl _) _) hb (by simp)
  clear hb
  have HB2 := Lib.hid (HB.alloc HB.size (.cells #[.map none] 26))
  have K2 := Lib.hid (K.alloc (.cells #[.map none] 26))
  have hCS := Lib.hid (CS.new w1 (B := w.heap.size) HB.size)
  clear HB K
  go_wp2_with fail
  go_loopw [9] (fun vi wr => ∃ i : Nat, i ≤ n0 ∧ vi = .int .i64 i ∧ Hid (CS wr w.heap.size w1.heap.size i (accL id [] (l0.take i))) ∧ Hid (Blk wr w.heap.size 33 #[.int .i64 t.e, .int .i64 t.l]) ∧ Hid (Below w.heap.size w wr)) (fun vi _ => n0 - (intOf vi).toNat)
  case atStart => exact ⟨0, Nat.zero_le _, rfl, hCS, K2, HB2⟩
  case round =>
    obtain ⟨i, hi, rfl, HCS, K, HB⟩ := hrel
    by_cases hlt : i < n0
    · obtain ⟨ad, rfl, hab, hmem, hc0, hc1, hc2⟩ := Acs.ac (H0.out.below HB.out) hlt
      have hpb : (ad.add (i * 3)).block < w.heap.size := by rw [block_of_add]; exact hab
      have hsucc := accL_succ id [] (l := l0) (k := i) (by have := HL.out; omega)
      obtain ⟨x, hx⟩ : ∃ x, acAt l0 i = x := ⟨_, rfl⟩
      rw [hx] at hmem hc0 hc1 hc2 hsucc
      have HXO := Lib.hid (HOK.out x hmem).1
      have HSUCC := Lib.hid hsucc
      clear hx hmem hsucc
      go_wp2_with fail
      refine wp_region_held_drew (S := (fun W => W.cell? (ad.add (i * 3)) = some (.int .i64 x.t.e) ∧ W.cell? ⟨(ad.add (i * 3)).block, (ad.add (i * 3)).off + 1, none⟩ = some (.int .i64 x.t.l) ∧ W.cell? ⟨(ad.add (i * 3)).block, (ad.add (i * 3)).off + 2, none⟩ = some (.int .i64 x.n))) (by kernel_rfl) (⟨hc0, hc1, hc2⟩) (fun hHeld => ?_)
      refine wpAnyH_take (i := 0) (v := ?_) rfl (by kernel_rfl) (by kernel_rfl) (by kernel_rfl) (fun _ _ _ h => h) (Or.inl ⟨by rfl, ?_⟩) hHeld ?_
      rotate_left
      · intro W hS
        try dsimp only at hS
        go_simp
        try with_reducible rfl
      try simp only [List.getElem_toArray, List.getElem_cons_succ, List.getElem_cons_zero, Act.put, List.setIfInBounds_toArray, List.set_cons_zero, List.set_cons_succ]
      refine wpAnyH_take (i := 1) (v := ?_) rfl (by kernel_rfl) (by kernel_rfl) (by kernel_rfl) (fun _ _ _ h => h) (Or.inl ⟨by rfl, ?_⟩) hHeld ?_
      rotate_left
      · intro W hS
        try dsimp only at hS
        go_simp
        try with_reducible rfl
      try simp only [List.getElem_toArray, List.getElem_cons_succ, List.getElem_cons_zero, Act.put, List.setIfInBounds_toArray, List.set_cons_zero, List.set_cons_succ]
      refine wpAnyH_take (i := 2) (v := ?_) rfl (by kernel_rfl) (by kernel_rfl) (by kernel_rfl) (fun _ _ _ h => h) (Or.inl ⟨by rfl, ?_⟩) hHeld ?_
      rotate_left
      · intro W hS
        try dsimp only at hS
        go_simp
        try with_reducible rfl
      try simp only [List.getElem_toArray, List.getElem_cons_succ, List.getElem_cons_zero, Act.put, List.setIfInBounds_toArray, List.set_cons_zero, List.set_cons_succ]
      refine wpAnyH_take (i := 3) (v := ?_) rfl (by kernel_rfl) (by kernel_rfl) (by kernel_rfl) (fun _ _ _ h => h) (Or.inl ⟨by rfl, ?_⟩) hHeld ?_
      rotate_left
      · intro W hS
        try dsimp only at hS
        go_simp
        try with_reducible rfl
      try simp only [List.getElem_toArray, List.getElem_cons_succ, List.getElem_cons_zero, Act.put, List.setIfInBounds_toArray, List.set_cons_zero, List.set_cons_succ]
      refine wpAnyH_take (i := 4) (v := ?_) rfl (by kernel_rfl) (by kernel_rfl) (by kernel_rfl) (fun _ _ _ h => h) (Or.inl ⟨by rfl, ?_⟩) hHeld ?_
      rotate_left
      · intro W hS
        try dsimp only at hS
        go_simp
        try with_reducible rfl
      try simp only [List.getElem_toArray, List.getElem_cons_succ, List.getElem_cons_zero, Act.put, List.setIfInBounds_toArray, List.set_cons_zero, List.set_cons_succ]
      refine wpAnyH_take (i := 5) (v := ?_) rfl (by kernel_rfl) (by kernel_rfl) (by kernel_rfl) (fun _ _ _ h => h) (Or.inl ⟨by rfl, ?_⟩) hHeld ?_
      rotate_left
      · intro W hS
        try dsimp only at hS
        go_simp
        try with_reducible rfl
      try simp only [List.getElem_toArray, List.getElem_cons_succ, List.getElem_cons_zero, Act.put, List.setIfInBounds_toArray, List.set_cons_zero, List.set_cons_succ]
      refine wpAnyH_take (i := 6) (v := ?_) rfl (by kernel_rfl) (by kernel_rfl) (by kernel_rfl) (fun _ _ _ h => h) (Or.inl ⟨by rfl, ?_⟩) hHeld ?_
      rotate_left
      · intro W hS
        try dsimp only at hS
        go_simp
        try with_reducible rfl
      try simp only [List.getElem_toArray, List.getElem_cons_succ, List.getElem_cons_zero, Act.put, List.setIfInBounds_toArray, List.set_cons_zero, List.set_cons_succ]
      refine wpAnyH_take (i := 7) (v := ?_) rfl (by kernel_rfl) (by kernel_rfl) (by kernel_rfl) (fun _ _ _ h => h) (Or.inl ⟨by rfl, ?_⟩) hHeld ?_
      rotate_left
      · intro W hS
        try dsimp only at hS
        go_simp
        try with_reducible rfl
      try simp only [List.getElem_toArray, List.getElem_cons_succ, List.getElem_cons_zero, Act.put, List.setIfInBounds_toArray, List.set_cons_zero, List.set_cons_succ]
      refine wpAnyH_take (i := 8) (v := ?_) rfl (by kernel_rfl) (by kernel_rfl) (by kernel_rfl) (fun _ _ _ h => h) (Or.inl ⟨by rfl, ?_⟩) hHeld ?_
      rotate_left
      · intro W hS
        try dsimp only at hS
        go_simp
        try with_reducible rfl
      try simp only [List.getElem_toArray, List.getElem_cons_succ, List.getElem_cons_zero, Act.put, List.setIfInBounds_toArray, List.set_cons_zero, List.set_cons_succ]
      refine wpAnyH_take (i := 9) (v := ?_) rfl (by kernel_rfl) (by kernel_rfl) (by kernel_rfl) (fun _ _ _ h => h) (Or.inl ⟨by rfl, ?_⟩) hHeld ?_
      rotate_left
      · intro W hS
        try dsimp only at hS
        go_simp
        try with_reducible rfl
      try simp only [List.getElem_toArray, List.getElem_cons_succ, List.getElem_cons_zero, Act.put, List.setIfInBounds_toArray, List.set_cons_zero, List.set_cons_succ]
      refine wpAnyH_ready (rs := [10]) (by kernel_rfl) (by simp) ?_
      refine AllReadyH.cons rfl (fun K hK => ?_) AllReadyH.nil
      go_simp
      refine (cs_add (n := id x.n) _ HCS.out.drew HXO.out (by omega) rfl).mono ?_
      rintro e w3 ⟨rfl, hcs, hb, hk⟩
      refine hK.out _ _ (⟨(hb.cell hpb).trans hc0, (hb.cell (p := ⟨(ad.add (i * 3)).block, (ad.add (i * 3)).off + 1, none⟩) hpb).trans hc1, (hb.cell (p := ⟨(ad.add (i * 3)).block, (ad.add (i * 3)).off + 2, none⟩) hpb).trans hc2⟩) (fun hHeld => ?_)
      clear hK K
      try simp only [List.getElem_toArray, List.getElem_cons_succ, List.getElem_cons_zero, Act.put, List.setIfInBounds_toArray, List.set_cons_zero, List.set_cons_succ]
      refine wpAnyH_done (by kernel_rfl) ?_ _
      rw [← HSUCC.out] at hcs
      have HCS3 := Lib.hid hcs
      have K3 := Lib.hid (((Keep.drew _).trans hk).blk K.out (by decide))
      have HB3 := Lib.hid (HB.out.drew.trans hb)
      clear hcs hk hb hHeld
      go_wp2_with fail
      go_roundw
      case rel => exact ⟨i + 1, by omega, by go_num, HCS3, K3, HB3⟩
      case measure => simp [intOf]; omega
    · obtain rfl : i = n0 := by omega
      rw [List.take_of_length_le (by have := HL.out; omega)] at HCS
      have hlen := accL_length id [] l0
      rw [HL.out] at hlen
      obtain ⟨L, hL⟩ : ∃ L, accL id [] l0 = L := ⟨_, rfl⟩
      rw [hL] at HCS hlen
      simp only [List.length_nil, Nat.zero_add] at hlen
      have HLEN := Lib.hid hlen
      clear hlen hL
      go_wp2_with fail
      refine (cs_front _ HCS.out (by omega) (by have := HLEN.out; omega)).mono ?_
      rintro e w4 ⟨A4, M4, c4, f, rfl, hf, hM4, hO4, hb4⟩
      have HCS4 := Lib.hid (HCS.out.on hb4)
      have K4 := Lib.hid (K.out.on hb4)
      have HB4 := Lib.hid (below_after HB.out hb4 HB.out.size)
      have HF := Lib.hid hf
      have HO4 := Lib.hid hO4
      have HT4 := Lib.hid (reads_own hO4)
      have HFL := Lib.hid (Tms.len (reads_own hO4))
      have hM40 : M4 ≤ 40 := by have := HLEN.out; omega
      clear hf hM4 hO4 hb4
      go_wp2_with fail
      go_loopw [11] (fun vi wr => ∃ k : Nat, k ≤ M4 ∧ vi = .int .i64 k ∧ Hid (Below w4.heap.size w4 wr)) (fun vi _ => M4 - (intOf vi).toNat)
      case atStart => exact ⟨0, Nat.zero_le _, rfl, Lib.hid (Below.refl _ _)⟩
      case round =>
        obtain ⟨k, hk, rfl, HBK⟩ := hrel
        by_cases hlk : k < M4
        · obtain ⟨ad, rfl, hab, hp, hmem, hc0, hc1⟩ := Tms.tm (HT4.out.below HBK.out) hlk
          obtain ⟨x, hx⟩ : ∃ x, Tm.at_ f k = x := ⟨_, rfl⟩
          rw [hx] at hp hmem hc0 hc1
          have hxa := (HF.out.sub x hmem).1
          have hxo := above_ok HCS4.out.ok hxa
          have hpos := (mem_aboveL HCS4.out.canon).1 hxa
          obtain ⟨r, hr⟩ : ∃ r, ofL L x = r := ⟨_, rfl⟩
          rw [hr] at hpos
          have HR := Lib.hid hr
          have HXO := Lib.hid hxo
          have hn1 : ¬ (r < 1) := by omega
          clear hx hp hmem hxa hxo hr
          go_wp2_with fail
          refine (cs_of _ (HCS4.out.on HBK.out) HXO.out HR.out).mono ?_
          rintro e w5 ⟨rfl, hb⟩
          have HB5 := Lib.hid (below_after HBK.out hb HBK.out.size)
          clear hb
          go_wp2_with fail
          go_roundw
          case rel => exact ⟨k + 1, by omega, by go_num, HB5⟩
          case measure => simp [intOf]; omega
        · clear hk
          have HCS5 := Lib.hid (HCS4.out.on HBK.out)
          have K5 := K4.out.on HBK.out
          have HO5 := Lib.hid ((Keep.of_below HBK.out).own HO4.out (by decide))
          have HB5 := Lib.hid (below_after HB4.out HBK.out HB4.out.size)
          have c5 := K5.c
          obtain ⟨r, hr⟩ : ∃ r, ofL L t = r := ⟨_, rfl⟩
          have HR := Lib.hid hr
          have hrb := HCS4.out.bnd t
          rw [hr] at hrb
          obtain ⟨hr1, hr2⟩ := hrb
          clear hr HBK
          go_wp2_with fail
          refine (cs_of _ HCS5.out ht HR.out).mono ?_
          rintro e w6 ⟨rfl, hb6⟩
          have HCS6 := Lib.hid (HCS5.out.on hb6)
          have K6 := K5.on hb6
          have HO6 := Lib.hid ((Keep.of_below hb6).own HO5.out (by decide))
          have HB6 := Lib.hid (below_after HB5.out hb6 HB5.out.size)
          have c6 := K6.c
          clear hb6
          cases hok2 : addOk L t (-a2)
          · have HOK2 := Lib.hid hok2
            clear hok2
            go_wp2_with fail
            refine (cs_add (n := -a2) _ HCS6.out ht (by omega) HOK2.out).mono ?_
            rintro e w7 ⟨rfl, hcs7, hb7, hk7⟩
            have HCS7 := Lib.hid hcs7
            have K7 := hk7.blk K6 (by decide)
            have HO7 := Lib.hid (hk7.own HO6.out (by decide))
            have HB7 := Lib.hid (HB6.out.trans hb7)
            have c7 := K7.c
            have HLEN7 := Lib.hid (addL_length L t (-a2))
            clear hcs7 hb7 hk7
            go_wp2_with fail
            refine (cs_front _ HCS7.out (by omega) (by have := HLEN7.out; have := HLEN.out; omega)).mono ?_
            rintro e w8 ⟨A8, M8, c8, f8, rfl, hf8, hM8, hO8, hb⟩
            have hM8b : M8 ≤ 100 := by have := HLEN7.out; have := HLEN.out; omega
            have HCS8 := Lib.hid (HCS7.out.on hb)
            have K8 := K7.on hb
            have HO8 := Lib.hid ((Keep.of_below hb).own HO7.out (by decide))
            have HB8 := Lib.hid (below_after HB7.out hb HB7.out.size)
            have c8 := K8.c
            have HF8 := Lib.hid hf8
            have HP8 := Lib.hid hO8
            clear hf8 hM8 hO8 hb
            have HEQ := Lib.hid (show f = f8 from HF.out.unique (by have := HF8.out; rw [addL_no HOK2.out] at this; exact this))
            go_wp2_with fail
            refine (same_b (b := true) _ (reads_own HO8.out) (reads_own HP8.out) ⟨fun _ => HEQ.out, fun _ => rfl⟩ (by omega) (by omega)).mono ?_
            rintro e w9 ⟨rfl, hb⟩
            have HB9 := below_after HB8.out hb HB8.out.size
            go_wp2_with fail
            go_ret
            exact ⟨rfl, HB9⟩
          · have HOK2 := Lib.hid hok2
            clear hok2
            have HOF := Lib.hid (show ofL (addL L t (-a2)) t = r - a2 by rw [ofL_yes HCS6.out.canon HOK2.out, HR.out]; omega)
            have hbb : (r - a2 == r - a2) = true := by simp
            by_cases h1r : r < 1
            · have HST := Lib.hid (show r < 1 ∨ a2 < r from .inl h1r)
              go_wp2_with fail
              refine (cs_add (n := -a2) _ HCS6.out ht (by omega) HOK2.out).mono ?_
              rintro e w7 ⟨rfl, hcs7, hb7, hk7⟩
              have HCS7 := Lib.hid hcs7
              have K7 := hk7.blk K6 (by decide)
              have HO7 := Lib.hid (hk7.own HO6.out (by decide))
              have HB7 := Lib.hid (HB6.out.trans hb7)
              have c7 := K7.c
              have HLEN7 := Lib.hid (addL_length L t (-a2))
              clear hcs7 hb7 hk7
              go_wp2_with fail
              refine (cs_front _ HCS7.out (by omega) (by have := HLEN7.out; have := HLEN.out; omega)).mono ?_
              rintro e w8 ⟨A8, M8, c8, f8, rfl, hf8, hM8, hO8, hb⟩
              have hM8b : M8 ≤ 100 := by have := HLEN7.out; have := HLEN.out; omega
              have HCS8 := Lib.hid (HCS7.out.on hb)
              have K8 := K7.on hb
              have HO8 := Lib.hid ((Keep.of_below hb).own HO7.out (by decide))
              have HB8 := Lib.hid (below_after HB7.out hb HB7.out.size)
              have c8 := K8.c
              have HF8 := Lib.hid hf8
              have HP8 := Lib.hid hO8
              clear hf8 hM8 hO8 hb
              have HUND := Lib.hid (front_under HCS6.out.canon (t := t) (n := a2) (by omega) HF.out HF8.out)
              have HEQ := Lib.hid (show f = f8 from HF.out.unique (by have := HF8.out; rw [above_stays HCS6.out.canon (by omega) (by rw [HR.out]; exact HST.out)] at this; exact this))
              go_wp2_with fail
              refine (cs_of _ HCS8.out ht HOF.out).mono ?_
              rintro e w9 ⟨rfl, hb⟩
              have HCS9 := Lib.hid (HCS8.out.on hb)
              have K9 := K8.on hb
              have HO9 := Lib.hid ((Keep.of_below hb).own HO8.out (by decide))
              have HB9 := Lib.hid (below_after HB8.out hb HB8.out.size)
              have c9 := K9.c
              have HP9 := Lib.hid ((Keep.of_below hb).own HP8.out (by decide))
              clear hb
              go_wp2_with fail
              refine (same_b (b := true) _ (reads_own HO9.out) (reads_own HP9.out) ⟨fun _ => HEQ.out, fun _ => rfl⟩ (by omega) (by omega)).mono ?_
              rintro e w10 ⟨rfl, hb⟩
              have HCS10 := Lib.hid (HCS9.out.on hb)
              have K10 := K9.on hb
              have HO10 := Lib.hid ((Keep.of_below hb).own HO9.out (by decide))
              have HB10 := Lib.hid (below_after HB9.out hb HB9.out.size)
              have c10 := K10.c
              have HP10 := Lib.hid ((Keep.of_below hb).own HP9.out (by decide))
              clear hb
              go_wp2_with fail
              refine (under_s _ (reads_own HO10.out) (reads_own HP10.out) (Nat.le_refl _) (Nat.le_refl _) (by omega) (by omega) HUND.out).mono ?_
              rintro e w11 ⟨rfl, hb⟩
              have HB11 := below_after HB10.out hb HB10.out.size
              go_wp2_with fail
              go_ret
              exact ⟨rfl, HB11⟩
            · by_cases h2r : a2 < r
              · have HST := Lib.hid (show r < 1 ∨ a2 < r from .inr h2r)
                go_wp2_with fail
                refine (cs_add (n := -a2) _ HCS6.out ht (by omega) HOK2.out).mono ?_
                rintro e w7 ⟨rfl, hcs7, hb7, hk7⟩
                have HCS7 := Lib.hid hcs7
                have K7 := hk7.blk K6 (by decide)
                have HO7 := Lib.hid (hk7.own HO6.out (by decide))
                have HB7 := Lib.hid (HB6.out.trans hb7)
                have c7 := K7.c
                have HLEN7 := Lib.hid (addL_length L t (-a2))
                clear hcs7 hb7 hk7
                go_wp2_with fail
                refine (cs_front _ HCS7.out (by omega) (by have := HLEN7.out; have := HLEN.out; omega)).mono ?_
                rintro e w8 ⟨A8, M8, c8, f8, rfl, hf8, hM8, hO8, hb⟩
                have hM8b : M8 ≤ 100 := by have := HLEN7.out; have := HLEN.out; omega
                have HCS8 := Lib.hid (HCS7.out.on hb)
                have K8 := K7.on hb
                have HO8 := Lib.hid ((Keep.of_below hb).own HO7.out (by decide))
                have HB8 := Lib.hid (below_after HB7.out hb HB7.out.size)
                have c8 := K8.c
                have HF8 := Lib.hid hf8
                have HP8 := Lib.hid hO8
                clear hf8 hM8 hO8 hb
                have HUND := Lib.hid (front_under HCS6.out.canon (t := t) (n := a2) (by omega) HF.out HF8.out)
                have HEQ := Lib.hid (show f = f8 from HF.out.unique (by have := HF8.out; rw [above_stays HCS6.out.canon (by omega) (by rw [HR.out]; exact HST.out)] at this; exact this))
                go_wp2_with fail
                refine (cs_of _ HCS8.out ht HOF.out).mono ?_
                rintro e w9 ⟨rfl, hb⟩
                have HCS9 := Lib.hid (HCS8.out.on hb)
                have K9 := K8.on hb
                have HO9 := Lib.hid ((Keep.of_below hb).own HO8.out (by decide))
                have HB9 := Lib.hid (below_after HB8.out hb HB8.out.size)
                have c9 := K9.c
                have HP9 := Lib.hid ((Keep.of_below hb).own HP8.out (by decide))
                clear hb
                go_wp2_with fail
                refine (same_b (b := true) _ (reads_own HO9.out) (reads_own HP9.out) ⟨fun _ => HEQ.out, fun _ => rfl⟩ (by omega) (by omega)).mono ?_
                rintro e w10 ⟨rfl, hb⟩
                have HCS10 := Lib.hid (HCS9.out.on hb)
                have K10 := K9.on hb
                have HO10 := Lib.hid ((Keep.of_below hb).own HO9.out (by decide))
                have HB10 := Lib.hid (below_after HB9.out hb HB9.out.size)
                have c10 := K10.c
                have HP10 := Lib.hid ((Keep.of_below hb).own HP9.out (by decide))
                clear hb
                go_wp2_with fail
                refine (under_s _ (reads_own HO10.out) (reads_own HP10.out) (Nat.le_refl _) (Nat.le_refl _) (by omega) (by omega) HUND.out).mono ?_
                rintro e w11 ⟨rfl, hb⟩
                have HB11 := below_after HB10.out hb HB10.out.size
                go_wp2_with fail
                go_ret
                exact ⟨rfl, HB11⟩
              · skip
                go_wp2_with fail
                refine (cs_add (n := -a2) _ HCS6.out ht (by omega) HOK2.out).mono ?_
                rintro e w7 ⟨rfl, hcs7, hb7, hk7⟩
                have HCS7 := Lib.hid hcs7
                have K7 := hk7.blk K6 (by decide)
                have HO7 := Lib.hid (hk7.own HO6.out (by decide))
                have HB7 := Lib.hid (HB6.out.trans hb7)
                have c7 := K7.c
                have HLEN7 := Lib.hid (addL_length L t (-a2))
                clear hcs7 hb7 hk7
                go_wp2_with fail
                refine (cs_front _ HCS7.out (by omega) (by have := HLEN7.out; have := HLEN.out; omega)).mono ?_
                rintro e w8 ⟨A8, M8, c8, f8, rfl, hf8, hM8, hO8, hb⟩
                have hM8b : M8 ≤ 100 := by have := HLEN7.out; have := HLEN.out; omega
                have HCS8 := Lib.hid (HCS7.out.on hb)
                have K8 := K7.on hb
                have HO8 := Lib.hid ((Keep.of_below hb).own HO7.out (by decide))
                have HB8 := Lib.hid (below_after HB7.out hb HB7.out.size)
                have c8 := K8.c
                have HF8 := Lib.hid hf8
                have HP8 := Lib.hid hO8
                clear hf8 hM8 hO8 hb
                have HUND := Lib.hid (front_under HCS6.out.canon (t := t) (n := a2) (by omega) HF.out HF8.out)
                go_wp2_with fail
                refine (cs_of _ HCS8.out ht HOF.out).mono ?_
                rintro e w9 ⟨rfl, hb⟩
                have HCS9 := Lib.hid (HCS8.out.on hb)
                have K9 := K8.on hb
                have HO9 := Lib.hid ((Keep.of_below hb).own HO8.out (by decide))
                have HB9 := Lib.hid (below_after HB8.out hb HB8.out.size)
                have c9 := K9.c
                have HP9 := Lib.hid ((Keep.of_below hb).own HP8.out (by decide))
                clear hb
                go_wp2_with fail
                refine (under_s _ (reads_own HO9.out) (reads_own HP9.out) (Nat.le_refl _) (Nat.le_refl _) (by omega) (by omega) HUND.out).mono ?_
                rintro e w11 ⟨rfl, hb⟩
                have HB11 := below_after HB9.out hb HB9.out.size
                go_wp2_with fail
                go_ret
                exact ⟨rfl, HB11⟩
theorem countsFront_walk (a1 b1 a2 : Int) {A0 : Option Addr} {n0 c0 : Nat} {l0 : List Ac} (w : World) (r0 : Acs w w.heap.size A0 n0 l0) (hok : ∀ a ∈ l0, a.ok) (_ : n0 ≤ maxLen) (_ : n0 ≤ c0) (wa : (Lit.int .i64 a1).wf = true) (wb : (Lit.int .i64 b1).wf = true) (_ : (Lit.int .i64 a2).wf = true) : Calls Try.prog 4 #[.slice A0 n0 c0, tmv ⟨a1, b1⟩, .int .i64 a2] w fun e w' => e = .returned (.bool true) ∧ Below w.heap.size w w' := by
  by_cases h0 : 40 < n0
  · exact cfront_early0 w h0
  · by_cases h1 : a2 < 1
    · exact cfront_early1 w h0 h1
    · by_cases h2 : 1000 < a2
      · exact cfront_early2 w h0 h1 h2
      · exact cfront_main w r0 hok ⟨wa, wb⟩ h0 h1 h2

namespace countsFront
set_option maxRecDepth 100000 in
theorem contract (H : Type) (enc : TypeId × Value → H) (W : World) (base : Nat) (args : Array Value) (ds gs : List (DataW H)) (before : List MemPlace)
    (hval : ∀ (j : Nat) t v, Try.f4.params[j]? = some t → args[j]? = some v → Value.okWide Try.prog W .any base t v)
    (hW : DataW.Whole enc Try.prog Try.f4.params.toList Rows.countsFrontSpec.vars false W args.toList ds gs before) :
    Calls Try.prog 4 args W fun e W' => ∃ v, e = .returned v ∧ Rows.countsFrontSpec.post enc Try.prog Try.f4 false true false false W args v W' := by
  have hWc := hW
  obtain ⟨p, q, hA0, hV, _, _, _⟩ := hW
  have hA : DataW.TrodAll enc Try.prog W 0 (fun _ => true) true Try.f4.params.toList args.toList ds p := hA0
  clear hA0
  rw [Try.params4] at hA hval
  obtain ⟨v0, vs0, d0, ds0, p0, q0, hargs, rfl, rfl, h0, r0⟩ := trodAll_cons hA
  obtain ⟨v1, vs1, d1, ds1, p1, q1, rfl, rfl, rfl, h1, r1⟩ := trodAll_cons r0
  obtain ⟨v2, vs2, d2, ds2, p2, q2, rfl, rfl, rfl, h2, r2⟩ := trodAll_cons r1
  obtain ⟨rfl, rfl, rfl⟩ := trodAll_nil r2
  obtain rfl : args = #[v0, v1, v2] := by cases args; simp_all
  obtain ⟨A0, n0, c0, l0, rfl, hr0, ok0, hn0, hc0⟩ := open_acts (hval 0 22 v0 rfl rfl) h0
  obtain ⟨c1, c1', y1, y1', m1, rfl, rfl, rfl, hy1, hy1'⟩ := open_agg2 Try.underlying33 (by kernel_rfl) (by kernel_rfl : Try.prog.cellsOf 33 = 2) (hval 1 33 v1 rfl rfl) h1
  obtain ⟨a1, e1, rfl, wa1⟩ := DataW.trod_int Try.underlying3 hy1
  obtain ⟨b1, e1', rfl, wb1⟩ := DataW.trod_int Try.underlying3 hy1'
  simp at e1 e1'
  subst e1 e1'
  obtain ⟨a2, rfl, rfl, rfl, wa2⟩ := open_int Try.underlying3 (hval 2 3 v2 rfl rfl) h2
  refine (countsFront_walk a1 b1 a2 W hr0 ok0 (Nat.le_trans hn0 hc0) hn0 wa1 wb1 wa2).mono fun e W' ⟨he, hb⟩ => ⟨_, he, ?_⟩
  exact post_true hWc rfl hb laidOut (readables (by kernel_rfl)) rfl Try.underlying4 (fun h => by subst h; rfl)

set_option maxRecDepth 100000 in
theorem lifted (os : Os) (started : os.Started) (H : Type) (enc : TypeId × Value → H) :
    ReturnsInHanded {} Try.checked os 4 .any (Rows.countsFrontSpec.pre6 enc Try.prog Try.f4 Rows.countsFrontRow.domain false) (Rows.countsFrontSpec.post enc Try.prog Try.f4 false true false false) := by
  refine returnsInHanded_of_change (C := Try.checked) own started (by kernel_rfl) Try.func4
    (ChangeSpec.witness6 (enc := enc) (C := Try.checked) false ⟨#[], #[.slice none 0 0, .agg #[.int .i64 0, .int .i64 0], .int .i64 0], []⟩ 8 (by kernel_rfl) (by kernel_rfl) (by kernel_rfl) (by kernel_rfl)) ?_
  intro W base args ds gs before hval hW _ _
  exact contract H enc W base args ds gs before hval hW

theorem proved : Rows.CountsFrontSaid :=
  OpenClaim.holds_of_wide 4 Try.f4 rfl rfl rfl rfl rfl rfl rfl ⟨rfl, rfl, rfl, rfl, rfl⟩ rfl rfl rfl rfl rfl (by kernel_rfl) Try.func4 (by kernel_rfl)
    (of_decide_eq_true (by kernel_rfl)) (by unfold Func.isWrapper; first | (rw [if_pos (by decide +kernel)]; kernel_rfl) | (rw [if_neg (by decide +kernel)]; exact ⟨rfl, rfl⟩))
    (fun os started H enc _ => lifted os started H enc)
end countsFront
end Go.Proofs.Ytifoonjhcjmehaa
