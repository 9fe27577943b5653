/-
  AntiMore: a time more makes the least ones no later, and changes them only if none of them is ahead of it; the call returns true and changes nothing that was in memory.
-/
import Derived.Test.YtifoonjhcjmehaaAntiOpen
namespace Go.Proofs.Ytifoonjhcjmehaa
open Go.ChangeShapes Go.WideShapes Go.ChangeAt Go.RowKit Go.Joins
set_option linter.unusedSimpArgs false
set_option linter.unusedVariables false

set_option maxHeartbeats 400000 in
theorem amore_early {A0 : Option Addr} {n0 c0 : Nat} {t : Tm} (w : World) (h0 : 60 < n0) : Calls Try.prog 9 #[.slice A0 n0 c0, tmv t] w fun e w' => e = .returned (.bool true) ∧ Below w.heap.size w w' := by
  go_enter Try.func9, Try.ntmps9
  go_wp2_with fail
  refine (alive4_any _).mono ?_
  rintro e w1 ⟨rfl, hb⟩
  have K := Blk.on (g := w.heap.size) (t := 33) (cs := #[.int .i64 t.e, .int .i64 t.l]) (by repeat (first | exact Blk.at_ _ _ _ (by simp) | refine Blk.alloc ?_ _)) hb
  have HB : Below w.heap.size w w1 := below_after ((Below.refl w.heap.size w).alloc (Nat.le_refl _) _) hb (by simp)
  clear hb
  go_wp2_with fail
  go_ret
  exact ⟨rfl, HB⟩

set_option maxRecDepth 100000 in
set_option maxHeartbeats 4000000 in
theorem amore_main {A0 : Option Addr} {n0 c0 : Nat} {t : Tm} {l0 : List Tm} (w : World) (r0 : Tms w w.heap.size A0 n0 l0) (h0 : ¬ 60 < n0) : Calls Try.prog 9 #[.slice A0 n0 c0, tmv t] w fun e w' => e = .returned (.bool true) ∧ Below w.heap.size w w' := by
  obtain ⟨i0, hi0, hz0, hz1, hz2⟩ := info_parts infoTime
  have H0 := Lib.hid r0
  clear r0
  go_enter Try.func9, Try.ntmps9
  go_wp2_with fail
  refine (alive4_any _).mono ?_
  rintro e w1 ⟨rfl, hb⟩
  have K := Blk.on (g := w.heap.size) (t := 33) (cs := #[.int .i64 t.e, .int .i64 t.l]) (by repeat (first | exact Blk.at_ _ _ _ (by simp) | refine Blk.alloc ?_ _)) hb
  have HB : Below w.heap.size w w1 := below_after ((Below.refl w.heap.size w).alloc (Nat.le_refl _) _) hb (by simp)
  clear hb
  go_wp2_with fail
  refine (min_s _ (H0.out.below HB) HB.size (by omega)).mono ?_
  rintro e w3 ⟨A3, M3, c3, m3, rfl, hm3, hM3, hT3, hb, _⟩
  have K3 := K.on hb
  have HB3 := below_after HB hb HB.size
  have HM3 := Lib.hid hm3
  have HT3 := Lib.hid hT3
  have hbx := K3.lt
  clear hm3 hT3 hb K HB
  go_wp2_with fail
  refine wp_region_held_drew (S := (fun W => Below w3.heap.size w3 W ∧ ∀ i, W.cell? ⟨w.heap.size, i, none⟩ = (#[.int .i64 t.e, .int .i64 t.l] : Array Value)[i]?)) (by kernel_rfl) (⟨(Below.refl _ _).drew, K3.c⟩) (fun hHeld => ?_)
  refine wpAnyH_take (i := 0) (v := ?_) rfl (by kernel_rfl) (by kernel_rfl) (by kernel_rfl) (fun _ _ _ h => h) (Or.inl ⟨by rfl, ?_⟩) hHeld ?_
  rotate_left
  · intro W hS
    try dsimp only at hS
    go_simp
    try with_reducible rfl
  try simp only [List.getElem_toArray, List.getElem_cons_succ, List.getElem_cons_zero, Act.put, List.setIfInBounds_toArray, List.set_cons_zero, List.set_cons_succ]
  refine wpAnyH_take (i := 2) (v := ?_) rfl (by kernel_rfl) (by kernel_rfl) (by kernel_rfl) (fun _ _ _ h => h) (Or.inl ⟨by rfl, ?_⟩) hHeld ?_
  rotate_left
  · intro W hS
    try dsimp only at hS
    go_simp
    try with_reducible rfl
  try simp only [List.getElem_toArray, List.getElem_cons_succ, List.getElem_cons_zero, Act.put, List.setIfInBounds_toArray, List.set_cons_zero, List.set_cons_succ]
  refine wpAnyH_ready (rs := [1, 3]) (by kernel_rfl) (by simp) ?_
  refine (AllReadyH.cons rfl (fun K hK => ?_) (AllReadyH.cons rfl (fun K hK => ?_) AllReadyH.nil))
  · refine wp_append_any _ _ _ 38 rfl w3.heap.size 33 i0 (.agg #[.int .i64 0, .int .i64 0]) 2 16 Try.underlying38 hi0 hz0 hz1 hz2 rfl (by decide) (.slice none 0 0) 0 [] rfl (World.ownsRow_nil _ _ _ _) w.heap.size _ _ _ (tmCells l0) rfl (H0.out.below (HB3.trans (hHeld.1.mono HB3.size))) (tmCells_one _) (by unfold maxLen; omega) (by omega) hHeld.1.size ?_
    intro v1 w4 hown4 hg4 _
    have hb4 : Below w3.heap.size w3 w4 := hHeld.1.trans ((Touch.grown hg4).below (by simp [Value.ownBlock]) hHeld.1.size)
    refine hK.out _ _ (keepB K3 hb4) (fun hHeld => ?_)
    clear hK K
    try simp only [List.getElem_toArray, List.getElem_cons_succ, List.getElem_cons_zero, Act.put, List.setIfInBounds_toArray, List.set_cons_zero, List.set_cons_succ]
    refine wpAnyH_ready (rs := [3]) (by kernel_rfl) (by simp) ?_
    refine (AllReadyH.cons rfl (fun K hK => ?_) AllReadyH.nil)
    go_simp
    refine hK.out _ _ (keepB K3 (hHeld.1.alloc hHeld.1.size _)) (fun hHeld => ?_)
    clear hK K
    try simp only [List.getElem_toArray, List.getElem_cons_succ, List.getElem_cons_zero, Act.put, List.setIfInBounds_toArray, List.set_cons_zero, List.set_cons_succ]
    refine wpAnyH_ready (rs := [4]) (by kernel_rfl) (by simp) ?_
    refine (AllReadyH.cons rfl (fun K hK => ?_) AllReadyH.nil)
    refine wp_append_any _ _ _ 38 rfl w3.heap.size 33 i0 (.agg #[.int .i64 0, .int .i64 0]) 2 16 Try.underlying38 hi0 hz0 hz1 hz2 rfl (by decide) v1 (0 + n0) ([] ++ tmCells l0) rfl (hown4.alloc _) (w4.heap.size + 1) _ _ _ [.int .i64 t.e, .int .i64 t.l] rfl (reads_two (t := t) (Blk.at_ _ _ _ rfl)) (two_one t) (by unfold maxLen; omega) (by omega) hHeld.1.size ?_
    intro v2 w5 hown5 hg5 _
    have hb5 : Below w3.heap.size w3 w5 := hHeld.1.trans ((Touch.grown hg5).below (fun y hy => (hown4.lt y (by simpa using hy)).1) hHeld.1.size)
    have hown5 : w5.ownsRow w3.heap.size 33 2 v2 (n0 + 1) (tmCells (l0 ++ [t])) := by rw [tmCells_append]; simpa [tmCells] using hown5
    obtain ⟨A5, c5, rfl⟩ := own_slice hown5
    have HT5 := Lib.hid (reads_own hown5)
    refine hK.out _ _ (keepB K3 hb5) (fun hHeld => ?_)
    clear hK K
    try simp only [List.getElem_toArray, List.getElem_cons_succ, List.getElem_cons_zero, Act.put, List.setIfInBounds_toArray, List.set_cons_zero, List.set_cons_succ]
    refine wpAnyH_ready (rs := [5]) (by kernel_rfl) (by simp) ?_
    refine (AllReadyH.cons rfl (fun K hK => ?_) AllReadyH.nil)
    go_simp
    refine (min_s _ HT5.out (Nat.le_refl _) (by omega)).mono ?_
    rintro e w6 ⟨A6, M6, c6, m6, rfl, hm6, hM6, hT6, hb, _⟩
    have HM6 := Lib.hid hm6
    have HT6 := Lib.hid hT6
    have hb6 : Below w3.heap.size w3 w6 := below_after hHeld.1 hb hHeld.1.size
    clear hm6 hT6
    refine hK.out _ _ (keepB K3 hb6) (fun hHeld => ?_)
    clear hK K
    try simp only [List.getElem_toArray, List.getElem_cons_succ, List.getElem_cons_zero, Act.put, List.setIfInBounds_toArray, List.set_cons_zero, List.set_cons_succ]
    refine wpAnyH_take (i := 6) (v := ?_) rfl (by kernel_rfl) (by kernel_rfl) (by kernel_rfl) (fun _ _ _ h => h) (Or.inl ⟨by rfl, ?_⟩) hHeld ?_
    rotate_left
    · intro W hS
      try dsimp only at hS
      go_simp
      try with_reducible rfl
    try simp only [List.getElem_toArray, List.getElem_cons_succ, List.getElem_cons_zero, Act.put, List.setIfInBounds_toArray, List.set_cons_zero, List.set_cons_succ]
    refine wpAnyH_done (by kernel_rfl) ?_ _
    have HB6 : Below w.heap.size w w6 := HB3.trans (hb6.mono HB3.size)
    have K6 := Lib.hid (K3.on hb6)
    have T36 := Lib.hid (HT3.out.below hb6)
    have hz36 := hb6.size
    have HMORE := Lib.hid (HM3.out.more HM6.out)
    clear hHeld hb6
    cases hmay : t.may
    · have HS := Lib.hid (HMORE.out.2.2 (.inl hmay))
      have HMAY := Lib.hid hmay
      clear hmay
      go_wp2_with fail
      refine (same_b (b := true) _ T36.out HT6.out ⟨fun _ => HS.out, fun _ => rfl⟩ (by omega) (by omega)).mono ?_
      rintro e w7 ⟨rfl, hb⟩
      have HB7 := below_after HB6 hb HB6.size
      have K7 := K6.out.on hb
      have hT7 := T36.out.below (hb.mono hz36)
      have hT6b := HT6.out.below hb
      have c7 := K7.c
      have hz7 := Nat.le_trans hz36 hb.size
      have hz7b := hb.size
      clear hb
      go_wp2_with fail
      refine (under_s _ hT6b hT7 hz7b hz7 (by omega) (by omega) HMORE.out.1).mono ?_
      rintro e w8 ⟨rfl, hb⟩
      have HB8 := below_after HB7 hb HB7.size
      have K8 := K7.on hb
      have hT8 := hT7.below (hb.mono hz7)
      have c8 := K8.c
      have hz8 := Nat.le_trans hz7 hb.size
      clear hb
      go_wp2_with fail
      refine (rmay_b _ HMAY.out).mono ?_
      rintro e w9 ⟨rfl, hb⟩
      have HB9 := below_after HB8 hb HB8.size
      have K9 := K8.on hb
      have c9 := K9.c
      have hT9 := hT8.below (hb.mono hz8)
      have hz9 := Nat.le_trans hz8 hb.size
      clear hb
      go_wp2_with fail
      go_ret
      exact ⟨rfl, HB9⟩
    · have HMAY := Lib.hid hmay
      clear hmay
      cases hh : hasL m3 t
      · have HS := Lib.hid (show ¬ m3 = m6 from fun h => by have := HMORE.out.2.1 h; rw [HMAY.out, hh] at this; simp at this)
        have HH := Lib.hid hh
        clear hh
        go_wp2_with fail
        refine (same_b (b := false) _ T36.out HT6.out ⟨fun h => (by cases h), fun h => absurd h HS.out⟩ (by omega) (by omega)).mono ?_
        rintro e w7 ⟨rfl, hb⟩
        have HB7 := below_after HB6 hb HB6.size
        have K7 := K6.out.on hb
        have hT7 := T36.out.below (hb.mono hz36)
        have hT6b := HT6.out.below hb
        have c7 := K7.c
        have hz7 := Nat.le_trans hz36 hb.size
        have hz7b := hb.size
        clear hb
        go_wp2_with fail
        refine (under_s _ hT6b hT7 hz7b hz7 (by omega) (by omega) HMORE.out.1).mono ?_
        rintro e w8 ⟨rfl, hb⟩
        have HB8 := below_after HB7 hb HB7.size
        have K8 := K7.on hb
        have hT8 := hT7.below (hb.mono hz7)
        have c8 := K8.c
        have hz8 := Nat.le_trans hz7 hb.size
        clear hb
        go_wp2_with fail
        refine (rmay_b _ HMAY.out).mono ?_
        rintro e w9 ⟨rfl, hb⟩
        have HB9 := below_after HB8 hb HB8.size
        have K9 := K8.on hb
        have c9 := K9.c
        have hT9 := hT8.below (hb.mono hz8)
        have hz9 := Nat.le_trans hz8 hb.size
        clear hb
        go_wp2_with fail
        refine (has_b _ hT9 hz9 (by omega) HH.out).mono ?_
        rintro e w10 ⟨rfl, hb⟩
        have HB9 := below_after HB9 hb HB9.size
        go_wp2_with fail
        go_ret
        exact ⟨rfl, HB9⟩
      · have HS := Lib.hid (HMORE.out.2.2 (.inr hh))
        have HH := Lib.hid hh
        clear hh
        go_wp2_with fail
        refine (same_b (b := true) _ T36.out HT6.out ⟨fun _ => HS.out, fun _ => rfl⟩ (by omega) (by omega)).mono ?_
        rintro e w7 ⟨rfl, hb⟩
        have HB7 := below_after HB6 hb HB6.size
        have K7 := K6.out.on hb
        have hT7 := T36.out.below (hb.mono hz36)
        have hT6b := HT6.out.below hb
        have c7 := K7.c
        have hz7 := Nat.le_trans hz36 hb.size
        have hz7b := hb.size
        clear hb
        go_wp2_with fail
        refine (under_s _ hT6b hT7 hz7b hz7 (by omega) (by omega) HMORE.out.1).mono ?_
        rintro e w8 ⟨rfl, hb⟩
        have HB8 := below_after HB7 hb HB7.size
        have K8 := K7.on hb
        have hT8 := hT7.below (hb.mono hz7)
        have c8 := K8.c
        have hz8 := Nat.le_trans hz7 hb.size
        clear hb
        go_wp2_with fail
        refine (rmay_b _ HMAY.out).mono ?_
        rintro e w9 ⟨rfl, hb⟩
        have HB9 := below_after HB8 hb HB8.size
        have K9 := K8.on hb
        have c9 := K9.c
        have hT9 := hT8.below (hb.mono hz8)
        have hz9 := Nat.le_trans hz8 hb.size
        clear hb
        go_wp2_with fail
        refine (has_b _ hT9 hz9 (by omega) HH.out).mono ?_
        rintro e w10 ⟨rfl, hb⟩
        have HB9 := below_after HB9 hb HB9.size
        go_wp2_with fail
        go_ret
        exact ⟨rfl, HB9⟩
  · go_simp
    refine hK.out _ _ (keepB K3 (hHeld.1.alloc hHeld.1.size _)) (fun hHeld => ?_)
    clear hK K
    try simp only [List.getElem_toArray, List.getElem_cons_succ, List.getElem_cons_zero, Act.put, List.setIfInBounds_toArray, List.set_cons_zero, List.set_cons_succ]
    refine wpAnyH_ready (rs := [1]) (by kernel_rfl) (by simp) ?_
    refine (AllReadyH.cons rfl (fun K hK => ?_) AllReadyH.nil)
    refine wp_append_any _ _ _ 38 rfl w3.heap.size 33 i0 (.agg #[.int .i64 0, .int .i64 0]) 2 16 Try.underlying38 hi0 hz0 hz1 hz2 rfl (by decide) (.slice none 0 0) 0 [] rfl (World.ownsRow_nil _ _ _ _) w.heap.size _ _ _ (tmCells l0) rfl (H0.out.below (HB3.trans (hHeld.1.mono HB3.size))) (tmCells_one _) (by unfold maxLen; omega) (by omega) hHeld.1.size ?_
    intro v1 w4 hown4 hg4 _
    have hb4 : Below w3.heap.size w3 w4 := hHeld.1.trans ((Touch.grown hg4).below (by simp [Value.ownBlock]) hHeld.1.size)
    have KS4 : Blk w4 w3.heap.size 33 #[.int .i64 t.e, .int .i64 t.l] := Blk.touch (by first | exact Blk.at_ _ _ _ rfl | exact (Blk.at_ w3 _ _ rfl).drewN 1) (Touch.grown hg4) (by simp [Value.ownBlock])
    refine hK.out _ _ (keepB K3 hb4) (fun hHeld => ?_)
    clear hK K
    try simp only [List.getElem_toArray, List.getElem_cons_succ, List.getElem_cons_zero, Act.put, List.setIfInBounds_toArray, List.set_cons_zero, List.set_cons_succ]
    refine wpAnyH_ready (rs := [4]) (by kernel_rfl) (by simp) ?_
    refine (AllReadyH.cons rfl (fun K hK => ?_) AllReadyH.nil)
    refine wp_append_any _ _ _ 38 rfl w3.heap.size 33 i0 (.agg #[.int .i64 0, .int .i64 0]) 2 16 Try.underlying38 hi0 hz0 hz1 hz2 rfl (by decide) v1 (0 + n0) ([] ++ tmCells l0) rfl (hown4) (w3.heap.size + 1) _ _ _ [.int .i64 t.e, .int .i64 t.l] rfl (reads_two (t := t) KS4) (two_one t) (by unfold maxLen; omega) (by omega) hHeld.1.size ?_
    intro v2 w5 hown5 hg5 _
    have hb5 : Below w3.heap.size w3 w5 := hHeld.1.trans ((Touch.grown hg5).below (fun y hy => (hown4.lt y (by simpa using hy)).1) hHeld.1.size)
    have hown5 : w5.ownsRow w3.heap.size 33 2 v2 (n0 + 1) (tmCells (l0 ++ [t])) := by rw [tmCells_append]; simpa [tmCells] using hown5
    obtain ⟨A5, c5, rfl⟩ := own_slice hown5
    have HT5 := Lib.hid (reads_own hown5)
    refine hK.out _ _ (keepB K3 hb5) (fun hHeld => ?_)
    clear hK K
    try simp only [List.getElem_toArray, List.getElem_cons_succ, List.getElem_cons_zero, Act.put, List.setIfInBounds_toArray, List.set_cons_zero, List.set_cons_succ]
    refine wpAnyH_ready (rs := [5]) (by kernel_rfl) (by simp) ?_
    refine (AllReadyH.cons rfl (fun K hK => ?_) AllReadyH.nil)
    go_simp
    refine (min_s _ HT5.out (Nat.le_refl _) (by omega)).mono ?_
    rintro e w6 ⟨A6, M6, c6, m6, rfl, hm6, hM6, hT6, hb, _⟩
    have HM6 := Lib.hid hm6
    have HT6 := Lib.hid hT6
    have hb6 : Below w3.heap.size w3 w6 := below_after hHeld.1 hb hHeld.1.size
    clear hm6 hT6
    refine hK.out _ _ (keepB K3 hb6) (fun hHeld => ?_)
    clear hK K
    try simp only [List.getElem_toArray, List.getElem_cons_succ, List.getElem_cons_zero, Act.put, List.setIfInBounds_toArray, List.set_cons_zero, List.set_cons_succ]
    refine wpAnyH_take (i := 6) (v := ?_) rfl (by kernel_rfl) (by kernel_rfl) (by kernel_rfl) (fun _ _ _ h => h) (Or.inl ⟨by rfl, ?_⟩) hHeld ?_
    rotate_left
    · intro W hS
      try dsimp only at hS
      go_simp
      try with_reducible rfl
    try simp only [List.getElem_toArray, List.getElem_cons_succ, List.getElem_cons_zero, Act.put, List.setIfInBounds_toArray, List.set_cons_zero, List.set_cons_succ]
    refine wpAnyH_done (by kernel_rfl) ?_ _
    have HB6 : Below w.heap.size w w6 := HB3.trans (hb6.mono HB3.size)
    have K6 := Lib.hid (K3.on hb6)
    have T36 := Lib.hid (HT3.out.below hb6)
    have hz36 := hb6.size
    have HMORE := Lib.hid (HM3.out.more HM6.out)
    clear hHeld hb6
    cases hmay : t.may
    · have HS := Lib.hid (HMORE.out.2.2 (.inl hmay))
      have HMAY := Lib.hid hmay
      clear hmay
      go_wp2_with fail
      refine (same_b (b := true) _ T36.out HT6.out ⟨fun _ => HS.out, fun _ => rfl⟩ (by omega) (by omega)).mono ?_
      rintro e w7 ⟨rfl, hb⟩
      have HB7 := below_after HB6 hb HB6.size
      have K7 := K6.out.on hb
      have hT7 := T36.out.below (hb.mono hz36)
      have hT6b := HT6.out.below hb
      have c7 := K7.c
      have hz7 := Nat.le_trans hz36 hb.size
      have hz7b := hb.size
      clear hb
      go_wp2_with fail
      refine (under_s _ hT6b hT7 hz7b hz7 (by omega) (by omega) HMORE.out.1).mono ?_
      rintro e w8 ⟨rfl, hb⟩
      have HB8 := below_after HB7 hb HB7.size
      have K8 := K7.on hb
      have hT8 := hT7.below (hb.mono hz7)
      have c8 := K8.c
      have hz8 := Nat.le_trans hz7 hb.size
      clear hb
      go_wp2_with fail
      refine (rmay_b _ HMAY.out).mono ?_
      rintro e w9 ⟨rfl, hb⟩
      have HB9 := below_after HB8 hb HB8.size
      have K9 := K8.on hb
      have c9 := K9.c
      have hT9 := hT8.below (hb.mono hz8)
      have hz9 := Nat.le_trans hz8 hb.size
      clear hb
      go_wp2_with fail
      go_ret
      exact ⟨rfl, HB9⟩
    · have HMAY := Lib.hid hmay
      clear hmay
      cases hh : hasL m3 t
      · have HS := Lib.hid (show ¬ m3 = m6 from fun h => by have := HMORE.out.2.1 h; rw [HMAY.out, hh] at this; simp at this)
        have HH := Lib.hid hh
        clear hh
        go_wp2_with fail
        refine (same_b (b := false) _ T36.out HT6.out ⟨fun h => (by cases h), fun h => absurd h HS.out⟩ (by omega) (by omega)).mono ?_
        rintro e w7 ⟨rfl, hb⟩
        have HB7 := below_after HB6 hb HB6.size
        have K7 := K6.out.on hb
        have hT7 := T36.out.below (hb.mono hz36)
        have hT6b := HT6.out.below hb
        have c7 := K7.c
        have hz7 := Nat.le_trans hz36 hb.size
        have hz7b := hb.size
        clear hb
        go_wp2_with fail
        refine (under_s _ hT6b hT7 hz7b hz7 (by omega) (by omega) HMORE.out.1).mono ?_
        rintro e w8 ⟨rfl, hb⟩
        have HB8 := below_after HB7 hb HB7.size
        have K8 := K7.on hb
        have hT8 := hT7.below (hb.mono hz7)
        have c8 := K8.c
        have hz8 := Nat.le_trans hz7 hb.size
        clear hb
        go_wp2_with fail
        refine (rmay_b _ HMAY.out).mono ?_
        rintro e w9 ⟨rfl, hb⟩
        have HB9 := below_after HB8 hb HB8.size
        have K9 := K8.on hb
        have c9 := K9.c
        have hT9 := hT8.below (hb.mono hz8)
        have hz9 := Nat.le_trans hz8 hb.size
        clear hb
        go_wp2_with fail
        refine (has_b _ hT9 hz9 (by omega) HH.out).mono ?_
        rintro e w10 ⟨rfl, hb⟩
        have HB9 := below_after HB9 hb HB9.size
        go_wp2_with fail
        go_ret
        exact ⟨rfl, HB9⟩
      · have HS := Lib.hid (HMORE.out.2.2 (.inr hh))
        have HH := Lib.hid hh
        clear hh
        go_wp2_with fail
        refine (same_b (b := true) _ T36.out HT6.out ⟨fun _ => HS.out, fun _ => rfl⟩ (by omega) (by omega)).mono ?_
        rintro e w7 ⟨rfl, hb⟩
        have HB7 := below_after HB6 hb HB6.size
        have K7 := K6.out.on hb
        have hT7 := T36.out.below (hb.mono hz36)
        have hT6b := HT6.out.below hb
        have c7 := K7.c
        have hz7 := Nat.le_trans hz36 hb.size
        have hz7b := hb.size
        clear hb
        go_wp2_with fail
        refine (under_s _ hT6b hT7 hz7b hz7 (by omega) (by omega) HMORE.out.1).mono ?_
        rintro e w8 ⟨rfl, hb⟩
        have HB8 := below_after HB7 hb HB7.size
        have K8 := K7.on hb
        have hT8 := hT7.below (hb.mono hz7)
        have c8 := K8.c
        have hz8 := Nat.le_trans hz7 hb.size
        clear hb
        go_wp2_with fail
        refine (rmay_b _ HMAY.out).mono ?_
        rintro e w9 ⟨rfl, hb⟩
        have HB9 := below_after HB8 hb HB8.size
        have K9 := K8.on hb
        have c9 := K9.c
        have hT9 := hT8.below (hb.mono hz8)
        have hz9 := Nat.le_trans hz8 hb.size
        clear hb
        go_wp2_with fail
        refine (has_b _ hT9 hz9 (by omega) HH.out).mono ?_
        rintro e w10 ⟨rfl, hb⟩
        have HB9 := below_after HB9 hb HB9.size
        go_wp2_with fail
        go_ret
        exact ⟨rfl, HB9⟩
theorem antiMore_walk (a b : Int) {A0 : Option Addr} {n0 c0 : Nat} {l0 : List Tm} (w : World) (r0 : Tms w w.heap.size A0 n0 l0) (_ : n0 ≤ maxLen) (_ : n0 ≤ c0) : Calls Try.prog 9 #[.slice A0 n0 c0, tmv ⟨a, b⟩] w fun e w' => e = .returned (.bool true) ∧ Below w.heap.size w w' := by
  by_cases h0 : 60 < n0
  · exact amore_early w h0
  · exact amore_main w r0 h0

namespace antiMore
set_option maxRecDepth 100000 in
theorem contract (H : Type) (enc : TypeId × Value → H) (W : World) (base : Nat) (args : Array Value) (ds gs : List (DataW H)) (before : List MemPlace)
    (hval : ∀ (j : Nat) t v, Try.f9.params[j]? = some t → args[j]? = some v → Value.okWide Try.prog W .any base t v)
    (hW : DataW.Whole enc Try.prog Try.f9.params.toList Rows.antiMoreSpec.vars false W args.toList ds gs before) :
    Calls Try.prog 9 args W fun e W' => ∃ v, e = .returned v ∧ Rows.antiMoreSpec.post enc Try.prog Try.f9 false true false false W args v W' := by
  have hWc := hW
  obtain ⟨p, q, hA0, hV, _, _, _⟩ := hW
  have hA : DataW.TrodAll enc Try.prog W 0 (fun _ => true) true Try.f9.params.toList args.toList ds p := hA0
  clear hA0
  rw [Try.params9] at hA hval
  obtain ⟨v0, vs0, d0, ds0, p0, q0, hargs, rfl, rfl, h0, r0⟩ := trodAll_cons hA
  obtain ⟨v1, vs1, d1, ds1, p1, q1, rfl, rfl, rfl, h1, r1⟩ := trodAll_cons r0
  obtain ⟨rfl, rfl, rfl⟩ := trodAll_nil r1
  obtain rfl : args = #[v0, v1] := by cases args; simp_all
  obtain ⟨A0, n0, c0, l0, rfl, hr0, hn0, hc0⟩ := open_tms (hval 0 38 v0 rfl rfl) h0
  obtain ⟨c1, c1', y1, y1', m1, rfl, rfl, rfl, hy1, hy1'⟩ := open_agg2 Try.underlying33 (by kernel_rfl) (by kernel_rfl : Try.prog.cellsOf 33 = 2) (hval 1 33 v1 rfl rfl) h1
  obtain ⟨a1, e1, rfl, wa1⟩ := DataW.trod_int Try.underlying3 hy1
  obtain ⟨b1, e1', rfl, wb1⟩ := DataW.trod_int Try.underlying3 hy1'
  simp at e1 e1'
  subst e1 e1'
  refine (antiMore_walk a1 b1 W hr0 (Nat.le_trans hn0 hc0) hn0).mono fun e W' ⟨he, hb⟩ => ⟨_, he, ?_⟩
  exact post_true hWc rfl hb laidOut (readables (by kernel_rfl)) rfl Try.underlying4 (fun h => by subst h; rfl)

set_option maxRecDepth 100000 in
theorem lifted (os : Os) (started : os.Started) (H : Type) (enc : TypeId × Value → H) :
    ReturnsInHanded {} Try.checked os 9 .any (Rows.antiMoreSpec.pre6 enc Try.prog Try.f9 Rows.antiMoreRow.domain false) (Rows.antiMoreSpec.post enc Try.prog Try.f9 false true false false) := by
  refine returnsInHanded_of_change (C := Try.checked) own started (by kernel_rfl) Try.func9
    (ChangeSpec.witness6 (enc := enc) (C := Try.checked) false ⟨#[], #[.slice none 0 0, .agg #[.int .i64 0, .int .i64 0]], []⟩ 8 (by kernel_rfl) (by kernel_rfl) (by kernel_rfl) (by kernel_rfl)) ?_
  intro W base args ds gs before hval hW _ _
  exact contract H enc W base args ds gs before hval hW

theorem proved : Rows.AntiMoreSaid :=
  OpenClaim.holds_of_wide 9 Try.f9 rfl rfl rfl rfl rfl rfl rfl ⟨rfl, rfl, rfl, rfl, rfl⟩ rfl rfl rfl rfl rfl (by kernel_rfl) Try.func9 (by kernel_rfl)
    (of_decide_eq_true (by kernel_rfl)) (by unfold Func.isWrapper; first | (rw [if_pos (by decide +kernel)]; kernel_rfl) | (rw [if_neg (by decide +kernel)]; exact ⟨rfl, rfl⟩))
    (fun os started H enc _ => lifted os started H enc)
end antiMore
end Go.Proofs.Ytifoonjhcjmehaa
