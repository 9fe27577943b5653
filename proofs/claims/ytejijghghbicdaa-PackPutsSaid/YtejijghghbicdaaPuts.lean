/-
  PackPuts: the bytes of any numbers, as the reference puts them, behind any bytes; the bytes that came in are as they were; the call returns true and changes nothing that was in memory.
-/
import Derived.Test.YtejijghghbicdaaPackAlive
import Derived.Test.YtejijghghbicdaaOpen
namespace Go.Proofs.Ytejijghghbicdaa
open Go.ChangeShapes Go.WideShapes Go.ChangeAt Go.RowKit Go.Joins
set_option linter.unusedSimpArgs false
set_option linter.unusedVariables false


set_option maxHeartbeats 400000 in
theorem puts_early_a {A A2 A3 : Option Addr} {n c m c2 k c3 : Nat} (w : World) (hnc : n ≤ maxLen) (hmc : m ≤ maxLen) (hkc : k ≤ maxLen) (h : 1000 < n) :
    Calls Try.prog 3 #[.slice A n c, .slice A2 m c2, .slice A3 k c3] w fun e w' => e = .returned (.bool true) ∧ Below w.heap.size w w' := by
  unfold maxLen at hnc hmc hkc
  go_enter Try.func3, Try.ntmps3
  go_wp2_with fail
  refine (alive1_any _).mono ?_
  rintro e w1 ⟨rfl, hb⟩
  go_wp2_with fail
  go_ret
  exact ⟨rfl, hb⟩


set_option maxHeartbeats 400000 in
theorem puts_early_b {A A2 A3 : Option Addr} {n c m c2 k c3 : Nat} (w : World) (hnc : n ≤ maxLen) (hmc : m ≤ maxLen) (hkc : k ≤ maxLen) (h1 : ¬ 1000 < n) (h : 100 < m) :
    Calls Try.prog 3 #[.slice A n c, .slice A2 m c2, .slice A3 k c3] w fun e w' => e = .returned (.bool true) ∧ Below w.heap.size w w' := by
  unfold maxLen at hnc hmc hkc
  go_enter Try.func3, Try.ntmps3
  go_wp2_with fail
  refine (alive1_any _).mono ?_
  rintro e w1 ⟨rfl, hb⟩
  go_wp2_with fail
  go_ret
  exact ⟨rfl, hb⟩


set_option maxHeartbeats 400000 in
theorem puts_early_c {A A2 A3 : Option Addr} {n c m c2 k c3 : Nat} (w : World) (hnc : n ≤ maxLen) (hmc : m ≤ maxLen) (hkc : k ≤ maxLen) (h1 : ¬ 1000 < n) (h2 : ¬ 100 < m) (h : 100 < k) :
    Calls Try.prog 3 #[.slice A n c, .slice A2 m c2, .slice A3 k c3] w fun e w' => e = .returned (.bool true) ∧ Below w.heap.size w w' := by
  unfold maxLen at hnc hmc hkc
  go_enter Try.func3, Try.ntmps3
  go_wp2_with fail
  refine (alive1_any _).mono ?_
  rintro e w1 ⟨rfl, hb⟩
  go_wp2_with fail
  go_ret
  exact ⟨rfl, hb⟩


set_option maxRecDepth 100000 in
set_option maxHeartbeats 4000000 in
theorem puts_main {A A2 A3 : Option Addr} {n c m c2 k c3 : Nat} {xs ys : List Nat} {zs : List Int} (w : World) (hx : Reads w w.heap.size 1 A n (u8s xs)) (hz : Reads w w.heap.size 1 A2 m (i64s zs)) (hy : Reads w w.heap.size 1 A3 k (u64s ys)) (hxs : ∀ x ∈ xs, x < 256) (hzs : ∀ z ∈ zs, IN64 z) (hys : ∀ y ∈ ys, W64 y) (hnc : n ≤ maxLen) (hmc : m ≤ maxLen) (hkc : k ≤ maxLen) (h1 : ¬ 1000 < n) (h2 : ¬ 100 < m) (h3 : ¬ 100 < k) :
    Calls Try.prog 3 #[.slice A n c, .slice A2 m c2, .slice A3 k c3] w fun e w' => e = .returned (.bool true) ∧ Below w.heap.size w w' := by
  unfold maxLen at hnc hmc hkc
  obtain ⟨i0, hi0, hz0, hz1, hz2⟩ := info_parts infoU8
  go_enter Try.func3, Try.ntmps3
  go_wp2_with fail
  refine (alive1_any _).mono ?_
  rintro e w1 ⟨rfl, hb1⟩
  go_wp2_with (at_make; refine wpList_make_own _ rfl _ _ 22 rfl w.heap.size 5 i0 (.int .u8 0) 1 Try.underlying22 hi0 hz0 hz1 _ _ _ (n + 200) rfl rfl (by omega) (by rw [hz2]; omega) (by unfold maxLen; omega) hb1.size ?_)
  intro w2 hown2 hg2
  have hb2 : Below w.heap.size w w2 := hb1.grown hg2 hb1.size (by simp)
  clear hg2
  go_wp2_with (at_builtin; refine wpList_append_any _ rfl _ _ 22 rfl w.heap.size 5 i0 (.int .u8 0) 1 1 Try.underlying22 hi0 hz0 hz1 hz2 rfl (by decide) _ _ _ rfl hown2 w.heap.size A n c (u8s xs) rfl (hx.below hb2) (u8s_one _) (by unfold maxLen; omega) (by omega) hb2.size ?_)
  intro v3 w3 hown3 hg3 _
  have hb3 : Below w.heap.size w w3 := hb2.grown hg3 hb2.size (fun g hg => (hown2.lt g hg).1)
  clear hg3 hown2
  obtain ⟨B, p, rfl⟩ := own_form hown3
  have hB := Reads.of_own hown3
  clear hown3
  go_wp2_with fail
  refine (gets (int_any (B := w3.heap.size) _ hB ((hz.below hb3).more hb3.size) (Nat.le_refl _) hzs (by omega) (by omega))).mono ?_
  rintro e w4 ⟨C, r, q, rfl, hC, hb4⟩
  go_wp2_with fail
  refine (gets (word_any (B := w4.heap.size) _ ((hB.below hb4).more hb4.size) ((hy.below (hb3.trans (hb4.mono hb3.size))).more (Nat.le_trans hb3.size hb4.size)) (Nat.le_refl _) hys (by omega) (by omega))).mono ?_
  rintro e w5 ⟨D, t, u, rfl, hD, hb5⟩
  obtain ⟨N, hN⟩ : ∃ N, N = w5.heap.size := ⟨_, rfl⟩
  have HBb : Below w.heap.size w w5 := (hb3.trans (hb4.mono hb3.size)).trans (hb5.mono (Nat.le_trans hb3.size hb4.size))
  have R0 : Reads w5 N 1 A n (u8s xs) := by rw [hN]; exact (hx.below HBb).more HBb.size
  have R1 : Reads w5 N 1 B n (u8s xs) := by rw [hN]; exact (((hB.below hb4).more hb4.size).below hb5).more hb5.size
  have R2 : Reads w5 N 1 C r (u8s (xs ++ encs (zs.map nat0))) := by rw [hN]; exact (hC.below hb5).more hb5.size
  have R3 : Reads w5 N 1 D t (u8s (xs ++ encs ys)) := by rw [hN]; exact hD
  have hN2 : N ≤ w5.heap.size := Nat.le_of_eq hN
  have hN3 : w.heap.size ≤ N := by rw [hN]; exact HBb.size
  clear hN hD hC hB
  go_wp2_with fail
  refine wp_region_held_drew (S := (fun W => Below w.heap.size w W ∧ N ≤ W.heap.size ∧ Reads W N 1 A n (u8s (xs)) ∧ Reads W N 1 B n (u8s (xs)) ∧ Reads W N 1 C r (u8s (xs ++ encs (zs.map nat0))) ∧ Reads W N 1 D t (u8s (xs ++ encs ys)) ∧ (convert 22 9 (.slice A n c)).run Try.prog W = .ok (.string (strOf (xs))) W ∧ (convert 22 9 (.slice B n p)).run Try.prog W = .ok (.string (strOf (xs))) W ∧ (convert 22 9 (.slice C r q)).run Try.prog W = .ok (.string (strOf (xs ++ encs (zs.map nat0)))) W ∧ (convert 22 9 (.slice D t u)).run Try.prog W = .ok (.string (strOf (xs ++ encs ys))) W)) (by kernel_rfl) (⟨HBb.drew, hN2, R0, R1, R2, R3, run_str _ _ _ _ Try.underlying22 Try.underlying5 Try.underlying9 R0, run_str _ _ _ _ Try.underlying22 Try.underlying5 Try.underlying9 R1, run_str _ _ _ _ Try.underlying22 Try.underlying5 Try.underlying9 R2, run_str _ _ _ _ Try.underlying22 Try.underlying5 Try.underlying9 R3⟩) (fun hHeld => ?_)
  refine wpAnyH_take (i := 0) (v := ?_) rfl (by kernel_rfl) (by kernel_rfl) (by kernel_rfl) (fun _ _ _ h => h) (Or.inl ⟨by rfl, ?_⟩) hHeld ?_
  rotate_left
  · intro W hS
    try dsimp only at hS
    go_simp
    try with_reducible rfl
  try simp only [List.getElem_toArray, List.getElem_cons_succ, List.getElem_cons_zero, Act.put, List.setIfInBounds_toArray, List.set_cons_zero, List.set_cons_succ]
  refine wpAnyH_take (i := 1) (v := ?_) rfl (by kernel_rfl) (by kernel_rfl) (by kernel_rfl) (fun _ _ _ h => h) (Or.inl ⟨by rfl, ?_⟩) hHeld ?_
  rotate_left
  · intro W hS
    try dsimp only at hS
    go_simp
    try with_reducible rfl
  try simp only [List.getElem_toArray, List.getElem_cons_succ, List.getElem_cons_zero, Act.put, List.setIfInBounds_toArray, List.set_cons_zero, List.set_cons_succ]
  refine wpAnyH_take (i := 2) (v := ?_) rfl (by kernel_rfl) (by kernel_rfl) (by kernel_rfl) (fun _ _ _ h => h) (Or.inl ⟨by rfl, ?_⟩) hHeld ?_
  rotate_left
  · intro W hS
    try dsimp only at hS
    go_simp
    try with_reducible rfl
  try simp only [List.getElem_toArray, List.getElem_cons_succ, List.getElem_cons_zero, Act.put, List.setIfInBounds_toArray, List.set_cons_zero, List.set_cons_succ]
  refine wpAnyH_take (i := 3) (v := ?_) rfl (by kernel_rfl) (by kernel_rfl) (by kernel_rfl) (fun _ _ _ h => h) (Or.inl ⟨by rfl, ?_⟩) hHeld ?_
  rotate_left
  · intro W hS
    try dsimp only at hS
    go_simp
    try with_reducible rfl
  try simp only [List.getElem_toArray, List.getElem_cons_succ, List.getElem_cons_zero, Act.put, List.setIfInBounds_toArray, List.set_cons_zero, List.set_cons_succ]
  refine wpAnyH_ready (rs := [4]) (by kernel_rfl) (by simp) ?_
  refine AllReadyH.cons rfl (fun K hK => ?_) AllReadyH.nil
  go_simp
  refine (gets (rint_any (B := N) _ hHeld.2.2.1 ((hz.below hHeld.1).more hN3) hHeld.2.1 hzs (by omega) (by omega))).mono ?_
  rintro e w6 ⟨E, x4, y4, rfl, hE, hb⟩
  have hcv := run_str _ _ _ _ Try.underlying22 Try.underlying5 Try.underlying9 (c := y4) hE
  refine hK.out _ _ (⟨below_after hHeld.1 hb hHeld.1.size, Nat.le_trans hHeld.2.1 hb.size, (hHeld.2.2.1.below (hb.mono hHeld.2.1)), (hHeld.2.2.2.1.below (hb.mono hHeld.2.1)), (hHeld.2.2.2.2.1.below (hb.mono hHeld.2.1)), (hHeld.2.2.2.2.2.1.below (hb.mono hHeld.2.1)), run_str _ _ _ _ Try.underlying22 Try.underlying5 Try.underlying9 (hHeld.2.2.1.below (hb.mono hHeld.2.1)), run_str _ _ _ _ Try.underlying22 Try.underlying5 Try.underlying9 (hHeld.2.2.2.1.below (hb.mono hHeld.2.1)), run_str _ _ _ _ Try.underlying22 Try.underlying5 Try.underlying9 (hHeld.2.2.2.2.1.below (hb.mono hHeld.2.1)), run_str _ _ _ _ Try.underlying22 Try.underlying5 Try.underlying9 (hHeld.2.2.2.2.2.1.below (hb.mono hHeld.2.1))⟩) (fun hHeld => ?_)
  clear hK K
  try simp only [List.getElem_toArray, List.getElem_cons_succ, List.getElem_cons_zero, Act.put, List.setIfInBounds_toArray, List.set_cons_zero, List.set_cons_succ]
  refine wpAnyH_ready (rs := [5]) (by kernel_rfl) (by simp) ?_
  refine AllReadyH.cons rfl (fun K hK => ?_) AllReadyH.nil
  go_simp
  refine hK.out _ _ (hHeld) (fun hHeld => ?_)
  clear hK K
  try simp only [List.getElem_toArray, List.getElem_cons_succ, List.getElem_cons_zero, Act.put, List.setIfInBounds_toArray, List.set_cons_zero, List.set_cons_succ]
  refine wpAnyH_take (i := 6) (v := ?_) rfl (by kernel_rfl) (by kernel_rfl) (by kernel_rfl) (fun _ _ _ h => h) (Or.inl ⟨by rfl, ?_⟩) hHeld ?_
  rotate_left
  · intro W hS
    try dsimp only at hS
    go_simp
    try with_reducible rfl
  try simp only [List.getElem_toArray, List.getElem_cons_succ, List.getElem_cons_zero, Act.put, List.setIfInBounds_toArray, List.set_cons_zero, List.set_cons_succ]
  refine wpAnyH_take (i := 7) (v := ?_) rfl (by kernel_rfl) (by kernel_rfl) (by kernel_rfl) (fun _ _ _ h => h) (Or.inl ⟨by rfl, ?_⟩) hHeld ?_
  rotate_left
  · intro W hS
    try dsimp only at hS
    go_simp
    try with_reducible rfl
  try simp only [List.getElem_toArray, List.getElem_cons_succ, List.getElem_cons_zero, Act.put, List.setIfInBounds_toArray, List.set_cons_zero, List.set_cons_succ]
  refine wpAnyH_take (i := 8) (v := ?_) rfl (by kernel_rfl) (by kernel_rfl) (by kernel_rfl) (fun _ _ _ h => h) (Or.inl ⟨by rfl, ?_⟩) hHeld ?_
  rotate_left
  · intro W hS
    try dsimp only at hS
    go_simp
    try with_reducible rfl
  try simp only [List.getElem_toArray, List.getElem_cons_succ, List.getElem_cons_zero, Act.put, List.setIfInBounds_toArray, List.set_cons_zero, List.set_cons_succ]
  refine wpAnyH_take (i := 9) (v := ?_) rfl (by kernel_rfl) (by kernel_rfl) (by kernel_rfl) (fun _ _ _ h => h) (Or.inl ⟨by rfl, ?_⟩) hHeld ?_
  rotate_left
  · intro W hS
    try dsimp only at hS
    go_simp
    try with_reducible rfl
  try simp only [List.getElem_toArray, List.getElem_cons_succ, List.getElem_cons_zero, Act.put, List.setIfInBounds_toArray, List.set_cons_zero, List.set_cons_succ]
  refine wpAnyH_take (i := 10) (v := ?_) rfl (by kernel_rfl) (by kernel_rfl) (by kernel_rfl) (fun _ _ _ h => h) (Or.inl ⟨by rfl, ?_⟩) hHeld ?_
  rotate_left
  · intro W hS
    try dsimp only at hS
    go_simp
    try with_reducible rfl
  try simp only [List.getElem_toArray, List.getElem_cons_succ, List.getElem_cons_zero, Act.put, List.setIfInBounds_toArray, List.set_cons_zero, List.set_cons_succ]
  refine wpAnyH_take (i := 11) (v := ?_) rfl (by kernel_rfl) (by kernel_rfl) (by kernel_rfl) (fun _ _ _ h => h) (Or.inl ⟨by rfl, ?_⟩) hHeld ?_
  rotate_left
  · intro W hS
    try dsimp only at hS
    go_simp
    try with_reducible rfl
  try simp only [List.getElem_toArray, List.getElem_cons_succ, List.getElem_cons_zero, Act.put, List.setIfInBounds_toArray, List.set_cons_zero, List.set_cons_succ]
  refine wpAnyH_ready (rs := [12]) (by kernel_rfl) (by simp) ?_
  refine AllReadyH.cons rfl (fun K hK => ?_) AllReadyH.nil
  go_simp
  refine (gets (rword_any (B := N) _ hHeld.2.2.1 ((hy.below hHeld.1).more hN3) hHeld.2.1 hys (by omega) (by omega))).mono ?_
  rintro e w7 ⟨G, x5, y5, rfl, hG, hb⟩
  have hcv2 := run_str _ _ _ _ Try.underlying22 Try.underlying5 Try.underlying9 (c := y5) hG
  refine hK.out _ _ (⟨below_after hHeld.1 hb hHeld.1.size, Nat.le_trans hHeld.2.1 hb.size, (hHeld.2.2.1.below (hb.mono hHeld.2.1)), (hHeld.2.2.2.1.below (hb.mono hHeld.2.1)), (hHeld.2.2.2.2.1.below (hb.mono hHeld.2.1)), (hHeld.2.2.2.2.2.1.below (hb.mono hHeld.2.1)), run_str _ _ _ _ Try.underlying22 Try.underlying5 Try.underlying9 (hHeld.2.2.1.below (hb.mono hHeld.2.1)), run_str _ _ _ _ Try.underlying22 Try.underlying5 Try.underlying9 (hHeld.2.2.2.1.below (hb.mono hHeld.2.1)), run_str _ _ _ _ Try.underlying22 Try.underlying5 Try.underlying9 (hHeld.2.2.2.2.1.below (hb.mono hHeld.2.1)), run_str _ _ _ _ Try.underlying22 Try.underlying5 Try.underlying9 (hHeld.2.2.2.2.2.1.below (hb.mono hHeld.2.1))⟩) (fun hHeld => ?_)
  clear hK K
  try simp only [List.getElem_toArray, List.getElem_cons_succ, List.getElem_cons_zero, Act.put, List.setIfInBounds_toArray, List.set_cons_zero, List.set_cons_succ]
  refine wpAnyH_ready (rs := [13]) (by kernel_rfl) (by simp) ?_
  refine AllReadyH.cons rfl (fun K hK => ?_) AllReadyH.nil
  go_simp
  refine hK.out _ _ (hHeld) (fun hHeld => ?_)
  clear hK K
  try simp only [List.getElem_toArray, List.getElem_cons_succ, List.getElem_cons_zero, Act.put, List.setIfInBounds_toArray, List.set_cons_zero, List.set_cons_succ]
  refine wpAnyH_take (i := 14) (v := ?_) rfl (by kernel_rfl) (by kernel_rfl) (by kernel_rfl) (fun _ _ _ h => h) (Or.inl ⟨by rfl, ?_⟩) hHeld ?_
  rotate_left
  · intro W hS
    try dsimp only at hS
    go_simp
    try with_reducible rfl
  try simp only [List.getElem_toArray, List.getElem_cons_succ, List.getElem_cons_zero, Act.put, List.setIfInBounds_toArray, List.set_cons_zero, List.set_cons_succ]
  refine wpAnyH_take (i := 15) (v := ?_) rfl (by kernel_rfl) (by kernel_rfl) (by kernel_rfl) (fun _ _ _ h => h) (Or.inl ⟨by rfl, ?_⟩) hHeld ?_
  rotate_left
  · intro W hS
    try dsimp only at hS
    go_simp
    try with_reducible rfl
  try simp only [List.getElem_toArray, List.getElem_cons_succ, List.getElem_cons_zero, Act.put, List.setIfInBounds_toArray, List.set_cons_zero, List.set_cons_succ]
  refine wpAnyH_take (i := 16) (v := ?_) rfl (by kernel_rfl) (by kernel_rfl) (by kernel_rfl) (fun _ _ _ h => h) (Or.inl ⟨by rfl, ?_⟩) hHeld ?_
  rotate_left
  · intro W hS
    try dsimp only at hS
    go_simp
    try with_reducible rfl
  try simp only [List.getElem_toArray, List.getElem_cons_succ, List.getElem_cons_zero, Act.put, List.setIfInBounds_toArray, List.set_cons_zero, List.set_cons_succ]
  refine wpAnyH_take (i := 17) (v := ?_) rfl (by kernel_rfl) (by kernel_rfl) (by kernel_rfl) (fun _ _ _ h => h) (Or.inl ⟨by rfl, ?_⟩) hHeld ?_
  rotate_left
  · intro W hS
    try dsimp only at hS
    go_simp
    try with_reducible rfl
  try simp only [List.getElem_toArray, List.getElem_cons_succ, List.getElem_cons_zero, Act.put, List.setIfInBounds_toArray, List.set_cons_zero, List.set_cons_succ]
  refine wpAnyH_take (i := 18) (v := ?_) rfl (by kernel_rfl) (by kernel_rfl) (by kernel_rfl) (fun _ _ _ h => h) (Or.inl ⟨by rfl, ?_⟩) hHeld ?_
  rotate_left
  · intro W hS
    try dsimp only at hS
    go_simp
    try with_reducible rfl
  try simp only [List.getElem_toArray, List.getElem_cons_succ, List.getElem_cons_zero, Act.put, List.setIfInBounds_toArray, List.set_cons_zero, List.set_cons_succ]
  refine wpAnyH_take (i := 19) (v := ?_) rfl (by kernel_rfl) (by kernel_rfl) (by kernel_rfl) (fun _ _ _ h => h) (Or.inl ⟨by rfl, ?_⟩) hHeld ?_
  rotate_left
  · intro W hS
    try dsimp only at hS
    go_simp
    try with_reducible rfl
  try simp only [List.getElem_toArray, List.getElem_cons_succ, List.getElem_cons_zero, Act.put, List.setIfInBounds_toArray, List.set_cons_zero, List.set_cons_succ]
  refine wpAnyH_take (i := 20) (v := ?_) rfl (by kernel_rfl) (by kernel_rfl) (by kernel_rfl) (fun _ _ _ h => h) (Or.inl ⟨by rfl, ?_⟩) hHeld ?_
  rotate_left
  · intro W hS
    try dsimp only at hS
    go_simp
    try with_reducible rfl
  try simp only [List.getElem_toArray, List.getElem_cons_succ, List.getElem_cons_zero, Act.put, List.setIfInBounds_toArray, List.set_cons_zero, List.set_cons_succ]
  refine wpAnyH_take (i := 21) (v := ?_) rfl (by kernel_rfl) (by kernel_rfl) (by kernel_rfl) (fun _ _ _ h => h) (Or.inl ⟨by rfl, ?_⟩) hHeld ?_
  rotate_left
  · intro W hS
    try dsimp only at hS
    go_simp
    try with_reducible rfl
  try simp only [List.getElem_toArray, List.getElem_cons_succ, List.getElem_cons_zero, Act.put, List.setIfInBounds_toArray, List.set_cons_zero, List.set_cons_succ]
  refine wpAnyH_take (i := 22) (v := ?_) rfl (by kernel_rfl) (by kernel_rfl) (by kernel_rfl) (fun _ _ _ h => h) (Or.inl ⟨by rfl, ?_⟩) hHeld ?_
  rotate_left
  · intro W hS
    try dsimp only at hS
    go_simp
    try with_reducible rfl
  try simp only [List.getElem_toArray, List.getElem_cons_succ, List.getElem_cons_zero, Act.put, List.setIfInBounds_toArray, List.set_cons_zero, List.set_cons_succ]
  refine wpAnyH_take (i := 23) (v := ?_) rfl (by kernel_rfl) (by kernel_rfl) (by kernel_rfl) (fun _ _ _ h => h) (Or.inl ⟨by rfl, ?_⟩) hHeld ?_
  rotate_left
  · intro W hS
    try dsimp only at hS
    go_simp
    try with_reducible rfl
  try simp only [List.getElem_toArray, List.getElem_cons_succ, List.getElem_cons_zero, Act.put, List.setIfInBounds_toArray, List.set_cons_zero, List.set_cons_succ]
  refine wpAnyH_done (by kernel_rfl) ?_ _
  go_wp2_with fail
  go_ret
  exact ⟨rfl, hHeld.1⟩


theorem packPuts_walk {A A2 A3 : Option Addr} {n c m c2 k c3 : Nat} {xs ys : List Nat} {zs : List Int} (w : World) (hx : Reads w w.heap.size 1 A n (u8s xs)) (hz : Reads w w.heap.size 1 A2 m (i64s zs)) (hy : Reads w w.heap.size 1 A3 k (u64s ys)) (hxs : ∀ x ∈ xs, x < 256) (hzs : ∀ z ∈ zs, IN64 z) (hys : ∀ y ∈ ys, W64 y) (hnc : n ≤ maxLen) (hmc : m ≤ maxLen) (hkc : k ≤ maxLen) :
    Calls Try.prog 3 #[.slice A n c, .slice A2 m c2, .slice A3 k c3] w fun e w' => e = .returned (.bool true) ∧ Below w.heap.size w w' := by
  by_cases h1 : 1000 < n
  · exact puts_early_a w hnc hmc hkc h1
  by_cases h2 : 100 < m
  · exact puts_early_b w hnc hmc hkc h1 h2
  by_cases h3 : 100 < k
  · exact puts_early_c w hnc hmc hkc h1 h2 h3
  exact puts_main w hx hz hy hxs hzs hys hnc hmc hkc h1 h2 h3


namespace packPuts
set_option maxRecDepth 100000 in
theorem contract (H : Type) (enc : TypeId × Value → H) (W : World) (base : Nat) (args : Array Value) (ds gs : List (DataW H)) (before : List MemPlace)
    (hval : ∀ (j : Nat) t v, Try.f3.params[j]? = some t → args[j]? = some v → Value.okWide Try.prog W .any base t v)
    (hW : DataW.Whole enc Try.prog Try.f3.params.toList Rows.packPutsSpec.vars false W args.toList ds gs before) :
    Calls Try.prog 3 args W fun e W' => ∃ v, e = .returned v ∧ Rows.packPutsSpec.post enc Try.prog Try.f3 false true false false W args v W' := by
  have hWc := hW
  obtain ⟨p, q, hA0, hV, _, _, _⟩ := hW
  have hA : DataW.TrodAll enc Try.prog W 0 (fun _ => true) true Try.f3.params.toList args.toList ds p := hA0
  clear hA0
  rw [Try.params3] at hA hval
  obtain ⟨v0, vs0, d0, ds0, p0, q0, hargs, rfl, rfl, h0, r0⟩ := trodAll_cons hA
  obtain ⟨v1, vs1, d1, ds1, p1, q1, rfl, rfl, rfl, h1, r1⟩ := trodAll_cons r0
  obtain ⟨v2, vs2, d2, ds2, p2, q2, rfl, rfl, rfl, h2, r2⟩ := trodAll_cons r1
  obtain ⟨rfl, rfl, rfl⟩ := trodAll_nil r2
  obtain rfl : args = #[v0, v1, v2] := by cases args; simp_all
  obtain ⟨A0, n0, c0, l0, rfl, hr0, hw0, hn0, hc0⟩ := open_u8s Try.underlying22 Try.underlying5 (by kernel_rfl) (hval 0 22 v0 rfl rfl) h0
  obtain ⟨A1, n1, c1, l1, rfl, hr1, hw1, hn1, hc1⟩ := open_i64s Try.underlying23 Try.underlying3 (by kernel_rfl) (hval 1 23 v1 rfl rfl) h1
  obtain ⟨A2, n2, c2, l2, rfl, hr2, hw2, hn2, hc2⟩ := open_u64s Try.underlying24 Try.underlying33 (by kernel_rfl) (hval 2 24 v2 rfl rfl) h2
  refine (packPuts_walk  W hr0 hr1 hr2 hw0 hw1 hw2 (Nat.le_trans hn0 hc0) (Nat.le_trans hn1 hc1) (Nat.le_trans hn2 hc2)).mono fun e W' ⟨he, hb⟩ => ⟨_, he, ?_⟩
  exact post_true hWc rfl hb laidOut (readables (by kernel_rfl)) rfl Try.underlying4 (fun h => by subst h; rfl)

set_option maxRecDepth 100000 in
theorem lifted (os : Os) (started : os.Started) (H : Type) (enc : TypeId × Value → H) :
    ReturnsInHanded {} Try.checked os 3 .any (Rows.packPutsSpec.pre6 enc Try.prog Try.f3 Rows.packPutsRow.domain false) (Rows.packPutsSpec.post enc Try.prog Try.f3 false true false false) := by
  refine returnsInHanded_of_change (C := Try.checked) own started (by kernel_rfl) Try.func3
    (ChangeSpec.witness6 (enc := enc) (C := Try.checked) false ⟨#[], #[.slice none 0 0, .slice none 0 0, .slice none 0 0], []⟩ 8 (by kernel_rfl) (by kernel_rfl) (by kernel_rfl) (by kernel_rfl)) ?_
  intro W base args ds gs before hval hW _ _
  exact contract H enc W base args ds gs before hval hW

theorem proved : Rows.PackPutsSaid :=
  OpenClaim.holds_of_wide 3 Try.f3 rfl rfl rfl rfl rfl rfl rfl ⟨rfl, rfl, rfl, rfl, rfl⟩ rfl rfl rfl rfl rfl (by kernel_rfl) Try.func3 (by kernel_rfl)
    (of_decide_eq_true (by kernel_rfl)) (by unfold Func.isWrapper; first | (rw [if_pos (by decide +kernel)]; kernel_rfl) | (rw [if_neg (by decide +kernel)]; exact ⟨rfl, rfl⟩))
    (fun os started H enc _ => lifted os started H enc)
end packPuts
end Go.Proofs.Ytejijghghbicdaa