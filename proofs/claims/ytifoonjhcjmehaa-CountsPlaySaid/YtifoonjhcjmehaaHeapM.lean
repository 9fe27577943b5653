/-
  The heap's methods on a row of times: Len, Less, Swap, Pop.
-/
import Derived.Test.YtifoonjhcjmehaaOrder
namespace Go.Proofs.Ytifoonjhcjmehaa
open Go.RowKit
set_option linter.unusedSimpArgs false
set_option linter.unusedVariables false

theorem hlen_any {A : Option Addr} {n c : Nat} (w : World) : Calls Try.prog 41 #[.slice A n c] w fun e w' => e = .returned (.int .i64 n) ∧ w' = w := by
  go_enter Try.func41, Try.ntmps41
  go_wp2
  go_ret
  exact ⟨rfl, rfl⟩

theorem keepL {w W w1 : World} {p q : Addr} {u0 u1 v0 v1 : Value}
    (h : Below w.heap.size w W ∧ W.cell? p = some u0 ∧ W.cell? ⟨p.block, p.off + 1, none⟩ = some u1 ∧ W.cell? q = some v0 ∧ W.cell? ⟨q.block, q.off + 1, none⟩ = some v1)
    (hb : Below W.heap.size W w1) (hp : p.block < w.heap.size) (hq : q.block < w.heap.size) :
    Below w.heap.size w w1 ∧ w1.cell? p = some u0 ∧ w1.cell? ⟨p.block, p.off + 1, none⟩ = some u1 ∧ w1.cell? q = some v0 ∧ w1.cell? ⟨q.block, q.off + 1, none⟩ = some v1 := by
  obtain ⟨HB, h0, h1, h2, h3⟩ := h
  have hs := HB.size
  have on : ∀ p : Addr, p.block < w.heap.size → ∀ v, W.cell? p = some v → w1.cell? p = some v := fun p hp v hv => (hb.cell (by omega)).trans hv
  exact ⟨below_after HB hb hs, on _ hp _ h0, on ⟨p.block, p.off + 1, none⟩ hp _ h1, on _ hq _ h2, on ⟨q.block, q.off + 1, none⟩ hq _ h3⟩

set_option maxRecDepth 100000 in
set_option maxHeartbeats 2000000 in
theorem hless_b {B n c : Nat} {A : Option Addr} {l : List Tm} {i j : Nat} {r : Bool} (w : World) (h : Tms w B A n l) (hB : B ≤ w.heap.size) (hi : i < n) (hj : j < n) (hn : n ≤ 1000000)
    (hr : (Tm.at_ l i).ahead (Tm.at_ l j) = r) :
    Calls Try.prog 92 #[.slice A n c, .int .i64 i, .int .i64 j] w fun e w' => e = .returned (.bool r) ∧ Below w.heap.size w w' := by
  obtain ⟨ad, rfl, hab, _, _, hc0, hc1⟩ := Tms.tm h hi
  obtain ⟨ad', e, _, _, _, hd0, hd1⟩ := Tms.tm h hj
  cases e
  rw [← ord_lt] at hr
  generalize Tm.at_ l i = x at hc0 hc1 hr
  generalize Tm.at_ l j = y at hd0 hd1 hr
  obtain ⟨o, ho⟩ : ∃ o, ord x y = o := ⟨_, rfl⟩
  rw [ho] at hr
  have HR := Lib.hid hr
  have HO := Lib.hid ho
  clear hr ho h
  have hab' : (ad.add (i * 2)).block < w.heap.size := by rw [block_of_add]; omega
  have hab2 : (ad.add (j * 2)).block < w.heap.size := by rw [block_of_add]; omega
  obtain ⟨p, hp⟩ : ∃ p, ad.add (i * 2) = p := ⟨_, rfl⟩
  obtain ⟨q, hq⟩ : ∃ q, ad.add (j * 2) = q := ⟨_, rfl⟩
  rw [hp] at hc0 hc1 hab'
  rw [hq] at hd0 hd1 hab2
  go_enter Try.func92, Try.ntmps92
  go_wp2_with fail
  refine wp_region_held_drew (S := (fun W => Below w.heap.size w W ∧ W.cell? p = some (.int .i64 x.e) ∧ W.cell? ⟨p.block, p.off + 1, none⟩ = some (.int .i64 x.l) ∧ W.cell? q = some (.int .i64 y.e) ∧ W.cell? ⟨q.block, q.off + 1, none⟩ = some (.int .i64 y.l))) (by kernel_rfl) (⟨(Below.refl _ _).drew, hc0, hc1, hd0, hd1⟩) (fun hHeld => ?_)
  refine wpAnyH_take (i := 0) (v := ?_) rfl (by kernel_rfl) (by kernel_rfl) (by kernel_rfl) (fun _ _ _ h => h) (Or.inl ⟨by rfl, ?_⟩) hHeld ?_
  rotate_left
  · intro W hS
    try dsimp only at hS
    go_simp
    try with_reducible rfl
  try simp only [List.getElem_toArray, List.getElem_cons_succ, List.getElem_cons_zero, Act.put, List.setIfInBounds_toArray, List.set_cons_zero, List.set_cons_succ]
  refine wpAnyH_take (i := 1) (v := ?_) rfl (by kernel_rfl) (by kernel_rfl) (by kernel_rfl) (fun _ _ _ h => h) (Or.inl ⟨by rfl, ?_⟩) hHeld ?_
  rotate_left
  · intro W hS
    try dsimp only at hS
    go_simp
    try with_reducible rfl
  try simp only [List.getElem_toArray, List.getElem_cons_succ, List.getElem_cons_zero, Act.put, List.setIfInBounds_toArray, List.set_cons_zero, List.set_cons_succ]
  refine wpAnyH_take (i := 2) (v := ?_) rfl (by kernel_rfl) (by kernel_rfl) (by kernel_rfl) (fun _ _ _ h => h) (Or.inl ⟨by rfl, ?_⟩) hHeld ?_
  rotate_left
  · intro W hS
    try dsimp only at hS
    go_simp
    try with_reducible rfl
  try simp only [List.getElem_toArray, List.getElem_cons_succ, List.getElem_cons_zero, Act.put, List.setIfInBounds_toArray, List.set_cons_zero, List.set_cons_succ]
  refine wpAnyH_take (i := 3) (v := ?_) rfl (by kernel_rfl) (by kernel_rfl) (by kernel_rfl) (fun _ _ _ h => h) (Or.inl ⟨by rfl, ?_⟩) hHeld ?_
  rotate_left
  · intro W hS
    try dsimp only at hS
    go_simp
    try with_reducible rfl
  try simp only [List.getElem_toArray, List.getElem_cons_succ, List.getElem_cons_zero, Act.put, List.setIfInBounds_toArray, List.set_cons_zero, List.set_cons_succ]
  refine wpAnyH_take (i := 4) (v := ?_) rfl (by kernel_rfl) (by kernel_rfl) (by kernel_rfl) (fun _ _ _ h => h) (Or.inl ⟨by rfl, ?_⟩) hHeld ?_
  rotate_left
  · intro W hS
    try dsimp only at hS
    go_simp
    try with_reducible rfl
  try simp only [List.getElem_toArray, List.getElem_cons_succ, List.getElem_cons_zero, Act.put, List.setIfInBounds_toArray, List.set_cons_zero, List.set_cons_succ]
  refine wpAnyH_take (i := 5) (v := ?_) rfl (by kernel_rfl) (by kernel_rfl) (by kernel_rfl) (fun _ _ _ h => h) (Or.inl ⟨by rfl, ?_⟩) hHeld ?_
  rotate_left
  · intro W hS
    try dsimp only at hS
    go_simp
    try with_reducible rfl
  try simp only [List.getElem_toArray, List.getElem_cons_succ, List.getElem_cons_zero, Act.put, List.setIfInBounds_toArray, List.set_cons_zero, List.set_cons_succ]
  refine wpAnyH_take (i := 6) (v := ?_) rfl (by kernel_rfl) (by kernel_rfl) (by kernel_rfl) (fun _ _ _ h => h) (Or.inl ⟨by rfl, ?_⟩) hHeld ?_
  rotate_left
  · intro W hS
    try dsimp only at hS
    go_simp
    try with_reducible rfl
  try simp only [List.getElem_toArray, List.getElem_cons_succ, List.getElem_cons_zero, Act.put, List.setIfInBounds_toArray, List.set_cons_zero, List.set_cons_succ]
  refine wpAnyH_take (i := 7) (v := ?_) rfl (by kernel_rfl) (by kernel_rfl) (by kernel_rfl) (fun _ _ _ h => h) (Or.inl ⟨by rfl, ?_⟩) hHeld ?_
  rotate_left
  · intro W hS
    try dsimp only at hS
    go_simp
    try with_reducible rfl
  try simp only [List.getElem_toArray, List.getElem_cons_succ, List.getElem_cons_zero, Act.put, List.setIfInBounds_toArray, List.set_cons_zero, List.set_cons_succ]
  refine wpAnyH_ready (rs := [8]) (by kernel_rfl) (by simp) ?_
  refine AllReadyH.cons rfl (fun K hK => ?_) AllReadyH.nil
  go_simp
  refine (order_b _ HO.out).mono ?_
  rintro e w1 ⟨rfl, hb⟩
  refine hK.out _ _ (keepL hHeld hb hab' hab2) (fun hHeld => ?_)
  clear hK K
  try simp only [List.getElem_toArray, List.getElem_cons_succ, List.getElem_cons_zero, Act.put, List.setIfInBounds_toArray, List.set_cons_zero, List.set_cons_succ]
  refine wpAnyH_take (i := 9) (v := ?_) rfl (by kernel_rfl) (by kernel_rfl) (by kernel_rfl) (fun _ _ _ h => h) (Or.inl ⟨by rfl, ?_⟩) hHeld ?_
  rotate_left
  · intro W hS
    try dsimp only at hS
    go_simp
    try with_reducible rfl
  try simp only [List.getElem_toArray, List.getElem_cons_succ, List.getElem_cons_zero, Act.put, List.setIfInBounds_toArray, List.set_cons_zero, List.set_cons_succ]
  refine wpAnyH_take (i := 10) (v := ?_) rfl (by kernel_rfl) (by kernel_rfl) (by kernel_rfl) (fun _ _ _ h => h) (Or.inl ⟨by rfl, ?_⟩) hHeld ?_
  rotate_left
  · intro W hS
    try dsimp only at hS
    go_simp
    try with_reducible rfl
  try simp only [List.getElem_toArray, List.getElem_cons_succ, List.getElem_cons_zero, Act.put, List.setIfInBounds_toArray, List.set_cons_zero, List.set_cons_succ]
  refine wpAnyH_done (by kernel_rfl) ?_ _
  go_wp2_with fail
  go_ret
  exact ⟨by rw [← HR.out]; rfl, hHeld.1⟩
end Go.Proofs.Ytifoonjhcjmehaa
