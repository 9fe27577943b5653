/-
  The reference's Request, by contracts: the bytes of a request, or that it has none.
-/
import Derived.Test.YtejijghghbicdaaWireReq
namespace Go.Proofs.Ytejijghghbicdaa
open Go.RowKit
set_option linter.unusedSimpArgs false
set_option linter.unusedVariables false

theorem no_12 {k id u v q a : Int} (h0 : ¬ id < 0) (hk : k = 1 ∨ k = 2) (hm : Req.may ⟨k, id, u, v, q, a⟩ = false) : (q ≠ 0 ∨ a ≠ 0) ∨ (q = 0 ∧ a = 0 ∧ vertexB u = false) ∨ (q = 0 ∧ a = 0 ∧ vertexB u = true ∧ vertexB v = false) := by
  rw [may_1 (by exact h0) (by exact hk)] at hm
  simp only at hm
  by_cases hq : q = 0 <;> by_cases ha : a = 0 <;> cases hu : vertexB u <;> cases hv : vertexB v <;> simp_all
set_option maxHeartbeats 1000000 in
theorem rreq_no_id (k id u v q a : Int) (h0 : id < 0) (w : World) : Calls Try.prog 39 #[.agg #[.int .i64 k, .int .i64 id, .int .i64 u, .int .i64 v, .int .i64 q, .int .i64 a]] w fun e w' => e = .returned (.tuple #[.slice none 0 0, .int .i64 1]) ∧ Below w.heap.size w w' := by
  go_enter Try.func39, Try.ntmps39
  go_wp2_with fail
  all_goals (go_ret2; exact ⟨rfl, (Below.refl _ _).alloc (Nat.le_refl _) _⟩)
set_option maxHeartbeats 1000000 in
theorem rreq_no_k (k id u v q a : Int) (h0 : ¬ id < 0) (e1 : (k == 1) = false) (e2 : (k == 2) = false) (e3 : (k == 3) = false) (e4 : (k == 4) = false) (w : World) : Calls Try.prog 39 #[.agg #[.int .i64 k, .int .i64 id, .int .i64 u, .int .i64 v, .int .i64 q, .int .i64 a]] w fun e w' => e = .returned (.tuple #[.slice none 0 0, .int .i64 1]) ∧ Below w.heap.size w w' := by
  go_enter Try.func39, Try.ntmps39
  go_wp2_with fail
  all_goals (go_ret2; exact ⟨rfl, (Below.refl _ _).alloc (Nat.le_refl _) _⟩)
set_option maxHeartbeats 1000000 in
theorem rreq_no_1q (id u v q a : Int) (h0 : ¬ id < 0) (hq : q ≠ 0 ∨ a ≠ 0) (w : World) : Calls Try.prog 39 #[.agg #[.int .i64 1, .int .i64 id, .int .i64 u, .int .i64 v, .int .i64 q, .int .i64 a]] w fun e w' => e = .returned (.tuple #[.slice none 0 0, .int .i64 1]) ∧ Below w.heap.size w w' := by
  by_cases hq0 : q = 0
  · subst hq0
    have ha : ¬ a = 0 := by omega
    clear hq
    go_enter Try.func39, Try.ntmps39
    go_wp2_with fail
    all_goals (go_ret2; exact ⟨rfl, (Below.refl _ _).alloc (Nat.le_refl _) _⟩)
  · clear hq
    go_enter Try.func39, Try.ntmps39
    go_wp2_with fail
    all_goals (go_ret2; exact ⟨rfl, (Below.refl _ _).alloc (Nat.le_refl _) _⟩)
set_option maxHeartbeats 1000000 in
theorem rreq_no_1u (id u v : Int) (h0 : ¬ id < 0) (hu : vertexB u = false) (w : World) : Calls Try.prog 39 #[.agg #[.int .i64 1, .int .i64 id, .int .i64 u, .int .i64 v, .int .i64 0, .int .i64 0]] w fun e w' => e = .returned (.tuple #[.slice none 0 0, .int .i64 1]) ∧ Below w.heap.size w w' := by
  have hu0 : ¬ u = 0 := by rintro rfl; simp [vertexB] at hu
  go_enter Try.func39, Try.ntmps39
  go_wp2_with (go_at_call 57; refine (rvertex_any _ _).mono ?_; rintro e w' ⟨rfl, rfl⟩)
  all_goals (go_ret2; exact ⟨rfl, (Below.refl _ _).alloc (Nat.le_refl _) _⟩)
set_option maxHeartbeats 1000000 in
theorem rreq_no_1v (id u v : Int) (h0 : ¬ id < 0) (hu : vertexB u = true) (hv : vertexB v = false) (w : World) : Calls Try.prog 39 #[.agg #[.int .i64 1, .int .i64 id, .int .i64 u, .int .i64 v, .int .i64 0, .int .i64 0]] w fun e w' => e = .returned (.tuple #[.slice none 0 0, .int .i64 1]) ∧ Below w.heap.size w w' := by
  have hv0 : ¬ v = 0 := by rintro rfl; simp [vertexB] at hv
  by_cases hu0 : u = 0
  · subst hu0
    go_enter Try.func39, Try.ntmps39
    go_wp2_with (go_at_call 57; refine (rvertex_any _ _).mono ?_; rintro e w' ⟨rfl, rfl⟩)
    all_goals (go_ret2; exact ⟨rfl, (Below.refl _ _).alloc (Nat.le_refl _) _⟩)
  · go_enter Try.func39, Try.ntmps39
    go_wp2_with (go_at_call 57; refine (rvertex_any _ _).mono ?_; rintro e w' ⟨rfl, rfl⟩)
    all_goals (go_ret2; exact ⟨rfl, (Below.refl _ _).alloc (Nat.le_refl _) _⟩)
set_option maxHeartbeats 1000000 in
theorem rreq_no_2q (id u v q a : Int) (h0 : ¬ id < 0) (hq : q ≠ 0 ∨ a ≠ 0) (w : World) : Calls Try.prog 39 #[.agg #[.int .i64 2, .int .i64 id, .int .i64 u, .int .i64 v, .int .i64 q, .int .i64 a]] w fun e w' => e = .returned (.tuple #[.slice none 0 0, .int .i64 1]) ∧ Below w.heap.size w w' := by
  by_cases hq0 : q = 0
  · subst hq0
    have ha : ¬ a = 0 := by omega
    clear hq
    go_enter Try.func39, Try.ntmps39
    go_wp2_with fail
    all_goals (go_ret2; exact ⟨rfl, (Below.refl _ _).alloc (Nat.le_refl _) _⟩)
  · clear hq
    go_enter Try.func39, Try.ntmps39
    go_wp2_with fail
    all_goals (go_ret2; exact ⟨rfl, (Below.refl _ _).alloc (Nat.le_refl _) _⟩)
set_option maxHeartbeats 1000000 in
theorem rreq_no_2u (id u v : Int) (h0 : ¬ id < 0) (hu : vertexB u = false) (w : World) : Calls Try.prog 39 #[.agg #[.int .i64 2, .int .i64 id, .int .i64 u, .int .i64 v, .int .i64 0, .int .i64 0]] w fun e w' => e = .returned (.tuple #[.slice none 0 0, .int .i64 1]) ∧ Below w.heap.size w w' := by
  have hu0 : ¬ u = 0 := by rintro rfl; simp [vertexB] at hu
  go_enter Try.func39, Try.ntmps39
  go_wp2_with (go_at_call 57; refine (rvertex_any _ _).mono ?_; rintro e w' ⟨rfl, rfl⟩)
  all_goals (go_ret2; exact ⟨rfl, (Below.refl _ _).alloc (Nat.le_refl _) _⟩)
set_option maxHeartbeats 1000000 in
theorem rreq_no_2v (id u v : Int) (h0 : ¬ id < 0) (hu : vertexB u = true) (hv : vertexB v = false) (w : World) : Calls Try.prog 39 #[.agg #[.int .i64 2, .int .i64 id, .int .i64 u, .int .i64 v, .int .i64 0, .int .i64 0]] w fun e w' => e = .returned (.tuple #[.slice none 0 0, .int .i64 1]) ∧ Below w.heap.size w w' := by
  have hv0 : ¬ v = 0 := by rintro rfl; simp [vertexB] at hv
  by_cases hu0 : u = 0
  · subst hu0
    go_enter Try.func39, Try.ntmps39
    go_wp2_with (go_at_call 57; refine (rvertex_any _ _).mono ?_; rintro e w' ⟨rfl, rfl⟩)
    all_goals (go_ret2; exact ⟨rfl, (Below.refl _ _).alloc (Nat.le_refl _) _⟩)
  · go_enter Try.func39, Try.ntmps39
    go_wp2_with (go_at_call 57; refine (rvertex_any _ _).mono ?_; rintro e w' ⟨rfl, rfl⟩)
    all_goals (go_ret2; exact ⟨rfl, (Below.refl _ _).alloc (Nat.le_refl _) _⟩)
set_option maxHeartbeats 1000000 in
theorem rreq_no_3e (id u v q a : Int) (h0 : ¬ id < 0) (he : u ≠ 0 ∨ v ≠ 0) (w : World) : Calls Try.prog 39 #[.agg #[.int .i64 3, .int .i64 id, .int .i64 u, .int .i64 v, .int .i64 q, .int .i64 a]] w fun e w' => e = .returned (.tuple #[.slice none 0 0, .int .i64 1]) ∧ Below w.heap.size w w' := by
  by_cases hu : u = 0
  · subst hu
    have hv : ¬ v = 0 := by omega
    clear he
    go_enter Try.func39, Try.ntmps39
    go_wp2_with fail
    all_goals (go_ret2; exact ⟨rfl, (Below.refl _ _).alloc (Nat.le_refl _) _⟩)
  · clear he
    go_enter Try.func39, Try.ntmps39
    go_wp2_with fail
    all_goals (go_ret2; exact ⟨rfl, (Below.refl _ _).alloc (Nat.le_refl _) _⟩)

set_option maxHeartbeats 1000000 in
theorem rreq_no_3q (id q a : Int) (h0 : ¬ id < 0) (hq : q < 1 ∨ 4 < q) (w : World) : Calls Try.prog 39 #[.agg #[.int .i64 3, .int .i64 id, .int .i64 0, .int .i64 0, .int .i64 q, .int .i64 a]] w fun e w' => e = .returned (.tuple #[.slice none 0 0, .int .i64 1]) ∧ Below w.heap.size w w' := by
  by_cases h1 : q < 1
  · clear hq
    go_enter Try.func39, Try.ntmps39
    go_wp2_with fail
    all_goals (go_ret2; exact ⟨rfl, (Below.refl _ _).alloc (Nat.le_refl _) _⟩)
  · have h4 : 4 < q := by omega
    clear hq
    go_enter Try.func39, Try.ntmps39
    go_wp2_with fail
    all_goals (go_ret2; exact ⟨rfl, (Below.refl _ _).alloc (Nat.le_refl _) _⟩)

set_option maxHeartbeats 1000000 in
theorem rreq_no_3a (id q a : Int) (h0 : ¬ id < 0) (h1 : ¬ q < 1) (h4 : ¬ 4 < q) (ha : a < 0) (w : World) : Calls Try.prog 39 #[.agg #[.int .i64 3, .int .i64 id, .int .i64 0, .int .i64 0, .int .i64 q, .int .i64 a]] w fun e w' => e = .returned (.tuple #[.slice none 0 0, .int .i64 1]) ∧ Below w.heap.size w w' := by
  go_enter Try.func39, Try.ntmps39
  go_wp2_with fail
  all_goals (go_ret2; exact ⟨rfl, (Below.refl _ _).alloc (Nat.le_refl _) _⟩)

set_option maxHeartbeats 1000000 in
theorem rreq_no_3b (id q a : Int) (h0 : ¬ id < 0) (hq : q = 2 ∨ q = 3) (ha : 0 < a) (w : World) : Calls Try.prog 39 #[.agg #[.int .i64 3, .int .i64 id, .int .i64 0, .int .i64 0, .int .i64 q, .int .i64 a]] w fun e w' => e = .returned (.tuple #[.slice none 0 0, .int .i64 1]) ∧ Below w.heap.size w w' := by
  have ha2 : ¬ a < 0 := by omega
  have ha3 : (a != 0) = true := by simp; omega
  have ha4 : ¬ a = 0 := by omega
  rcases hq with rfl | rfl
  · go_enter Try.func39, Try.ntmps39
    go_wp2_with fail
    all_goals (go_ret2; exact ⟨rfl, (Below.refl _ _).alloc (Nat.le_refl _) _⟩)
  · go_enter Try.func39, Try.ntmps39
    go_wp2_with fail
    all_goals (go_ret2; exact ⟨rfl, (Below.refl _ _).alloc (Nat.le_refl _) _⟩)

set_option maxHeartbeats 1000000 in
theorem rreq_no_4e (id u v q a : Int) (h0 : ¬ id < 0) (he : u ≠ 0 ∨ v ≠ 0) (w : World) : Calls Try.prog 39 #[.agg #[.int .i64 4, .int .i64 id, .int .i64 u, .int .i64 v, .int .i64 q, .int .i64 a]] w fun e w' => e = .returned (.tuple #[.slice none 0 0, .int .i64 1]) ∧ Below w.heap.size w w' := by
  by_cases hu : u = 0
  · subst hu
    have hv : ¬ v = 0 := by omega
    clear he
    go_enter Try.func39, Try.ntmps39
    go_wp2_with fail
    all_goals (go_ret2; exact ⟨rfl, (Below.refl _ _).alloc (Nat.le_refl _) _⟩)
  · clear he
    go_enter Try.func39, Try.ntmps39
    go_wp2_with fail
    all_goals (go_ret2; exact ⟨rfl, (Below.refl _ _).alloc (Nat.le_refl _) _⟩)

set_option maxHeartbeats 1000000 in
theorem rreq_no_4q (id q a : Int) (h0 : ¬ id < 0) (hq : ¬ q = 0) (w : World) : Calls Try.prog 39 #[.agg #[.int .i64 4, .int .i64 id, .int .i64 0, .int .i64 0, .int .i64 q, .int .i64 a]] w fun e w' => e = .returned (.tuple #[.slice none 0 0, .int .i64 1]) ∧ Below w.heap.size w w' := by
  have hq2 : (q != 0) = true := by simpa using hq
  go_enter Try.func39, Try.ntmps39
  go_wp2_with fail
  all_goals (go_ret2; exact ⟨rfl, (Below.refl _ _).alloc (Nat.le_refl _) _⟩)

set_option maxHeartbeats 1000000 in
theorem rreq_no_4a (id a : Int) (h0 : ¬ id < 0) (ha : a < 0) (w : World) : Calls Try.prog 39 #[.agg #[.int .i64 4, .int .i64 id, .int .i64 0, .int .i64 0, .int .i64 0, .int .i64 a]] w fun e w' => e = .returned (.tuple #[.slice none 0 0, .int .i64 1]) ∧ Below w.heap.size w w' := by
  go_enter Try.func39, Try.ntmps39
  go_wp2_with fail
  all_goals (go_ret2; exact ⟨rfl, (Below.refl _ _).alloc (Nat.le_refl _) _⟩)

theorem rreq_no (r : Req) (hm : r.may = false) (w : World) : Calls Try.prog 39 #[r.V] w fun e w' => e = .returned (.tuple #[.slice none 0 0, .int .i64 1]) ∧ Below w.heap.size w w' := by
  obtain ⟨k, id, u, v, q, a⟩ := r
  show Calls Try.prog 39 #[.agg #[.int .i64 k, .int .i64 id, .int .i64 u, .int .i64 v, .int .i64 q, .int .i64 a]] w _
  by_cases h0 : id < 0
  · exact rreq_no_id k id u v q a h0 w
  by_cases h1 : k = 1
  · subst h1
    rcases no_12 h0 (.inl rfl) hm with h | ⟨rfl, rfl, h⟩ | ⟨rfl, rfl, h, h'⟩
    · exact rreq_no_1q id u v q a h0 h w
    · exact rreq_no_1u id u v h0 h w
    · exact rreq_no_1v id u v h0 h h' w
  by_cases h2 : k = 2
  · subst h2
    rcases no_12 h0 (.inr rfl) hm with h | ⟨rfl, rfl, h⟩ | ⟨rfl, rfl, h, h'⟩
    · exact rreq_no_2q id u v q a h0 h w
    · exact rreq_no_2u id u v h0 h w
    · exact rreq_no_2v id u v h0 h h' w
  by_cases h3 : k = 3
  · subst h3
    by_cases he : u ≠ 0 ∨ v ≠ 0
    · exact rreq_no_3e id u v q a h0 he w
    obtain ⟨rfl, rfl⟩ : u = 0 ∧ v = 0 := by omega
    by_cases hq : q < 1 ∨ 4 < q
    · exact rreq_no_3q id q a h0 hq w
    by_cases ha : a < 0
    · exact rreq_no_3a id q a h0 (by omega) (by omega) ha w
    rw [may_3 (by exact h0) (by rfl)] at hm
    have hb : (q = 2 ∨ q = 3) ∧ 0 < a := by
      by_cases h14 : q = 1 ∨ q = 4
      · simp [queryB, h14] at hm; omega
      · have h23 : q = 2 ∨ q = 3 := by omega
        simp [queryB, h14, h23] at hm; omega
    exact rreq_no_3b id q a h0 hb.1 hb.2 w
  by_cases h4 : k = 4
  · subst h4
    by_cases he : u ≠ 0 ∨ v ≠ 0
    · exact rreq_no_4e id u v q a h0 he w
    obtain ⟨rfl, rfl⟩ : u = 0 ∧ v = 0 := by omega
    by_cases hq : q = 0
    · subst hq
      rw [may_4 (by exact h0) (by rfl)] at hm
      exact rreq_no_4a id a h0 (by simp at hm; omega) w
    · exact rreq_no_4q id q a h0 hq w
  · exact rreq_no_k k id u v q a h0 (by simpa using h1) (by simpa using h2) (by simpa using h3) (by simpa using h4) w
end Go.Proofs.Ytejijghghbicdaa
