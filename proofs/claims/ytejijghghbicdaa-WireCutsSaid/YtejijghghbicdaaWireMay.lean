/-
  Which requests may be, by contracts: vertex, query, may of package wire.
-/
import Derived.Test.YtejijghghbicdaaPackAlive
import Derived.Outline
namespace Go.Proofs.Ytejijghghbicdaa
open Go.RowKit
set_option linter.unusedSimpArgs false
set_option linter.unusedVariables false

/-- A request. -/
structure Req where
  k : Int
  id : Int
  u : Int
  v : Int
  q : Int
  a : Int
/-- All its numbers are ints. -/
def Req.ok (r : Req) : Prop := IN64 r.k ∧ IN64 r.id ∧ IN64 r.u ∧ IN64 r.v ∧ IN64 r.q ∧ IN64 r.a
def Req.V (r : Req) : Value := .agg #[.int .i64 r.k, .int .i64 r.id, .int .i64 r.u, .int .i64 r.v, .int .i64 r.q, .int .i64 r.a]
def Req.none_ : Req := ⟨0, 0, 0, 0, 0, 0⟩
def vertexB (v : Int) : Bool := decide (0 ≤ v ∧ v < 65536)
def queryB (q a : Int) : Bool := if q = 1 ∨ q = 4 then decide (0 ≤ a) else if q = 2 ∨ q = 3 then decide (a = 0) else false
def Req.may (r : Req) : Bool :=
  if r.id < 0 then false
  else if r.k = 1 ∨ r.k = 2 then vertexB r.u && vertexB r.v && decide (r.q = 0 ∧ r.a = 0)
  else if r.k = 3 then queryB r.q r.a && decide (r.u = 0 ∧ r.v = 0)
  else if r.k = 4 then decide (0 ≤ r.a ∧ r.q = 0 ∧ r.u = 0 ∧ r.v = 0)
  else false

set_option maxHeartbeats 400000 in
theorem vertex_any (v : Int) (w : World) : Calls Try.prog 66 #[.int .i64 v] w fun e w' => e = .returned (.bool (vertexB v)) ∧ w = w' := by
  by_cases h : 0 ≤ v
  · by_cases h2 : v < 65536
    · have H := Lib.hid (show vertexB v = true by simp [vertexB, h, h2])
      have hd : decide (0 ≤ v) = true := by simpa using h
      have hd2 : decide (v < 65536) = true := by simpa using h2
      go_enter Try.func66, Try.ntmps66
      go_wp2_with fail
      go_ret
      exact ⟨by rw [H.out]; rfl, rfl⟩
    · have H := Lib.hid (show vertexB v = false by simp [vertexB, h, h2])
      have hd : decide (0 ≤ v) = true := by simpa using h
      have hd2 : decide (v < 65536) = false := by simpa using h2
      go_enter Try.func66, Try.ntmps66
      go_wp2_with fail
      go_ret
      exact ⟨by rw [H.out]; rfl, rfl⟩
  · have H := Lib.hid (show vertexB v = false by simp [vertexB, h])
    have hd : decide (0 ≤ v) = false := by simpa using h
    go_enter Try.func66, Try.ntmps66
    go_wp2_with fail
    go_ret
    exact ⟨by rw [H.out]; rfl, rfl⟩
set_option maxHeartbeats 400000 in
theorem rvertex_any (v : Int) (w : World) : Calls Try.prog 57 #[.int .i64 v] w fun e w' => e = .returned (.bool (vertexB v)) ∧ w = w' := by
  by_cases h : 0 ≤ v
  · by_cases h2 : v < 65536
    · have H := Lib.hid (show vertexB v = true by simp [vertexB, h, h2])
      have hd : decide (0 ≤ v) = true := by simpa using h
      have hd2 : decide (v < 65536) = true := by simpa using h2
      go_enter Try.func57, Try.ntmps57
      go_wp2_with fail
      go_ret
      exact ⟨by rw [H.out]; rfl, rfl⟩
    · have H := Lib.hid (show vertexB v = false by simp [vertexB, h, h2])
      have hd : decide (0 ≤ v) = true := by simpa using h
      have hd2 : decide (v < 65536) = false := by simpa using h2
      go_enter Try.func57, Try.ntmps57
      go_wp2_with fail
      go_ret
      exact ⟨by rw [H.out]; rfl, rfl⟩
  · have H := Lib.hid (show vertexB v = false by simp [vertexB, h])
    have hd : decide (0 ≤ v) = false := by simpa using h
    go_enter Try.func57, Try.ntmps57
    go_wp2_with fail
    go_ret
    exact ⟨by rw [H.out]; rfl, rfl⟩

set_option maxHeartbeats 400000 in
theorem query_any (q a : Int) (w : World) : Calls Try.prog 67 #[.agg #[.int .i64 q, .int .i64 a]] w fun e w' => e = .returned (.bool (queryB q a)) ∧ Below w.heap.size w w' := by
  by_cases h1 : q = 1
  · subst h1
    go_enter Try.func67, Try.ntmps67
    go_wp2_with fail
    go_ret
    exact ⟨rfl, (Below.refl _ _).alloc (Nat.le_refl _) _⟩
  by_cases h4 : q = 4
  · subst h4
    go_enter Try.func67, Try.ntmps67
    go_wp2_with fail
    go_ret
    exact ⟨rfl, (Below.refl _ _).alloc (Nat.le_refl _) _⟩
  by_cases h2 : q = 2
  · subst h2
    go_enter Try.func67, Try.ntmps67
    go_wp2_with fail
    go_ret
    exact ⟨by simp [queryB]; rfl, (Below.refl _ _).alloc (Nat.le_refl _) _⟩
  by_cases h3 : q = 3
  · subst h3
    go_enter Try.func67, Try.ntmps67
    go_wp2_with fail
    go_ret
    exact ⟨by simp [queryB]; rfl, (Below.refl _ _).alloc (Nat.le_refl _) _⟩
  have H := Lib.hid (show queryB q a = false by simp [queryB, h1, h2, h3, h4])
  have e1 : (q == 1) = false := by simpa using h1
  have e2 : (q == 2) = false := by simpa using h2
  have e3 : (q == 3) = false := by simpa using h3
  have e4 : (q == 4) = false := by simpa using h4
  clear h1 h2 h3 h4
  go_enter Try.func67, Try.ntmps67
  go_wp2_with fail
  go_ret
  exact ⟨by rw [H.out]; rfl, (Below.refl _ _).alloc (Nat.le_refl _) _⟩

theorem may_1 {r : Req} (h0 : ¬ r.id < 0) (h : r.k = 1 ∨ r.k = 2) : r.may = (vertexB r.u && vertexB r.v && decide (r.q = 0 ∧ r.a = 0)) := by
  unfold Req.may; rw [if_neg h0, if_pos h]
theorem may_3 {r : Req} (h0 : ¬ r.id < 0) (h : r.k = 3) : r.may = (queryB r.q r.a && decide (r.u = 0 ∧ r.v = 0)) := by
  unfold Req.may; rw [if_neg h0, if_neg (by omega), if_pos h]
theorem may_4 {r : Req} (h0 : ¬ r.id < 0) (h : r.k = 4) : r.may = decide (0 ≤ r.a ∧ r.q = 0 ∧ r.u = 0 ∧ r.v = 0) := by
  unfold Req.may; rw [if_neg h0, if_neg (by omega), if_neg (by omega), if_pos h]
theorem may_5 {r : Req} (h1 : r.k ≠ 1) (h2 : r.k ≠ 2) (h3 : r.k ≠ 3) (h4 : r.k ≠ 4) : r.may = false := by
  unfold Req.may
  rw [if_neg (c := r.k = 1 ∨ r.k = 2) (by omega), if_neg h3, if_neg h4]
  split <;> rfl
set_option maxHeartbeats 1000000 in
theorem may_any (r : Req) (w : World) : Calls Try.prog 52 #[r.V] w fun e w' => e = .returned (.bool r.may) ∧ Below w.heap.size w w' := by
  obtain ⟨k, id, u, v, q, a⟩ := r
  show Calls Try.prog 52 #[.agg #[.int .i64 k, .int .i64 id, .int .i64 u, .int .i64 v, .int .i64 q, .int .i64 a]] w _
  by_cases h0 : id < 0
  · have H := Lib.hid (show Req.may ⟨k, id, u, v, q, a⟩ = false by unfold Req.may; rw [if_pos h0])
    go_enter Try.func52, Try.ntmps52
    go_wp2_with fail
    go_ret
    exact ⟨by rw [H.out]; rfl, (Below.refl _ _).alloc (Nat.le_refl _) _⟩
  by_cases h1 : k = 1
  · subst h1
    have H := Lib.hid (may_1 (r := ⟨1, id, u, v, q, a⟩) h0 (.inl rfl))
    cases hu : vertexB u
    · go_enter Try.func52, Try.ntmps52
      go_wp2_with (go_at_call 66; refine (vertex_any _ _).mono ?_; rintro e w' ⟨rfl, rfl⟩)
      all_goals (go_ret; refine ⟨?_, (Below.refl _ _).alloc (Nat.le_refl _) _⟩; rw [H.out]; simp_all)
    · cases hv : vertexB v
      · go_enter Try.func52, Try.ntmps52
        go_wp2_with (go_at_call 66; refine (vertex_any _ _).mono ?_; rintro e w' ⟨rfl, rfl⟩)
        all_goals (go_ret; refine ⟨?_, (Below.refl _ _).alloc (Nat.le_refl _) _⟩; rw [H.out]; simp_all)
      · go_enter Try.func52, Try.ntmps52
        go_wp2_with (go_at_call 66; refine (vertex_any _ _).mono ?_; rintro e w' ⟨rfl, rfl⟩)
        all_goals (go_ret; refine ⟨?_, (Below.refl _ _).alloc (Nat.le_refl _) _⟩; rw [H.out]; simp_all)
  by_cases h2 : k = 2
  · subst h2
    have H := Lib.hid (may_1 (r := ⟨2, id, u, v, q, a⟩) h0 (.inr rfl))
    cases hu : vertexB u
    · go_enter Try.func52, Try.ntmps52
      go_wp2_with (go_at_call 66; refine (vertex_any _ _).mono ?_; rintro e w' ⟨rfl, rfl⟩)
      all_goals (go_ret; refine ⟨?_, (Below.refl _ _).alloc (Nat.le_refl _) _⟩; rw [H.out]; simp_all)
    · cases hv : vertexB v
      · go_enter Try.func52, Try.ntmps52
        go_wp2_with (go_at_call 66; refine (vertex_any _ _).mono ?_; rintro e w' ⟨rfl, rfl⟩)
        all_goals (go_ret; refine ⟨?_, (Below.refl _ _).alloc (Nat.le_refl _) _⟩; rw [H.out]; simp_all)
      · go_enter Try.func52, Try.ntmps52
        go_wp2_with (go_at_call 66; refine (vertex_any _ _).mono ?_; rintro e w' ⟨rfl, rfl⟩)
        all_goals (go_ret; refine ⟨?_, (Below.refl _ _).alloc (Nat.le_refl _) _⟩; rw [H.out]; simp_all)
  by_cases h3 : k = 3
  · subst h3
    have H := Lib.hid (may_3 (r := ⟨3, id, u, v, q, a⟩) h0 rfl)
    cases hq : queryB q a
    · go_enter Try.func52, Try.ntmps52
      go_wp2_with fail
      refine (query_any _ _ _).mono ?_
      rintro e w1 ⟨rfl, hb⟩
      obtain ⟨hc, hf⟩ := bcell hb
      have hz := hb.size
      simp at hz
      go_wp2_with fail
      all_goals (go_ret; refine ⟨?_, ((Below.refl _ _).alloc (Nat.le_refl _) _).trans (hb.mono (by simp))⟩; rw [H.out]; simp_all)
    · go_enter Try.func52, Try.ntmps52
      go_wp2_with fail
      refine (query_any _ _ _).mono ?_
      rintro e w1 ⟨rfl, hb⟩
      obtain ⟨hc, hf⟩ := bcell hb
      have hz := hb.size
      simp at hz
      go_wp2_with fail
      all_goals (go_ret; refine ⟨?_, ((Below.refl _ _).alloc (Nat.le_refl _) _).trans (hb.mono (by simp))⟩; rw [H.out]; simp_all)
  by_cases h4 : k = 4
  · subst h4
    by_cases ha : 0 ≤ a
    · have hd : decide (0 ≤ a) = true := by simpa using ha
      by_cases hq : q = 0
      · subst hq
        go_enter Try.func52, Try.ntmps52
        go_wp2_with fail
        all_goals (go_ret; refine ⟨?_, (Below.refl _ _).alloc (Nat.le_refl _) _⟩; rw [may_4 (Int.not_lt.2 (by exact h0)) (by rfl)]; first | (simp_all; done) | (simp; omega))
      · have hq' : (q == 0) = false := by simpa using hq
        go_enter Try.func52, Try.ntmps52
        go_wp2_with fail
        all_goals (go_ret; refine ⟨?_, (Below.refl _ _).alloc (Nat.le_refl _) _⟩; rw [may_4 (Int.not_lt.2 (by exact h0)) (by rfl)]; first | (simp_all; done) | (simp; omega))
    · have hd : decide (0 ≤ a) = false := by simpa using ha
      go_enter Try.func52, Try.ntmps52
      go_wp2_with fail
      all_goals (go_ret; refine ⟨?_, (Below.refl _ _).alloc (Nat.le_refl _) _⟩; rw [may_4 (Int.not_lt.2 (by exact h0)) (by rfl)]; first | (simp_all; done) | (simp; omega))
  have H := Lib.hid (may_5 (r := ⟨k, id, u, v, q, a⟩) h1 h2 h3 h4)
  have e1 : (k == 1) = false := by simpa using h1
  have e2 : (k == 2) = false := by simpa using h2
  have e3 : (k == 3) = false := by simpa using h3
  have e4 : (k == 4) = false := by simpa using h4
  clear h1 h2 h3 h4
  go_enter Try.func52, Try.ntmps52
  go_wp2_with fail
  go_ret
  exact ⟨by rw [H.out]; rfl, (Below.refl _ _).alloc (Nat.le_refl _) _⟩
end Go.Proofs.Ytejijghghbicdaa
