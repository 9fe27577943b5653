/-
  Two requests as values: whether they are one.
-/
import Derived.Test.YtejijghghbicdaaWireMay
namespace Go.Proofs.Ytejijghghbicdaa
open Go.RowKit
set_option linter.unusedSimpArgs false
set_option maxRecDepth 100000 in
theorem run_req_same (k id u v q a : Int) (w : World) : (binOp .eql 50 (.agg #[.int .i64 k, .int .i64 id, .int .i64 u, .int .i64 v, .int .i64 q, .int .i64 a]) (.agg #[.int .i64 k, .int .i64 id, .int .i64 u, .int .i64 v, .int .i64 q, .int .i64 a])).run Try.prog w = .ok (.bool true) w := by
  go_simp
set_option maxRecDepth 100000 in
set_option maxHeartbeats 400000 in
theorem run_req_else {k id u v q a k' id' u' v' q' a' : Int} (h : ¬ (k = k' ∧ id = id' ∧ u = u' ∧ v = v' ∧ q = q' ∧ a = a')) (w : World) : (binOp .eql 50 (.agg #[.int .i64 k, .int .i64 id, .int .i64 u, .int .i64 v, .int .i64 q, .int .i64 a]) (.agg #[.int .i64 k', .int .i64 id', .int .i64 u', .int .i64 v', .int .i64 q', .int .i64 a'])).run Try.prog w = .ok (.bool false) w := by
  by_cases h1 : k = k'
  · subst h1
    by_cases h2 : id = id'
    · subst h2
      by_cases h3 : u = u'
      · subst h3
        by_cases h4 : v = v'
        · subst h4
          by_cases h5 : q = q'
          · subst h5
            have h6 : ¬ a = a' := fun e => h ⟨rfl, rfl, rfl, rfl, rfl, e⟩
            clear h
            go_simp
          · clear h; go_simp
        · clear h; go_simp
      · clear h; go_simp
    · clear h; go_simp
  · clear h; go_simp
set_option maxRecDepth 100000 in
theorem run_req {k id u v q a k' id' u' v' q' a' : Int} {b : Bool} (h : b = true ↔ (⟨k, id, u, v, q, a⟩ : Req) = ⟨k', id', u', v', q', a'⟩) (w : World) : (binOp .eql 50 (.agg #[.int .i64 k, .int .i64 id, .int .i64 u, .int .i64 v, .int .i64 q, .int .i64 a]) (.agg #[.int .i64 k', .int .i64 id', .int .i64 u', .int .i64 v', .int .i64 q', .int .i64 a'])).run Try.prog w = .ok (.bool b) w := by
  cases b
  · refine run_req_else (fun e => ?_) w
    obtain ⟨rfl, rfl, rfl, rfl, rfl, rfl⟩ := e
    exact absurd (h.2 rfl) (by simp)
  · have := h.1 rfl
    injection this with e1 e2 e3 e4 e5 e6
    subst e1 e2 e3 e4 e5 e6
    exact run_req_same ..
end Go.Proofs.Ytejijghghbicdaa
