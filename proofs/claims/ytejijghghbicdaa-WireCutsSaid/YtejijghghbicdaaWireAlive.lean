/-
  The document's example of chapter 2: the bytes of a request.
-/
import Derived.Test.YtejijghghbicdaaWireReq
namespace Go.Proofs.Ytejijghghbicdaa
open Go.RowKit
set_option linter.unusedSimpArgs false

theorem wnum_any (x : Int) (w : World) : Calls Try.prog 35 #[.int .i64 x] w fun e w' => e = .returned (.int .i64 x) ∧ w = w' := by
  go_enter Try.func35, Try.ntmps35
  go_wp2_with fail
  go_ret
  exact ⟨rfl, rfl⟩
theorem bytes1512 : Req.bytes ⟨1, 5, 1, 2, 0, 0⟩ = [1, 5, 1, 2] := by
  have h : Req.bytes ⟨1, 5, 1, 2, 0, 0⟩ = encs [1, 5, 1, 2] := rfl
  rw [h, encs_cons, encs_cons, encs_cons, encs_cons, encs_nil, enc_lo (by omega), enc_lo (by omega), enc_lo (by omega)]; rfl
theorem str1512 : strOf [1, 5, 1, 2] = ⟨#[1, 5, 1, 2]⟩ := by decide +kernel
theorem ok_small {k id u v q a : Int} (h : (0 ≤ k ∧ k ≤ 1000000) ∧ (0 ≤ id ∧ id ≤ 1000000) ∧ (0 ≤ u ∧ u ≤ 1000000) ∧ (0 ≤ v ∧ v ≤ 1000000) ∧ (0 ≤ q ∧ q ≤ 1000000) ∧ (0 ≤ a ∧ a ≤ 1000000)) : Req.ok ⟨k, id, u, v, q, a⟩ := by
  unfold Req.ok IN64; simp only; omega

set_option maxHeartbeats 1000000 in
theorem alive2_any (w : World) :
    Calls Try.prog 33 #[] w fun e w' => e = .returned (.bool true) ∧ Below w.heap.size w w' := by
  go_enter Try.func33, Try.ntmps33
  go_wp2_with fail
  refine (req_yes ⟨1, 5, 1, 2, 0, 0⟩ (ok_small (by omega)) (by decide) _).mono ?_
  rintro e w1 ⟨v, rfl, hown, hb⟩
  have hc := own_str hown
  rw [bytes1512, str1512] at hc
  clear hown
  go_wp2_with fail
  refine (wnum_any _ _).mono ?_
  rintro e w2 ⟨rfl, rfl⟩
  go_wp2_with fail
  go_ret
  exact ⟨rfl, hb⟩
end Go.Proofs.Ytejijghghbicdaa
