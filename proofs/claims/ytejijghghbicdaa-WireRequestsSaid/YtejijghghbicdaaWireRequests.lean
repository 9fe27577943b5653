/-
  WireRequests: the bytes of every request, or that it has none, and that they are read as it; the call returns true and changes nothing that was in memory.
-/
import Derived.Test.YtejijghghbicdaaWireLaw
import Derived.Test.YtejijghghbicdaaWireRead
import Derived.Test.YtejijghghbicdaaWireRReq2
import Derived.Test.YtejijghghbicdaaOpen
namespace Go.Proofs.Ytejijghghbicdaa
open Go.ChangeShapes Go.WideShapes Go.ChangeAt Go.RowKit Go.Joins
set_option linter.unusedSimpArgs false
set_option linter.unusedVariables false

set_option maxRecDepth 100000 in
set_option maxHeartbeats 1000000 in
theorem requests_no (k id u v q a : Int) (hm : Req.may ⟨k, id, u, v, q, a⟩ = false) (w : World) : Calls Try.prog 12 #[.agg #[.int .i64 k, .int .i64 id, .int .i64 u, .int .i64 v, .int .i64 q, .int .i64 a]] w fun e w' => e = .returned (.bool true) ∧ Below w.heap.size w w' := by
  have HM := Lib.hid hm
  clear hm
  go_enter Try.func12, Try.ntmps12
  go_wp2_with fail
  refine (alive2_any _).mono ?_
  rintro e w1 ⟨rfl, hb⟩
  have K0 := Blk.on (g := w.heap.size) (t := 50) (cs := #[.int .i64 k, .int .i64 id, .int .i64 u, .int .i64 v, .int .i64 q, .int .i64 a]) (by repeat (first | exact Blk.at_ _ _ _ (by simp) | refine Blk.alloc ?_ _)) hb
  have HB := below_after ((Below.refl w.heap.size w).alloc (Nat.le_refl _) _) hb (by simp)
  have c0 := K0.c
  have z0 := K0.lt
  clear hb
  go_wp2_with fail
  refine (req_no ⟨k, id, u, v, q, a⟩ HM.out _).mono ?_
  rintro e w2 ⟨rfl, hb⟩
  have K0 := K0.on hb
  have HB := below_after HB hb HB.size
  have c0 := K0.c
  have z0 := K0.lt
  clear hb
  go_wp2_with fail
  refine (rreq_no ⟨k, id, u, v, q, a⟩ HM.out _).mono ?_
  rintro e w3 ⟨rfl, hb⟩
  have HB := below_after HB hb HB.size
  have hc := run_str w3 22 9 5 (c := 0) Try.underlying22 Try.underlying5 Try.underlying9 (show Reads w3 0 1 none 0 (u8s []) from Reads.none_)
  clear hb c0 z0
  go_wp2_with fail
  refine (wnum_any _ _).mono ?_
  rintro e w4 ⟨rfl, rfl⟩
  go_wp2_with fail
  go_ret
  exact ⟨rfl, HB⟩

set_option maxRecDepth 100000 in
set_option maxHeartbeats 1000000 in
theorem requests_yes (k id u v q a : Int) (hok : Req.ok ⟨k, id, u, v, q, a⟩) (hm : Req.may ⟨k, id, u, v, q, a⟩ = true) (w : World) : Calls Try.prog 12 #[.agg #[.int .i64 k, .int .i64 id, .int .i64 u, .int .i64 v, .int .i64 q, .int .i64 a]] w fun e w' => e = .returned (.bool true) ∧ Below w.heap.size w w' := by
  have HRD := Lib.hid (readReq_bytes hok hm)
  have hlen := bytes_len hok
  have hby : ∀ d ∈ Req.bytes ⟨k, id, u, v, q, a⟩, d < 256 := encs_byte _
  have HM := Lib.hid hm
  have HOK := Lib.hid hok
  clear hm hok
  generalize hbs : Req.bytes ⟨k, id, u, v, q, a⟩ = bs at HRD hlen hby
  have HBS := Lib.hid hbs
  have HBY := Lib.hid hby
  obtain ⟨n, hn⟩ : ∃ n, n = bs.length := ⟨_, rfl⟩
  rw [← hn] at hlen
  have HN := Lib.hid hn
  have h64 : decide ((n : Int) ≤ 64) = true := by simp; omega
  clear hbs hby hn
  go_enter Try.func12, Try.ntmps12
  go_wp2_with fail
  refine (alive2_any _).mono ?_
  rintro e w1 ⟨rfl, hb⟩
  have K0 := Blk.on (g := w.heap.size) (t := 50) (cs := #[.int .i64 k, .int .i64 id, .int .i64 u, .int .i64 v, .int .i64 q, .int .i64 a]) (by repeat (first | exact Blk.at_ _ _ _ (by simp) | refine Blk.alloc ?_ _)) hb
  have HB := below_after ((Below.refl w.heap.size w).alloc (Nat.le_refl _) _) hb (by simp)
  have c0 := K0.c
  have z0 := K0.lt
  clear hb
  go_wp2_with fail
  refine (req_yes ⟨k, id, u, v, q, a⟩ HOK.out HM.out _).mono ?_
  rw [HBS.out, ← HN.out]
  rintro e w2 ⟨x, rfl, hown, hb⟩
  obtain ⟨A, c, rfl⟩ := own_form hown
  have hR := Reads.of_own hown
  have K0 := K0.on hb
  have HB := below_after HB hb HB.size
  have c0 := K0.c
  have z0 := K0.lt
  clear hb hown
  go_wp2_with fail
  refine (rreq_yes ⟨k, id, u, v, q, a⟩ HOK.out HM.out _).mono ?_
  rw [HBS.out, ← HN.out]
  rintro e w3 ⟨x, rfl, hown, hb⟩
  obtain ⟨A2, c2, rfl⟩ := own_form hown
  have hR2 := Reads.of_own hown
  have hR := hR.below hb
  have K0 := K0.on hb
  have HB := below_after HB hb HB.size
  have hc := run_str w3 22 9 5 (c := c) Try.underlying22 Try.underlying5 Try.underlying9 hR
  have hc2 := run_str w3 22 9 5 (c := c2) Try.underlying22 Try.underlying5 Try.underlying9 hR2
  have HR := Lib.hid (hR.more hb.size)
  clear hb c0 z0 hown hR2 hR
  go_wp2_with fail
  refine (wnum_any _ _).mono ?_
  rintro e w4 ⟨rfl, rfl⟩
  go_wp2_with fail
  refine (readreq_any _ HR.out (Nat.le_refl _) HBY.out (by unfold maxLen; omega)).mono ?_
  rw [HRD.out]
  rintro e w4 ⟨rfl, hb⟩
  unfold Req.V
  have K0 := (K0.on hb).alloc (.cells #[.int .i64 k, .int .i64 id, .int .i64 u, .int .i64 v, .int .i64 q, .int .i64 a] 50)
  have HB := (below_after HB hb HB.size)
  have HB := HB.alloc HB.size (.cells #[.int .i64 k, .int .i64 id, .int .i64 u, .int .i64 v, .int .i64 q, .int .i64 a] 50)
  have c0 := K0.c
  have z0 := K0.lt
  clear hb hc hc2
  go_wp2_with fail
  refine (wnum_any _ _).mono ?_
  rintro e w5 ⟨rfl, rfl⟩
  go_wp2_with fail
  go_ret
  exact ⟨rfl, HB⟩

theorem wireRequests_walk (r : Req) (w : World) (hok : r.ok) : Calls Try.prog 12 #[r.V] w fun e w' => e = .returned (.bool true) ∧ Below w.heap.size w w' := by
  obtain ⟨k, id, u, v, q, a⟩ := r
  cases hm : Req.may ⟨k, id, u, v, q, a⟩
  · exact requests_no k id u v q a hm w
  · exact requests_yes k id u v q a hok hm w


namespace wireRequests
set_option maxRecDepth 100000 in
theorem contract (H : Type) (enc : TypeId × Value → H) (W : World) (base : Nat) (args : Array Value) (ds gs : List (DataW H)) (before : List MemPlace)
    (hval : ∀ (j : Nat) t v, Try.f12.params[j]? = some t → args[j]? = some v → Value.okWide Try.prog W .any base t v)
    (hW : DataW.Whole enc Try.prog Try.f12.params.toList Rows.wireRequestsSpec.vars false W args.toList ds gs before) :
    Calls Try.prog 12 args W fun e W' => ∃ v, e = .returned v ∧ Rows.wireRequestsSpec.post enc Try.prog Try.f12 false true false false W args v W' := by
  have hWc := hW
  obtain ⟨p, q, hA0, hV, _, _, _⟩ := hW
  have hA : DataW.TrodAll enc Try.prog W 0 (fun _ => true) true Try.f12.params.toList args.toList ds p := hA0
  clear hA0
  rw [Try.params12] at hA hval
  obtain ⟨v0, vs0, d0, ds0, p0, q0, hargs, rfl, rfl, h0, r0⟩ := trodAll_cons hA
  obtain ⟨rfl, rfl, rfl⟩ := trodAll_nil r0
  obtain rfl : args = #[v0] := by cases args; simp_all
  obtain ⟨a0, rfl, wa0⟩ := open_req (hval 0 50 v0 rfl rfl) h0
  refine (wireRequests_walk a0 W wa0).mono fun e W' ⟨he, hb⟩ => ⟨_, he, ?_⟩
  exact post_true hWc rfl hb laidOut (readables (by kernel_rfl)) rfl Try.underlying4 (fun h => by subst h; rfl)

set_option maxRecDepth 100000 in
theorem lifted (os : Os) (started : os.Started) (H : Type) (enc : TypeId × Value → H) :
    ReturnsInHanded {} Try.checked os 12 .any (Rows.wireRequestsSpec.pre6 enc Try.prog Try.f12 Rows.wireRequestsRow.domain false) (Rows.wireRequestsSpec.post enc Try.prog Try.f12 false true false false) := by
  refine returnsInHanded_of_change (C := Try.checked) own started (by kernel_rfl) Try.func12
    (ChangeSpec.witness6 (enc := enc) (C := Try.checked) false ⟨#[], #[.agg #[.int .i64 0, .int .i64 0, .int .i64 0, .int .i64 0, .int .i64 0, .int .i64 0]], []⟩ 8 (by kernel_rfl) (by kernel_rfl) (by kernel_rfl) (by kernel_rfl)) ?_
  intro W base args ds gs before hval hW _ _
  exact contract H enc W base args ds gs before hval hW

theorem proved : Rows.WireRequestsSaid :=
  OpenClaim.holds_of_wide 12 Try.f12 rfl rfl rfl rfl rfl rfl rfl ⟨rfl, rfl, rfl, rfl, rfl⟩ rfl rfl rfl rfl rfl (by kernel_rfl) Try.func12 (by kernel_rfl)
    (of_decide_eq_true (by kernel_rfl)) (by unfold Func.isWrapper; first | (rw [if_pos (by decide +kernel)]; kernel_rfl) | (rw [if_neg (by decide +kernel)]; exact ⟨rfl, rfl⟩))
    (fun os started H enc _ => lifted os started H enc)
end wireRequests
end Go.Proofs.Ytejijghghbicdaa
