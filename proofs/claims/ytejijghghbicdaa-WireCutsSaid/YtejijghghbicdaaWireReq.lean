/-
  wire.Request and the reference's, by contracts: the bytes of a request, or that it has none.
-/
import Derived.Test.YtejijghghbicdaaWireMay
namespace Go.Proofs.Ytejijghghbicdaa
open Go.RowKit
set_option linter.unusedSimpArgs false
set_option linter.unusedVariables false

/-- The numbers that are put for a request. -/
def Req.nums (r : Req) : List Int := if r.k = 3 then [r.k, r.id, r.q, r.a] else if r.k = 4 then [r.k, r.id, r.a] else [r.k, r.id, r.u, r.v]
def Req.bytes (r : Req) : List Nat := encs (r.nums.map nat0)
theorem reads_new (w : World) (vs : List Value) (t : TypeId) (n : Nat) (hn : vs.length = n) : Reads (w.alloc (.cells vs.toArray t)) (w.heap.size + 1) 1 (some ⟨w.heap.size, 0, none⟩) n vs := by
  refine ⟨by omega, fun _ => ⟨_, rfl, by simp, fun j u hu => ?_⟩⟩
  have hb := Blk.new w t vs.toArray
  have := hb.c j
  rw [show (⟨w.heap.size, 0, none⟩ : Addr).add j = ⟨w.heap.size, j, none⟩ by unfold Addr.add; split <;> simp_all]
  rw [this]; simpa using hu
theorem may_12 {r : Req} (h : r.may = true) : r.k = 1 ∨ r.k = 2 ∨ r.k = 3 ∨ r.k = 4 := by
  by_cases h1 : r.k = 1
  · exact .inl h1
  by_cases h2 : r.k = 2
  · exact .inr (.inl h2)
  by_cases h3 : r.k = 3
  · exact .inr (.inr (.inl h3))
  by_cases h4 : r.k = 4
  · exact .inr (.inr (.inr h4))
  rw [may_5 h1 h2 h3 h4] at h; cases h
theorem nums_12 {r : Req} (h : r.k = 1 ∨ r.k = 2) : r.nums = [r.k, r.id] ++ [r.u, r.v] := by unfold Req.nums; rw [if_neg (by omega), if_neg (by omega)]; rfl
theorem nums_3 {r : Req} (h : r.k = 3) : r.nums = [r.k, r.id] ++ [r.q, r.a] := by unfold Req.nums; rw [if_pos h]; rfl
theorem nums_4 {r : Req} (h : r.k = 4) : r.nums = [r.k, r.id] ++ [r.a] := by unfold Req.nums; rw [if_neg (by omega), if_pos h]; rfl
theorem bytes_split {r : Req} {a b : List Int} (h : r.nums = a ++ b) : r.bytes = encs (a.map nat0) ++ encs (b.map nat0) := by
  unfold Req.bytes; rw [h, List.map_append, encs_append]

set_option maxHeartbeats 400000 in
theorem req_no (r : Req) (hm : r.may = false) (w : World) : Calls Try.prog 34 #[r.V] w fun e w' => e = .returned (.tuple #[.slice none 0 0, .int .i64 1]) ∧ Below w.heap.size w w' := by
  have HM := Lib.hid hm
  clear hm
  obtain ⟨k, id, u, v, q, a⟩ := r
  show Calls Try.prog 34 #[.agg #[.int .i64 k, .int .i64 id, .int .i64 u, .int .i64 v, .int .i64 q, .int .i64 a]] w _
  go_enter Try.func34, Try.ntmps34
  go_wp2_with fail
  refine (may_any ⟨k, id, u, v, q, a⟩ _).mono ?_
  rw [HM.out]
  rintro e w1 ⟨rfl, hb⟩
  go_wp2_with fail
  go_ret2
  exact ⟨rfl, ((Below.refl _ _).alloc (Nat.le_refl _) _).trans (hb.mono (by simp))⟩

/-- The end of a walk: the bytes that came behind others. -/
theorem req_end {w w' W : World} {e n m : Nat} {v : Value} {r : Req} {xs ys : List Int} (hs : r.nums = xs ++ ys) (hown : w'.ownsRow W.heap.size e 1 v n (u8s (encs (xs.map nat0) ++ encs (ys.map nat0)))) (hn : n = (encs (xs.map nat0) ++ encs (ys.map nat0)).length)
    (hb : w.heap.size ≤ W.heap.size) : w'.ownsRow w.heap.size e 1 v r.bytes.length (u8s r.bytes) := by
  rw [bytes_split hs, ← hn]
  exact own_le hown hb


set_option maxHeartbeats 1000000 in
theorem req_yes1 (id u v q a : Int) (hok : Req.ok ⟨1, id, u, v, q, a⟩) (hm : Req.may ⟨1, id, u, v, q, a⟩ = true) (w : World) : Calls Try.prog 34 #[Req.V ⟨1, id, u, v, q, a⟩] w fun e w' => ∃ x, e = .returned (.tuple #[x, .int .i64 0]) ∧ w'.ownsRow w.heap.size 5 1 x (Req.bytes ⟨1, id, u, v, q, a⟩).length (u8s (Req.bytes ⟨1, id, u, v, q, a⟩)) ∧ Below w.heap.size w w' := by
  have HM := Lib.hid hm
  have HOK := Lib.hid hok
  have HN := Lib.hid (nums_12 (r := ⟨1, id, u, v, q, a⟩) (.inl rfl))
  clear hm hok
  show Calls Try.prog 34 #[.agg #[.int .i64 1, .int .i64 id, .int .i64 u, .int .i64 v, .int .i64 q, .int .i64 a]] w _
  go_enter Try.func34, Try.ntmps34
  go_wp2_with fail
  refine (may_any ⟨1, id, u, v, q, a⟩ _).mono ?_
  rw [HM.out]
  rintro e w1 ⟨rfl, hb⟩
  have K0 := Blk.on (g := w.heap.size) (t := 50) (cs := #[.int .i64 1, .int .i64 id, .int .i64 u, .int .i64 v, .int .i64 q, .int .i64 a]) (by repeat (first | exact Blk.at_ _ _ _ (by simp) | refine Blk.alloc ?_ _)) hb
  have HB : Below w.heap.size w w1 := ((Below.refl _ _).alloc (Nat.le_refl _) _).trans (hb.mono (by simp))
  have c0 := K0.c
  have hz := K0.lt
  clear hb
  go_wp2_with fail
  refine (int_any (B := w1.heap.size + 1) (xs := []) (zs := [1, id]) _ (reads_nil _ _ _) (reads_new w1 [.int .i64 1, .int .i64 id] 3 2 rfl) (by simp) (by intro z hz; simp only [List.mem_cons, List.not_mem_nil, or_false] at hz; rcases hz with rfl | rfl; exact HOK.out.1; exact HOK.out.2.1) (by omega) (by omega)).mono ?_
  rintro e w2 ⟨x, rfl, hown, hb⟩
  rw [List.nil_append] at hown
  have K0 := (K0.alloc _).on hb
  have HB2 := below_after (HB.alloc HB.size _) hb (by simp; exact Nat.le_succ_of_le HB.size)
  have c0 := K0.c
  have hz := K0.lt
  have hlen : (encs ([1, id].map nat0)).length ≤ 20 := by
    have := encs_len ([1, id].map nat0) (by intro y hy; simp only [List.map_cons, List.map_nil, List.mem_cons, List.not_mem_nil, or_false] at hy; rcases hy with rfl | rfl; exact nat0_w HOK.out.1; exact nat0_w HOK.out.2.1)
    simpa using this
  obtain ⟨m, hm⟩ : ∃ m, m = (encs ([1, id].map nat0)).length := ⟨_, rfl⟩
  rw [← hm] at hown hlen
  obtain ⟨A, c, rfl⟩ := own_form hown
  have hR := Reads.of_own hown
  have HMM := Lib.hid hm
  clear hb hown hm
  go_wp2_with fail
  refine (int_any (B := w2.heap.size + 1) (zs := [u, v]) _ ((hR.alloc (Nat.le_refl _) _).more (Nat.le_succ _)) (reads_new w2 [.int .i64 u, .int .i64 v] 3 2 rfl) (by simp) (by intro z hz; simp only [List.mem_cons, List.not_mem_nil, or_false] at hz; rcases hz with rfl | rfl; exact HOK.out.2.2.1; exact HOK.out.2.2.2.1) (by omega) (by omega)).mono ?_
  rintro e w3 ⟨x, rfl, hown, hb⟩
  have HB3 := below_after (HB2.alloc HB2.size _) hb (by simp; exact Nat.le_succ_of_le HB2.size)
  go_wp2_with fail
  go_ret2
  refine ⟨_, rfl, ?_, HB3⟩
  rw [bytes_split HN.out]
  exact own_le hown (by simp; exact Nat.le_succ_of_le HB2.size)

set_option maxHeartbeats 1000000 in
theorem req_yes2 (id u v q a : Int) (hok : Req.ok ⟨2, id, u, v, q, a⟩) (hm : Req.may ⟨2, id, u, v, q, a⟩ = true) (w : World) : Calls Try.prog 34 #[Req.V ⟨2, id, u, v, q, a⟩] w fun e w' => ∃ x, e = .returned (.tuple #[x, .int .i64 0]) ∧ w'.ownsRow w.heap.size 5 1 x (Req.bytes ⟨2, id, u, v, q, a⟩).length (u8s (Req.bytes ⟨2, id, u, v, q, a⟩)) ∧ Below w.heap.size w w' := by
  have HM := Lib.hid hm
  have HOK := Lib.hid hok
  have HN := Lib.hid (nums_12 (r := ⟨2, id, u, v, q, a⟩) (.inr rfl))
  clear hm hok
  show Calls Try.prog 34 #[.agg #[.int .i64 2, .int .i64 id, .int .i64 u, .int .i64 v, .int .i64 q, .int .i64 a]] w _
  go_enter Try.func34, Try.ntmps34
  go_wp2_with fail
  refine (may_any ⟨2, id, u, v, q, a⟩ _).mono ?_
  rw [HM.out]
  rintro e w1 ⟨rfl, hb⟩
  have K0 := Blk.on (g := w.heap.size) (t := 50) (cs := #[.int .i64 2, .int .i64 id, .int .i64 u, .int .i64 v, .int .i64 q, .int .i64 a]) (by repeat (first | exact Blk.at_ _ _ _ (by simp) | refine Blk.alloc ?_ _)) hb
  have HB : Below w.heap.size w w1 := ((Below.refl _ _).alloc (Nat.le_refl _) _).trans (hb.mono (by simp))
  have c0 := K0.c
  have hz := K0.lt
  clear hb
  go_wp2_with fail
  refine (int_any (B := w1.heap.size + 1) (xs := []) (zs := [2, id]) _ (reads_nil _ _ _) (reads_new w1 [.int .i64 2, .int .i64 id] 3 2 rfl) (by simp) (by intro z hz; simp only [List.mem_cons, List.not_mem_nil, or_false] at hz; rcases hz with rfl | rfl; exact HOK.out.1; exact HOK.out.2.1) (by omega) (by omega)).mono ?_
  rintro e w2 ⟨x, rfl, hown, hb⟩
  rw [List.nil_append] at hown
  have K0 := (K0.alloc _).on hb
  have HB2 := below_after (HB.alloc HB.size _) hb (by simp; exact Nat.le_succ_of_le HB.size)
  have c0 := K0.c
  have hz := K0.lt
  have hlen : (encs ([2, id].map nat0)).length ≤ 20 := by
    have := encs_len ([2, id].map nat0) (by intro y hy; simp only [List.map_cons, List.map_nil, List.mem_cons, List.not_mem_nil, or_false] at hy; rcases hy with rfl | rfl; exact nat0_w HOK.out.1; exact nat0_w HOK.out.2.1)
    simpa using this
  obtain ⟨m, hm⟩ : ∃ m, m = (encs ([2, id].map nat0)).length := ⟨_, rfl⟩
  rw [← hm] at hown hlen
  obtain ⟨A, c, rfl⟩ := own_form hown
  have hR := Reads.of_own hown
  have HMM := Lib.hid hm
  clear hb hown hm
  go_wp2_with fail
  refine (int_any (B := w2.heap.size + 1) (zs := [u, v]) _ ((hR.alloc (Nat.le_refl _) _).more (Nat.le_succ _)) (reads_new w2 [.int .i64 u, .int .i64 v] 3 2 rfl) (by simp) (by intro z hz; simp only [List.mem_cons, List.not_mem_nil, or_false] at hz; rcases hz with rfl | rfl; exact HOK.out.2.2.1; exact HOK.out.2.2.2.1) (by omega) (by omega)).mono ?_
  rintro e w3 ⟨x, rfl, hown, hb⟩
  have HB3 := below_after (HB2.alloc HB2.size _) hb (by simp; exact Nat.le_succ_of_le HB2.size)
  go_wp2_with fail
  go_ret2
  refine ⟨_, rfl, ?_, HB3⟩
  rw [bytes_split HN.out]
  exact own_le hown (by simp; exact Nat.le_succ_of_le HB2.size)

set_option maxHeartbeats 1000000 in
theorem req_yes3 (id u v q a : Int) (hok : Req.ok ⟨3, id, u, v, q, a⟩) (hm : Req.may ⟨3, id, u, v, q, a⟩ = true) (w : World) : Calls Try.prog 34 #[Req.V ⟨3, id, u, v, q, a⟩] w fun e w' => ∃ x, e = .returned (.tuple #[x, .int .i64 0]) ∧ w'.ownsRow w.heap.size 5 1 x (Req.bytes ⟨3, id, u, v, q, a⟩).length (u8s (Req.bytes ⟨3, id, u, v, q, a⟩)) ∧ Below w.heap.size w w' := by
  have HM := Lib.hid hm
  have HOK := Lib.hid hok
  have HN := Lib.hid (nums_3 (r := ⟨3, id, u, v, q, a⟩) rfl)
  clear hm hok
  show Calls Try.prog 34 #[.agg #[.int .i64 3, .int .i64 id, .int .i64 u, .int .i64 v, .int .i64 q, .int .i64 a]] w _
  go_enter Try.func34, Try.ntmps34
  go_wp2_with fail
  refine (may_any ⟨3, id, u, v, q, a⟩ _).mono ?_
  rw [HM.out]
  rintro e w1 ⟨rfl, hb⟩
  have K0 := Blk.on (g := w.heap.size) (t := 50) (cs := #[.int .i64 3, .int .i64 id, .int .i64 u, .int .i64 v, .int .i64 q, .int .i64 a]) (by repeat (first | exact Blk.at_ _ _ _ (by simp) | refine Blk.alloc ?_ _)) hb
  have HB : Below w.heap.size w w1 := ((Below.refl _ _).alloc (Nat.le_refl _) _).trans (hb.mono (by simp))
  have c0 := K0.c
  have hz := K0.lt
  clear hb
  go_wp2_with fail
  refine (int_any (B := w1.heap.size + 1) (xs := []) (zs := [3, id]) _ (reads_nil _ _ _) (reads_new w1 [.int .i64 3, .int .i64 id] 3 2 rfl) (by simp) (by intro z hz; simp only [List.mem_cons, List.not_mem_nil, or_false] at hz; rcases hz with rfl | rfl; exact HOK.out.1; exact HOK.out.2.1) (by omega) (by omega)).mono ?_
  rintro e w2 ⟨x, rfl, hown, hb⟩
  rw [List.nil_append] at hown
  have K0 := (K0.alloc _).on hb
  have HB2 := below_after (HB.alloc HB.size _) hb (by simp; exact Nat.le_succ_of_le HB.size)
  have c0 := K0.c
  have hz := K0.lt
  have hlen : (encs ([3, id].map nat0)).length ≤ 20 := by
    have := encs_len ([3, id].map nat0) (by intro y hy; simp only [List.map_cons, List.map_nil, List.mem_cons, List.not_mem_nil, or_false] at hy; rcases hy with rfl | rfl; exact nat0_w HOK.out.1; exact nat0_w HOK.out.2.1)
    simpa using this
  obtain ⟨m, hm⟩ : ∃ m, m = (encs ([3, id].map nat0)).length := ⟨_, rfl⟩
  rw [← hm] at hown hlen
  obtain ⟨A, c, rfl⟩ := own_form hown
  have hR := Reads.of_own hown
  have HMM := Lib.hid hm
  clear hb hown hm
  go_wp2_with fail
  refine (int_any (B := w2.heap.size + 1) (zs := [q, a]) _ ((hR.alloc (Nat.le_refl _) _).more (Nat.le_succ _)) (reads_new w2 [.int .i64 q, .int .i64 a] 3 2 rfl) (by simp) (by intro z hz; simp only [List.mem_cons, List.not_mem_nil, or_false] at hz; rcases hz with rfl | rfl; exact HOK.out.2.2.2.2.1; exact HOK.out.2.2.2.2.2) (by omega) (by omega)).mono ?_
  rintro e w3 ⟨x, rfl, hown, hb⟩
  have HB3 := below_after (HB2.alloc HB2.size _) hb (by simp; exact Nat.le_succ_of_le HB2.size)
  go_wp2_with fail
  go_ret2
  refine ⟨_, rfl, ?_, HB3⟩
  rw [bytes_split HN.out]
  exact own_le hown (by simp; exact Nat.le_succ_of_le HB2.size)

set_option maxHeartbeats 1000000 in
theorem req_yes4 (id u v q a : Int) (hok : Req.ok ⟨4, id, u, v, q, a⟩) (hm : Req.may ⟨4, id, u, v, q, a⟩ = true) (w : World) : Calls Try.prog 34 #[Req.V ⟨4, id, u, v, q, a⟩] w fun e w' => ∃ x, e = .returned (.tuple #[x, .int .i64 0]) ∧ w'.ownsRow w.heap.size 5 1 x (Req.bytes ⟨4, id, u, v, q, a⟩).length (u8s (Req.bytes ⟨4, id, u, v, q, a⟩)) ∧ Below w.heap.size w w' := by
  have HM := Lib.hid hm
  have HOK := Lib.hid hok
  have HN := Lib.hid (nums_4 (r := ⟨4, id, u, v, q, a⟩) rfl)
  clear hm hok
  show Calls Try.prog 34 #[.agg #[.int .i64 4, .int .i64 id, .int .i64 u, .int .i64 v, .int .i64 q, .int .i64 a]] w _
  go_enter Try.func34, Try.ntmps34
  go_wp2_with fail
  refine (may_any ⟨4, id, u, v, q, a⟩ _).mono ?_
  rw [HM.out]
  rintro e w1 ⟨rfl, hb⟩
  have K0 := Blk.on (g := w.heap.size) (t := 50) (cs := #[.int .i64 4, .int .i64 id, .int .i64 u, .int .i64 v, .int .i64 q, .int .i64 a]) (by repeat (first | exact Blk.at_ _ _ _ (by simp) | refine Blk.alloc ?_ _)) hb
  have HB : Below w.heap.size w w1 := ((Below.refl _ _).alloc (Nat.le_refl _) _).trans (hb.mono (by simp))
  have c0 := K0.c
  have hz := K0.lt
  clear hb
  go_wp2_with fail
  refine (int_any (B := w1.heap.size + 1) (xs := []) (zs := [4, id]) _ (reads_nil _ _ _) (reads_new w1 [.int .i64 4, .int .i64 id] 3 2 rfl) (by simp) (by intro z hz; simp only [List.mem_cons, List.not_mem_nil, or_false] at hz; rcases hz with rfl | rfl; exact HOK.out.1; exact HOK.out.2.1) (by omega) (by omega)).mono ?_
  rintro e w2 ⟨x, rfl, hown, hb⟩
  rw [List.nil_append] at hown
  have K0 := (K0.alloc _).on hb
  have HB2 := below_after (HB.alloc HB.size _) hb (by simp; exact Nat.le_succ_of_le HB.size)
  have c0 := K0.c
  have hz := K0.lt
  have hlen : (encs ([4, id].map nat0)).length ≤ 20 := by
    have := encs_len ([4, id].map nat0) (by intro y hy; simp only [List.map_cons, List.map_nil, List.mem_cons, List.not_mem_nil, or_false] at hy; rcases hy with rfl | rfl; exact nat0_w HOK.out.1; exact nat0_w HOK.out.2.1)
    simpa using this
  obtain ⟨m, hm⟩ : ∃ m, m = (encs ([4, id].map nat0)).length := ⟨_, rfl⟩
  rw [← hm] at hown hlen
  obtain ⟨A, c, rfl⟩ := own_form hown
  have hR := Reads.of_own hown
  have HMM := Lib.hid hm
  clear hb hown hm
  go_wp2_with fail
  refine (int_any (B := w2.heap.size + 1) (zs := [a]) _ ((hR.alloc (Nat.le_refl _) _).more (Nat.le_succ _)) (reads_new w2 [.int .i64 a] 3 1 rfl) (by simp) (by intro z hz; simp only [List.mem_cons, List.not_mem_nil, or_false] at hz; rcases hz with rfl; exact HOK.out.2.2.2.2.2) (by omega) (by omega)).mono ?_
  rintro e w3 ⟨x, rfl, hown, hb⟩
  have HB3 := below_after (HB2.alloc HB2.size _) hb (by simp; exact Nat.le_succ_of_le HB2.size)
  go_wp2_with fail
  go_ret2
  refine ⟨_, rfl, ?_, HB3⟩
  rw [bytes_split HN.out]
  exact own_le hown (by simp; exact Nat.le_succ_of_le HB2.size)

theorem req_yes (r : Req) (hok : r.ok) (hm : r.may = true) (w : World) : Calls Try.prog 34 #[r.V] w fun e w' => ∃ v, e = .returned (.tuple #[v, .int .i64 0]) ∧ w'.ownsRow w.heap.size 5 1 v r.bytes.length (u8s r.bytes) ∧ Below w.heap.size w w' := by
  have hk := may_12 hm
  obtain ⟨k, id, u, v, q, a⟩ := r
  simp only at hk
  rcases hk with rfl | rfl | rfl | rfl
  · exact req_yes1 id u v q a hok hm w
  · exact req_yes2 id u v q a hok hm w
  · exact req_yes3 id u v q a hok hm w
  · exact req_yes4 id u v q a hok hm w
end Go.Proofs.Ytejijghghbicdaa
