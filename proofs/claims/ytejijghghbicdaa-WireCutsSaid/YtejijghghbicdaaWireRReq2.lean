/-
  The reference's Request, by contracts: the bytes of a request that may be.
-/
import Derived.Test.YtejijghghbicdaaWireRReq
namespace Go.Proofs.Ytejijghghbicdaa
open Go.RowKit
set_option linter.unusedSimpArgs false
set_option linter.unusedVariables false

theorem int_or {B : Nat} {A A2 : Option Addr} {n c m c2 : Nat} {xs : List Nat} {zs : List Int} (w : World) (hx : Reads w B 1 A n (u8s xs)) (hy : Reads w B 1 A2 m (i64s zs)) (hB : B ≤ w.heap.size)
    (hzs : ∀ z ∈ zs, IN64 z) (hn : n ≤ 1000000000) (hm : m ≤ 1000000000) :
    Calls Try.prog 21 #[.slice A n c, .slice A2 m c2] w fun e w' => ∃ v, e = .returned v ∧ w'.ownsRow w.heap.size 5 1 v (xs ++ encs (zs.map nat0)).length (u8s (xs ++ encs (zs.map nat0))) ∧ Below w.heap.size w w' := rint_any w hx hy hB hzs hn hm
theorem reads_new2 (w : World) {o : Obj} (vs : List Value) (t : TypeId) (n : Nat) (hn : vs.length = n) : Reads ((w.alloc o).alloc (.cells vs.toArray t)) (w.heap.size + 2) 1 (some ⟨w.heap.size + 1, 0, none⟩) n vs := by
  have := reads_new (w.alloc o) vs t n hn
  simpa using this

set_option maxHeartbeats 1000000 in
theorem rreq_yes_1z (id : Int) (hok : Req.ok ⟨1, id, 0, 0, 0, 0⟩) (h0 : ¬ id < 0)  (w : World) : Calls Try.prog 39 #[.agg #[.int .i64 1, .int .i64 id, .int .i64 0, .int .i64 0, .int .i64 0, .int .i64 0]] w fun e w' => ∃ x, e = .returned (.tuple #[x, .int .i64 0]) ∧ w'.ownsRow w.heap.size 5 1 x (Req.bytes ⟨1, id, 0, 0, 0, 0⟩).length (u8s (Req.bytes ⟨1, id, 0, 0, 0, 0⟩)) ∧ Below w.heap.size w w' := by
  have HOK := Lib.hid hok
  clear hok
  have HN : Hid (Req.nums ⟨1, id, 0, 0, 0, 0⟩ = [1, id, 0, 0]) := Lib.hid (by rw [nums_12 (by simp)]; rfl)
  have hu : vertexB 0 = true := rfl
  go_enter Try.func39, Try.ntmps39
  go_wp2_with (go_at_call 57; refine (rvertex_any _ _).mono ?_; rintro e w' ⟨rfl, rfl⟩)
  all_goals
    refine (int_or (B := w.heap.size + 2) (xs := []) (zs := [1, id, 0, 0]) (m := 4) _ (reads_nil _ _ _) (reads_new2 _ [.int .i64 1, .int .i64 id, .int .i64 0, .int .i64 0] 3 4 rfl) (by simp) (by intro z hz; simp only [List.mem_cons, List.not_mem_nil, or_false] at hz; rcases hz with rfl | rfl | rfl | rfl; exact HOK.out.1; exact HOK.out.2.1; exact HOK.out.2.2.1; exact HOK.out.2.2.1) (by omega) (by omega)).mono ?_
    rintro e w3 ⟨x, rfl, hown, hb⟩
    go_wp2_with fail
    go_ret2
    refine ⟨_, rfl, ?_, (((Below.refl _ _).alloc (Nat.le_refl _) _).alloc (by simp) _).trans (hb.mono (by simp; omega))⟩
    unfold Req.bytes
    rw [HN.out]
    exact own_le hown (by simp; omega)

set_option maxHeartbeats 1000000 in
theorem rreq_yes_1a (id v : Int) (hok : Req.ok ⟨1, id, 0, v, 0, 0⟩) (h0 : ¬ id < 0) (hv0 : ¬ v = 0) (hv : vertexB v = true) (w : World) : Calls Try.prog 39 #[.agg #[.int .i64 1, .int .i64 id, .int .i64 0, .int .i64 v, .int .i64 0, .int .i64 0]] w fun e w' => ∃ x, e = .returned (.tuple #[x, .int .i64 0]) ∧ w'.ownsRow w.heap.size 5 1 x (Req.bytes ⟨1, id, 0, v, 0, 0⟩).length (u8s (Req.bytes ⟨1, id, 0, v, 0, 0⟩)) ∧ Below w.heap.size w w' := by
  have HOK := Lib.hid hok
  clear hok
  have HN : Hid (Req.nums ⟨1, id, 0, v, 0, 0⟩ = [1, id, 0, v]) := Lib.hid (by rw [nums_12 (by simp)]; rfl)
  have hu : vertexB 0 = true := rfl
  go_enter Try.func39, Try.ntmps39
  go_wp2_with (go_at_call 57; refine (rvertex_any _ _).mono ?_; rintro e w' ⟨rfl, rfl⟩)
  all_goals
    refine (int_or (B := w.heap.size + 2) (xs := []) (zs := [1, id, 0, v]) (m := 4) _ (reads_nil _ _ _) (reads_new2 _ [.int .i64 1, .int .i64 id, .int .i64 0, .int .i64 v] 3 4 rfl) (by simp) (by intro z hz; simp only [List.mem_cons, List.not_mem_nil, or_false] at hz; rcases hz with rfl | rfl | rfl | rfl; exact HOK.out.1; exact HOK.out.2.1; exact HOK.out.2.2.1; exact HOK.out.2.2.2.1) (by omega) (by omega)).mono ?_
    rintro e w3 ⟨x, rfl, hown, hb⟩
    go_wp2_with fail
    go_ret2
    refine ⟨_, rfl, ?_, (((Below.refl _ _).alloc (Nat.le_refl _) _).alloc (by simp) _).trans (hb.mono (by simp; omega))⟩
    unfold Req.bytes
    rw [HN.out]
    exact own_le hown (by simp; omega)

set_option maxHeartbeats 1000000 in
theorem rreq_yes_1b (id u v : Int) (hok : Req.ok ⟨1, id, u, v, 0, 0⟩) (h0 : ¬ id < 0) (hu0 : ¬ u = 0) (hu : vertexB u = true) (hv : vertexB v = true) (w : World) : Calls Try.prog 39 #[.agg #[.int .i64 1, .int .i64 id, .int .i64 u, .int .i64 v, .int .i64 0, .int .i64 0]] w fun e w' => ∃ x, e = .returned (.tuple #[x, .int .i64 0]) ∧ w'.ownsRow w.heap.size 5 1 x (Req.bytes ⟨1, id, u, v, 0, 0⟩).length (u8s (Req.bytes ⟨1, id, u, v, 0, 0⟩)) ∧ Below w.heap.size w w' := by
  have HOK := Lib.hid hok
  clear hok
  have HN : Hid (Req.nums ⟨1, id, u, v, 0, 0⟩ = [1, id, u, v]) := Lib.hid (by rw [nums_12 (by simp)]; rfl)
  go_enter Try.func39, Try.ntmps39
  go_wp2_with (go_at_call 57; refine (rvertex_any _ _).mono ?_; rintro e w' ⟨rfl, rfl⟩)
  all_goals
    refine (int_or (B := w.heap.size + 2) (xs := []) (zs := [1, id, u, v]) (m := 4) _ (reads_nil _ _ _) (reads_new2 _ [.int .i64 1, .int .i64 id, .int .i64 u, .int .i64 v] 3 4 rfl) (by simp) (by intro z hz; simp only [List.mem_cons, List.not_mem_nil, or_false] at hz; rcases hz with rfl | rfl | rfl | rfl; exact HOK.out.1; exact HOK.out.2.1; exact HOK.out.2.2.1; exact HOK.out.2.2.2.1) (by omega) (by omega)).mono ?_
    rintro e w3 ⟨x, rfl, hown, hb⟩
    go_wp2_with fail
    go_ret2
    refine ⟨_, rfl, ?_, (((Below.refl _ _).alloc (Nat.le_refl _) _).alloc (by simp) _).trans (hb.mono (by simp; omega))⟩
    unfold Req.bytes
    rw [HN.out]
    exact own_le hown (by simp; omega)

set_option maxHeartbeats 1000000 in
theorem rreq_yes_2z (id : Int) (hok : Req.ok ⟨2, id, 0, 0, 0, 0⟩) (h0 : ¬ id < 0)  (w : World) : Calls Try.prog 39 #[.agg #[.int .i64 2, .int .i64 id, .int .i64 0, .int .i64 0, .int .i64 0, .int .i64 0]] w fun e w' => ∃ x, e = .returned (.tuple #[x, .int .i64 0]) ∧ w'.ownsRow w.heap.size 5 1 x (Req.bytes ⟨2, id, 0, 0, 0, 0⟩).length (u8s (Req.bytes ⟨2, id, 0, 0, 0, 0⟩)) ∧ Below w.heap.size w w' := by
  have HOK := Lib.hid hok
  clear hok
  have HN : Hid (Req.nums ⟨2, id, 0, 0, 0, 0⟩ = [2, id, 0, 0]) := Lib.hid (by rw [nums_12 (by simp)]; rfl)
  have hu : vertexB 0 = true := rfl
  go_enter Try.func39, Try.ntmps39
  go_wp2_with (go_at_call 57; refine (rvertex_any _ _).mono ?_; rintro e w' ⟨rfl, rfl⟩)
  all_goals
    refine (int_or (B := w.heap.size + 2) (xs := []) (zs := [2, id, 0, 0]) (m := 4) _ (reads_nil _ _ _) (reads_new2 _ [.int .i64 2, .int .i64 id, .int .i64 0, .int .i64 0] 3 4 rfl) (by simp) (by intro z hz; simp only [List.mem_cons, List.not_mem_nil, or_false] at hz; rcases hz with rfl | rfl | rfl | rfl; exact HOK.out.1; exact HOK.out.2.1; exact HOK.out.2.2.1; exact HOK.out.2.2.1) (by omega) (by omega)).mono ?_
    rintro e w3 ⟨x, rfl, hown, hb⟩
    go_wp2_with fail
    go_ret2
    refine ⟨_, rfl, ?_, (((Below.refl _ _).alloc (Nat.le_refl _) _).alloc (by simp) _).trans (hb.mono (by simp; omega))⟩
    unfold Req.bytes
    rw [HN.out]
    exact own_le hown (by simp; omega)

set_option maxHeartbeats 1000000 in
theorem rreq_yes_2a (id v : Int) (hok : Req.ok ⟨2, id, 0, v, 0, 0⟩) (h0 : ¬ id < 0) (hv0 : ¬ v = 0) (hv : vertexB v = true) (w : World) : Calls Try.prog 39 #[.agg #[.int .i64 2, .int .i64 id, .int .i64 0, .int .i64 v, .int .i64 0, .int .i64 0]] w fun e w' => ∃ x, e = .returned (.tuple #[x, .int .i64 0]) ∧ w'.ownsRow w.heap.size 5 1 x (Req.bytes ⟨2, id, 0, v, 0, 0⟩).length (u8s (Req.bytes ⟨2, id, 0, v, 0, 0⟩)) ∧ Below w.heap.size w w' := by
  have HOK := Lib.hid hok
  clear hok
  have HN : Hid (Req.nums ⟨2, id, 0, v, 0, 0⟩ = [2, id, 0, v]) := Lib.hid (by rw [nums_12 (by simp)]; rfl)
  have hu : vertexB 0 = true := rfl
  go_enter Try.func39, Try.ntmps39
  go_wp2_with (go_at_call 57; refine (rvertex_any _ _).mono ?_; rintro e w' ⟨rfl, rfl⟩)
  all_goals
    refine (int_or (B := w.heap.size + 2) (xs := []) (zs := [2, id, 0, v]) (m := 4) _ (reads_nil _ _ _) (reads_new2 _ [.int .i64 2, .int .i64 id, .int .i64 0, .int .i64 v] 3 4 rfl) (by simp) (by intro z hz; simp only [List.mem_cons, List.not_mem_nil, or_false] at hz; rcases hz with rfl | rfl | rfl | rfl; exact HOK.out.1; exact HOK.out.2.1; exact HOK.out.2.2.1; exact HOK.out.2.2.2.1) (by omega) (by omega)).mono ?_
    rintro e w3 ⟨x, rfl, hown, hb⟩
    go_wp2_with fail
    go_ret2
    refine ⟨_, rfl, ?_, (((Below.refl _ _).alloc (Nat.le_refl _) _).alloc (by simp) _).trans (hb.mono (by simp; omega))⟩
    unfold Req.bytes
    rw [HN.out]
    exact own_le hown (by simp; omega)

set_option maxHeartbeats 1000000 in
theorem rreq_yes_2b (id u v : Int) (hok : Req.ok ⟨2, id, u, v, 0, 0⟩) (h0 : ¬ id < 0) (hu0 : ¬ u = 0) (hu : vertexB u = true) (hv : vertexB v = true) (w : World) : Calls Try.prog 39 #[.agg #[.int .i64 2, .int .i64 id, .int .i64 u, .int .i64 v, .int .i64 0, .int .i64 0]] w fun e w' => ∃ x, e = .returned (.tuple #[x, .int .i64 0]) ∧ w'.ownsRow w.heap.size 5 1 x (Req.bytes ⟨2, id, u, v, 0, 0⟩).length (u8s (Req.bytes ⟨2, id, u, v, 0, 0⟩)) ∧ Below w.heap.size w w' := by
  have HOK := Lib.hid hok
  clear hok
  have HN : Hid (Req.nums ⟨2, id, u, v, 0, 0⟩ = [2, id, u, v]) := Lib.hid (by rw [nums_12 (by simp)]; rfl)
  go_enter Try.func39, Try.ntmps39
  go_wp2_with (go_at_call 57; refine (rvertex_any _ _).mono ?_; rintro e w' ⟨rfl, rfl⟩)
  all_goals
    refine (int_or (B := w.heap.size + 2) (xs := []) (zs := [2, id, u, v]) (m := 4) _ (reads_nil _ _ _) (reads_new2 _ [.int .i64 2, .int .i64 id, .int .i64 u, .int .i64 v] 3 4 rfl) (by simp) (by intro z hz; simp only [List.mem_cons, List.not_mem_nil, or_false] at hz; rcases hz with rfl | rfl | rfl | rfl; exact HOK.out.1; exact HOK.out.2.1; exact HOK.out.2.2.1; exact HOK.out.2.2.2.1) (by omega) (by omega)).mono ?_
    rintro e w3 ⟨x, rfl, hown, hb⟩
    go_wp2_with fail
    go_ret2
    refine ⟨_, rfl, ?_, (((Below.refl _ _).alloc (Nat.le_refl _) _).alloc (by simp) _).trans (hb.mono (by simp; omega))⟩
    unfold Req.bytes
    rw [HN.out]
    exact own_le hown (by simp; omega)

set_option maxHeartbeats 1000000 in
theorem rreq_yes_3_1 (id a : Int) (hok : Req.ok ⟨3, id, 0, 0, 1, a⟩) (h0 : ¬ id < 0) (ha : ¬ a < 0) (w : World) : Calls Try.prog 39 #[.agg #[.int .i64 3, .int .i64 id, .int .i64 0, .int .i64 0, .int .i64 1, .int .i64 a]] w fun e w' => ∃ x, e = .returned (.tuple #[x, .int .i64 0]) ∧ w'.ownsRow w.heap.size 5 1 x (Req.bytes ⟨3, id, 0, 0, 1, a⟩).length (u8s (Req.bytes ⟨3, id, 0, 0, 1, a⟩)) ∧ Below w.heap.size w w' := by
  have HOK := Lib.hid hok
  clear hok
  have HN : Hid (Req.nums ⟨3, id, 0, 0, 1, a⟩ = [3, id, 1, a]) := Lib.hid (by rw [nums_3 (by rfl)]; rfl)
  go_enter Try.func39, Try.ntmps39
  go_wp2_with fail
  all_goals
    refine (int_or (B := w.heap.size + 2) (xs := []) (zs := [3, id, 1, a]) (m := 4) _ (reads_nil _ _ _) (reads_new2 _ [.int .i64 3, .int .i64 id, .int .i64 1, .int .i64 a] 3 4 rfl) (by simp) (by intro z hz; simp only [List.mem_cons, List.not_mem_nil, or_false] at hz; rcases hz with rfl | rfl | rfl | rfl; exact HOK.out.1; exact HOK.out.2.1; exact HOK.out.2.2.2.2.1; exact HOK.out.2.2.2.2.2) (by omega) (by omega)).mono ?_
    rintro e w3 ⟨x, rfl, hown, hb⟩
    go_wp2_with fail
    go_ret2
    refine ⟨_, rfl, ?_, (((Below.refl _ _).alloc (Nat.le_refl _) _).alloc (by simp) _).trans (hb.mono (by simp; omega))⟩
    unfold Req.bytes
    rw [HN.out]
    exact own_le hown (by simp; omega)

set_option maxHeartbeats 1000000 in
theorem rreq_yes_3_4 (id a : Int) (hok : Req.ok ⟨3, id, 0, 0, 4, a⟩) (h0 : ¬ id < 0) (ha : ¬ a < 0) (w : World) : Calls Try.prog 39 #[.agg #[.int .i64 3, .int .i64 id, .int .i64 0, .int .i64 0, .int .i64 4, .int .i64 a]] w fun e w' => ∃ x, e = .returned (.tuple #[x, .int .i64 0]) ∧ w'.ownsRow w.heap.size 5 1 x (Req.bytes ⟨3, id, 0, 0, 4, a⟩).length (u8s (Req.bytes ⟨3, id, 0, 0, 4, a⟩)) ∧ Below w.heap.size w w' := by
  have HOK := Lib.hid hok
  clear hok
  have HN : Hid (Req.nums ⟨3, id, 0, 0, 4, a⟩ = [3, id, 4, a]) := Lib.hid (by rw [nums_3 (by rfl)]; rfl)
  go_enter Try.func39, Try.ntmps39
  go_wp2_with fail
  all_goals
    refine (int_or (B := w.heap.size + 2) (xs := []) (zs := [3, id, 4, a]) (m := 4) _ (reads_nil _ _ _) (reads_new2 _ [.int .i64 3, .int .i64 id, .int .i64 4, .int .i64 a] 3 4 rfl) (by simp) (by intro z hz; simp only [List.mem_cons, List.not_mem_nil, or_false] at hz; rcases hz with rfl | rfl | rfl | rfl; exact HOK.out.1; exact HOK.out.2.1; exact HOK.out.2.2.2.2.1; exact HOK.out.2.2.2.2.2) (by omega) (by omega)).mono ?_
    rintro e w3 ⟨x, rfl, hown, hb⟩
    go_wp2_with fail
    go_ret2
    refine ⟨_, rfl, ?_, (((Below.refl _ _).alloc (Nat.le_refl _) _).alloc (by simp) _).trans (hb.mono (by simp; omega))⟩
    unfold Req.bytes
    rw [HN.out]
    exact own_le hown (by simp; omega)

set_option maxHeartbeats 1000000 in
theorem rreq_yes_3_2 (id : Int) (hok : Req.ok ⟨3, id, 0, 0, 2, 0⟩) (h0 : ¬ id < 0)  (w : World) : Calls Try.prog 39 #[.agg #[.int .i64 3, .int .i64 id, .int .i64 0, .int .i64 0, .int .i64 2, .int .i64 0]] w fun e w' => ∃ x, e = .returned (.tuple #[x, .int .i64 0]) ∧ w'.ownsRow w.heap.size 5 1 x (Req.bytes ⟨3, id, 0, 0, 2, 0⟩).length (u8s (Req.bytes ⟨3, id, 0, 0, 2, 0⟩)) ∧ Below w.heap.size w w' := by
  have HOK := Lib.hid hok
  clear hok
  have HN : Hid (Req.nums ⟨3, id, 0, 0, 2, 0⟩ = [3, id, 2, 0]) := Lib.hid (by rw [nums_3 (by rfl)]; rfl)
  go_enter Try.func39, Try.ntmps39
  go_wp2_with fail
  all_goals
    refine (int_or (B := w.heap.size + 2) (xs := []) (zs := [3, id, 2, 0]) (m := 4) _ (reads_nil _ _ _) (reads_new2 _ [.int .i64 3, .int .i64 id, .int .i64 2, .int .i64 0] 3 4 rfl) (by simp) (by intro z hz; simp only [List.mem_cons, List.not_mem_nil, or_false] at hz; rcases hz with rfl | rfl | rfl | rfl; exact HOK.out.1; exact HOK.out.2.1; exact HOK.out.2.2.2.2.1; exact HOK.out.2.2.1) (by omega) (by omega)).mono ?_
    rintro e w3 ⟨x, rfl, hown, hb⟩
    go_wp2_with fail
    go_ret2
    refine ⟨_, rfl, ?_, (((Below.refl _ _).alloc (Nat.le_refl _) _).alloc (by simp) _).trans (hb.mono (by simp; omega))⟩
    unfold Req.bytes
    rw [HN.out]
    exact own_le hown (by simp; omega)

set_option maxHeartbeats 1000000 in
theorem rreq_yes_3_3 (id : Int) (hok : Req.ok ⟨3, id, 0, 0, 3, 0⟩) (h0 : ¬ id < 0)  (w : World) : Calls Try.prog 39 #[.agg #[.int .i64 3, .int .i64 id, .int .i64 0, .int .i64 0, .int .i64 3, .int .i64 0]] w fun e w' => ∃ x, e = .returned (.tuple #[x, .int .i64 0]) ∧ w'.ownsRow w.heap.size 5 1 x (Req.bytes ⟨3, id, 0, 0, 3, 0⟩).length (u8s (Req.bytes ⟨3, id, 0, 0, 3, 0⟩)) ∧ Below w.heap.size w w' := by
  have HOK := Lib.hid hok
  clear hok
  have HN : Hid (Req.nums ⟨3, id, 0, 0, 3, 0⟩ = [3, id, 3, 0]) := Lib.hid (by rw [nums_3 (by rfl)]; rfl)
  go_enter Try.func39, Try.ntmps39
  go_wp2_with fail
  all_goals
    refine (int_or (B := w.heap.size + 2) (xs := []) (zs := [3, id, 3, 0]) (m := 4) _ (reads_nil _ _ _) (reads_new2 _ [.int .i64 3, .int .i64 id, .int .i64 3, .int .i64 0] 3 4 rfl) (by simp) (by intro z hz; simp only [List.mem_cons, List.not_mem_nil, or_false] at hz; rcases hz with rfl | rfl | rfl | rfl; exact HOK.out.1; exact HOK.out.2.1; exact HOK.out.2.2.2.2.1; exact HOK.out.2.2.1) (by omega) (by omega)).mono ?_
    rintro e w3 ⟨x, rfl, hown, hb⟩
    go_wp2_with fail
    go_ret2
    refine ⟨_, rfl, ?_, (((Below.refl _ _).alloc (Nat.le_refl _) _).alloc (by simp) _).trans (hb.mono (by simp; omega))⟩
    unfold Req.bytes
    rw [HN.out]
    exact own_le hown (by simp; omega)

set_option maxHeartbeats 1000000 in
theorem rreq_yes_4z (id : Int) (hok : Req.ok ⟨4, id, 0, 0, 0, 0⟩) (h0 : ¬ id < 0)  (w : World) : Calls Try.prog 39 #[.agg #[.int .i64 4, .int .i64 id, .int .i64 0, .int .i64 0, .int .i64 0, .int .i64 0]] w fun e w' => ∃ x, e = .returned (.tuple #[x, .int .i64 0]) ∧ w'.ownsRow w.heap.size 5 1 x (Req.bytes ⟨4, id, 0, 0, 0, 0⟩).length (u8s (Req.bytes ⟨4, id, 0, 0, 0, 0⟩)) ∧ Below w.heap.size w w' := by
  have HOK := Lib.hid hok
  clear hok
  have HN : Hid (Req.nums ⟨4, id, 0, 0, 0, 0⟩ = [4, id, 0]) := Lib.hid (by rw [nums_4 (by rfl)]; rfl)
  go_enter Try.func39, Try.ntmps39
  go_wp2_with fail
  all_goals
    refine (int_or (B := w.heap.size + 2) (xs := []) (zs := [4, id, 0]) (m := 3) _ (reads_nil _ _ _) (reads_new2 _ [.int .i64 4, .int .i64 id, .int .i64 0] 3 3 rfl) (by simp) (by intro z hz; simp only [List.mem_cons, List.not_mem_nil, or_false] at hz; rcases hz with rfl | rfl | rfl; exact HOK.out.1; exact HOK.out.2.1; exact HOK.out.2.2.1) (by omega) (by omega)).mono ?_
    rintro e w3 ⟨x, rfl, hown, hb⟩
    go_wp2_with fail
    go_ret2
    refine ⟨_, rfl, ?_, (((Below.refl _ _).alloc (Nat.le_refl _) _).alloc (by simp) _).trans (hb.mono (by simp; omega))⟩
    unfold Req.bytes
    rw [HN.out]
    exact own_le hown (by simp; omega)

set_option maxHeartbeats 1000000 in
theorem rreq_yes_4 (id a : Int) (hok : Req.ok ⟨4, id, 0, 0, 0, a⟩) (h0 : ¬ id < 0) (ha0 : ¬ a = 0) (ha : ¬ a < 0) (w : World) : Calls Try.prog 39 #[.agg #[.int .i64 4, .int .i64 id, .int .i64 0, .int .i64 0, .int .i64 0, .int .i64 a]] w fun e w' => ∃ x, e = .returned (.tuple #[x, .int .i64 0]) ∧ w'.ownsRow w.heap.size 5 1 x (Req.bytes ⟨4, id, 0, 0, 0, a⟩).length (u8s (Req.bytes ⟨4, id, 0, 0, 0, a⟩)) ∧ Below w.heap.size w w' := by
  have HOK := Lib.hid hok
  clear hok
  have HN : Hid (Req.nums ⟨4, id, 0, 0, 0, a⟩ = [4, id, a]) := Lib.hid (by rw [nums_4 (by rfl)]; rfl)
  go_enter Try.func39, Try.ntmps39
  go_wp2_with fail
  all_goals
    refine (int_or (B := w.heap.size + 2) (xs := []) (zs := [4, id, a]) (m := 3) _ (reads_nil _ _ _) (reads_new2 _ [.int .i64 4, .int .i64 id, .int .i64 a] 3 3 rfl) (by simp) (by intro z hz; simp only [List.mem_cons, List.not_mem_nil, or_false] at hz; rcases hz with rfl | rfl | rfl; exact HOK.out.1; exact HOK.out.2.1; exact HOK.out.2.2.2.2.2) (by omega) (by omega)).mono ?_
    rintro e w3 ⟨x, rfl, hown, hb⟩
    go_wp2_with fail
    go_ret2
    refine ⟨_, rfl, ?_, (((Below.refl _ _).alloc (Nat.le_refl _) _).alloc (by simp) _).trans (hb.mono (by simp; omega))⟩
    unfold Req.bytes
    rw [HN.out]
    exact own_le hown (by simp; omega)

theorem rreq_yes (r : Req) (hok : r.ok) (hm : r.may = true) (w : World) : Calls Try.prog 39 #[r.V] w fun e w' => ∃ x, e = .returned (.tuple #[x, .int .i64 0]) ∧ w'.ownsRow w.heap.size 5 1 x (Req.bytes r).length (u8s (Req.bytes r)) ∧ Below w.heap.size w w' := by
  have hk := may_12 hm
  have h0 : ¬ r.id < 0 := by
    intro h; unfold Req.may at hm; rw [if_pos h] at hm; cases hm
  obtain ⟨k, id, u, v, q, a⟩ := r
  simp only at hk h0
  show Calls Try.prog 39 #[.agg #[.int .i64 k, .int .i64 id, .int .i64 u, .int .i64 v, .int .i64 q, .int .i64 a]] w _
  have go : ∀ (h12 : k = 1 ∨ k = 2), vertexB u = true ∧ vertexB v = true ∧ q = 0 ∧ a = 0 := by
    intro h12
    rw [may_1 (by exact h0) (by exact h12)] at hm
    simpa [and_assoc] using hm
  rcases hk with rfl | rfl | rfl | rfl
  · obtain ⟨hu, hv, rfl, rfl⟩ := go (.inl rfl)
    by_cases hu0 : u = 0
    · subst hu0
      by_cases hv0 : v = 0
      · subst hv0; exact rreq_yes_1z id hok h0 w
      · exact rreq_yes_1a id v hok h0 hv0 hv w
    · exact rreq_yes_1b id u v hok h0 hu0 hu hv w
  · obtain ⟨hu, hv, rfl, rfl⟩ := go (.inr rfl)
    by_cases hu0 : u = 0
    · subst hu0
      by_cases hv0 : v = 0
      · subst hv0; exact rreq_yes_2z id hok h0 w
      · exact rreq_yes_2a id v hok h0 hv0 hv w
    · exact rreq_yes_2b id u v hok h0 hu0 hu hv w
  · rw [may_3 (by exact h0) (by rfl)] at hm
    simp only [Bool.and_eq_true, decide_eq_true_eq] at hm
    obtain ⟨hq, rfl, rfl⟩ := hm
    unfold queryB at hq
    by_cases h14 : q = 1 ∨ q = 4
    · rw [if_pos h14] at hq
      have ha : ¬ a < 0 := by simpa using hq
      rcases h14 with rfl | rfl
      · exact rreq_yes_3_1 id a hok h0 ha w
      · exact rreq_yes_3_4 id a hok h0 ha w
    · rw [if_neg h14] at hq
      by_cases h23 : q = 2 ∨ q = 3
      · rw [if_pos h23] at hq
        have ha : a = 0 := by simpa using hq
        subst ha
        rcases h23 with rfl | rfl
        · exact rreq_yes_3_2 id hok h0 w
        · exact rreq_yes_3_3 id hok h0 w
      · rw [if_neg h23] at hq; cases hq
  · rw [may_4 (by exact h0) (by rfl)] at hm
    simp only [decide_eq_true_eq] at hm
    obtain ⟨ha, rfl, rfl, rfl⟩ := hm
    by_cases ha0 : a = 0
    · subst ha0; exact rreq_yes_4z id hok h0 w
    · exact rreq_yes_4 id a hok h0 ha0 (by omega) w
end Go.Proofs.Ytejijghghbicdaa
