/-
  TimeOrders: which times are at most which, their join and meet, for all three times; the call returns true and changes nothing that was in memory.
-/
import Derived.Test.YtpmkbhmmdfkhpaaPtime2
import Derived.Test.YtpmkbhmmdfkhpaaRow
namespace Go.Proofs.Ytpmkbhmmdfkhpaa
open Go.ChangeShapes Go.WideShapes Go.ChangeAt Go.RowKit Go.Joins
set_option linter.unusedSimpArgs false

theorem less_yes (a b c d : Int) (w : World) (h : lessB a b c d = true) :
    Calls Try.prog 10 #[tv a b, tv c d] w fun e w' => e = .returned (.bool true) ∧ Below w.heap.size w w' :=
  (less_any a b c d w).mono fun _ _ ⟨he, hb⟩ => ⟨by rw [he, h], hb⟩
theorem less_no (a b c d : Int) (w : World) (h : lessB a b c d = false) :
    Calls Try.prog 10 #[tv a b, tv c d] w fun e w' => e = .returned (.bool false) ∧ Below w.heap.size w w' :=
  (less_any a b c d w).mono fun _ _ ⟨he, hb⟩ => ⟨by rw [he, h], hb⟩
theorem less_self (a b : Int) : lessB a b a b = true := by simp [lessB]
theorem less_both {a b c d : Int} (h : lessB a b c d = true) (h' : lessB c d a b = true) : a = c ∧ b = d := by simp [lessB] at h h'; omega
theorem less_on {a b c d e f : Int} (h : lessB a b c d = true) (h' : lessB c d e f = true) : lessB a b e f = true := by simp [lessB] at h h' ⊢; omega
theorem less_join (a b c d e f : Int) : lessB (max a c) (max b d) e f = (lessB a b e f && lessB c d e f) := by
  rw [Bool.eq_iff_iff]; simp [lessB]; omega
theorem less_meet (a b c d e f : Int) : lessB e f (min a c) (min b d) = (lessB e f a b && lessB e f c d) := by
  rw [Bool.eq_iff_iff]; simp [lessB]; omega
theorem less_j1 (a b c d : Int) : lessB a b (max a c) (max b d) = true := by simp [lessB]; omega
theorem less_j2 (a b c d : Int) : lessB c d (max a c) (max b d) = true := by simp [lessB]; omega
theorem less_m1 (a b c d : Int) : lessB (min a c) (min b d) a b = true := by simp [lessB]; omega
theorem less_m2 (a b c d : Int) : lessB (min a c) (min b d) c d = true := by simp [lessB]; omega

set_option maxRecDepth 100000 in
set_option maxHeartbeats 20000000 in
theorem timeOrders_walk (a0 b0 a1 b1 a2 b2 : Int) (w : World) :
    Calls Try.prog 4 #[tv a0 b0, tv a1 b1, tv a2 b2] w fun e w' => e = .returned (.bool true) ∧ Below w.heap.size w w' := by
  go_enter Try.func4, Try.ntmps4
  go_wp2_with fail
  refine (alive_any _).mono ?_
  rintro e w1 ⟨rfl, hb⟩
  have K0 := Blk.on (g := w.heap.size) (t := 23) (cs := #[.int .i64 a0, .int .i64 b0]) (by repeat (first | exact Blk.at_ _ _ _ (by simp) | refine Blk.alloc ?_ _)) hb
  have K1 := Blk.on (g := w.heap.size + 1) (t := 23) (cs := #[.int .i64 a1, .int .i64 b1]) (by repeat (first | exact Blk.at_ _ _ _ (by simp) | refine Blk.alloc ?_ _)) hb
  have K2 := Blk.on (g := w.heap.size + 1 + 1) (t := 23) (cs := #[.int .i64 a2, .int .i64 b2]) (by repeat (first | exact Blk.at_ _ _ _ (by simp) | refine Blk.alloc ?_ _)) hb
  have HB : Below w.heap.size w w1 := by repeat (first | exact Below.refl _ _ | refine Below.setCell ?_ (by first | omega | (simp; done) | (simp; omega)) _ | refine Below.alloc ?_ (by first | omega | (simp; done) | (simp; omega)) _ | refine Below.drew ?_ | refine below_drewN ?_ _ | refine below_after ?_ (by assumption) (by first | omega | (simp; done) | (simp; omega)))
  have c0 := K0.c
  have z0 := K0.lt
  have c1 := K1.c
  have z1 := K1.lt
  have c2 := K2.c
  have z2 := K2.lt
  clear hb
  go_wp2_with fail
  refine (join_any _ _ _ _ _).mono ?_
  rintro e w2 ⟨rfl, hb⟩
  have K0 := (K0).on hb
  have K1 := (K1).on hb
  have K2 := (K2).on hb
  have HB := below_after HB hb HB.size
  clear hb
  have c0 := K0.c
  have z0 := K0.lt
  have c1 := K1.c
  have z1 := K1.lt
  have c2 := K2.c
  have z2 := K2.lt
  go_wp2_with fail
  refine (meet_any _ _ _ _ _).mono ?_
  rintro e w3 ⟨rfl, hb⟩
  have K0 := (K0.alloc _).on hb
  have K1 := (K1.alloc _).on hb
  have K2 := (K2.alloc _).on hb
  have K3 := Blk.on (g := w2.heap.size) (t := 23) (cs := #[.int .i64 (max a0 a1), .int .i64 (max b0 b1)]) (by repeat (first | exact Blk.at_ _ _ _ (by simp) | refine Blk.alloc ?_ _)) hb
  have HB := below_after (HB.alloc HB.size _) hb (HB.alloc HB.size _).size
  clear hb
  have c0 := K0.c
  have z0 := K0.lt
  have c1 := K1.c
  have z1 := K1.lt
  have c2 := K2.c
  have z2 := K2.lt
  have c3 := K3.c
  have z3 := K3.lt
  go_wp2_with fail
  go_cut [10] (fun v W => v = .bool true ∧ (fun W => Below w.heap.size w W ∧ Blk W (w.heap.size) 23 #[.int .i64 a0, .int .i64 b0] ∧ Blk W (w.heap.size + 1) 23 #[.int .i64 a1, .int .i64 b1] ∧ Blk W (w.heap.size + 1 + 1) 23 #[.int .i64 a2, .int .i64 b2] ∧ Blk W (w2.heap.size) 23 #[.int .i64 (max a0 a1), .int .i64 (max b0 b1)] ∧ Blk W (w3.heap.size) 23 #[.int .i64 (min a0 a1), .int .i64 (min b0 b1)] ∧ (∀ i, W.cell? ⟨w.heap.size, i, none⟩ = #[.int .i64 a0, .int .i64 b0][i]?) ∧ (∀ i, W.cell? ⟨w.heap.size + 1, i, none⟩ = #[.int .i64 a1, .int .i64 b1][i]?) ∧ (∀ i, W.cell? ⟨w.heap.size + 1 + 1, i, none⟩ = #[.int .i64 a2, .int .i64 b2][i]?) ∧ (∀ i, W.cell? ⟨w2.heap.size, i, none⟩ = #[.int .i64 (max a0 a1), .int .i64 (max b0 b1)][i]?) ∧ (∀ i, W.cell? ⟨w3.heap.size, i, none⟩ = #[.int .i64 (min a0 a1), .int .i64 (min b0 b1)][i]?)) W)
  case first =>
    go_region_held3 (fun W => Below w.heap.size w W ∧ Blk W (w.heap.size) 23 #[.int .i64 a0, .int .i64 b0] ∧ Blk W (w.heap.size + 1) 23 #[.int .i64 a1, .int .i64 b1] ∧ Blk W (w.heap.size + 1 + 1) 23 #[.int .i64 a2, .int .i64 b2] ∧ Blk W (w2.heap.size) 23 #[.int .i64 (max a0 a1), .int .i64 (max b0 b1)] ∧ Blk W (w3.heap.size) 23 #[.int .i64 (min a0 a1), .int .i64 (min b0 b1)] ∧ (∀ i, W.cell? ⟨w.heap.size, i, none⟩ = #[.int .i64 a0, .int .i64 b0][i]?) ∧ (∀ i, W.cell? ⟨w.heap.size + 1, i, none⟩ = #[.int .i64 a1, .int .i64 b1][i]?) ∧ (∀ i, W.cell? ⟨w.heap.size + 1 + 1, i, none⟩ = #[.int .i64 a2, .int .i64 b2][i]?) ∧ (∀ i, W.cell? ⟨w2.heap.size, i, none⟩ = #[.int .i64 (max a0 a1), .int .i64 (max b0 b1)][i]?) ∧ (∀ i, W.cell? ⟨w3.heap.size, i, none⟩ = #[.int .i64 (min a0 a1), .int .i64 (min b0 b1)][i]?)) (first | exact ⟨(HB.alloc HB.size _).drew, (K0.alloc _), (K1.alloc _), (K2.alloc _), (K3.alloc _), (by repeat (first | exact Blk.at_ _ _ _ (by simp) | refine Blk.alloc ?_ _) : Blk _ (w3.heap.size) 23 #[.int .i64 (min a0 a1), .int .i64 (min b0 b1)]), (K0.alloc _).c, (K1.alloc _).c, (K2.alloc _).c, (K3.alloc _).c, (by repeat (first | exact Blk.at_ _ _ _ (by simp) | refine Blk.alloc ?_ _) : Blk _ (w3.heap.size) 23 #[.int .i64 (min a0 a1), .int .i64 (min b0 b1)]).c⟩ | exact keep5 (by assumption) hb (Nat.le_refl _)) (first | (go_at_call 10; refine (less_any _ _ _ _ _).mono ?_; rintro e w1 ⟨rfl, hb⟩) | (go_at_call 11; refine (rless_any _ _ _ _ _).mono ?_; rintro e w1 ⟨rfl, hb⟩) | (go_at_call 12; refine (rjoin_any _ _ _ _ _).mono ?_; rintro e w1 ⟨rfl, hb⟩) | (go_at_call 13; refine (rmeet_any _ _ _ _ _).mono ?_; rintro e w1 ⟨rfl, hb⟩) | (go_at_call 14; refine (may_any _ _ _).mono ?_; rintro e w1 ⟨rfl, hb⟩) | (go_at_call 15; refine (rmay_any _ _ _).mono ?_; rintro e w1 ⟨rfl, hb⟩))
    go_wp2_with fail
    go_meet
    exact ⟨rfl, by assumption⟩
  case rest =>
    obtain ⟨rfl, HB, K0, K1, K2, K3, K4, c0, c1, c2, c3, c4⟩ := hcut
    have z0 := K0.lt
    have z1 := K1.lt
    have z2 := K2.lt
    have z3 := K3.lt
    have z4 := K4.lt
    go_upto_region 5 with fail
    go_cut [11] (fun v W => v = .bool true ∧ (fun W => Below w.heap.size w W ∧ Blk W (w.heap.size) 23 #[.int .i64 a0, .int .i64 b0] ∧ Blk W (w.heap.size + 1) 23 #[.int .i64 a1, .int .i64 b1] ∧ Blk W (w.heap.size + 1 + 1) 23 #[.int .i64 a2, .int .i64 b2] ∧ Blk W (w2.heap.size) 23 #[.int .i64 (max a0 a1), .int .i64 (max b0 b1)] ∧ Blk W (w3.heap.size) 23 #[.int .i64 (min a0 a1), .int .i64 (min b0 b1)] ∧ (∀ i, W.cell? ⟨w.heap.size, i, none⟩ = #[.int .i64 a0, .int .i64 b0][i]?) ∧ (∀ i, W.cell? ⟨w.heap.size + 1, i, none⟩ = #[.int .i64 a1, .int .i64 b1][i]?) ∧ (∀ i, W.cell? ⟨w.heap.size + 1 + 1, i, none⟩ = #[.int .i64 a2, .int .i64 b2][i]?) ∧ (∀ i, W.cell? ⟨w2.heap.size, i, none⟩ = #[.int .i64 (max a0 a1), .int .i64 (max b0 b1)][i]?) ∧ (∀ i, W.cell? ⟨w3.heap.size, i, none⟩ = #[.int .i64 (min a0 a1), .int .i64 (min b0 b1)][i]?)) W)
    case first =>
      cases e1 : lessB a0 b0 a1 b1
      · skip
        go_wp2_with fail
        refine (less_any _ _ _ _ _).mono ?_
        rintro e w5 ⟨rfl, hb⟩
        have K0 := (K0).on hb
        have K1 := (K1).on hb
        have K2 := (K2).on hb
        have K3 := (K3).on hb
        have K4 := (K4).on hb
        have HB := below_after HB hb HB.size
        clear hb
        have c0 := K0.c
        have z0 := K0.lt
        have c1 := K1.c
        have z1 := K1.lt
        have c2 := K2.c
        have z2 := K2.lt
        have c3 := K3.c
        have z3 := K3.lt
        have c4 := K4.c
        have z4 := K4.lt
        go_wp2_with fail
        go_meet
        exact ⟨rfl, HB, K0, K1, K2, K3, K4, c0, c1, c2, c3, c4⟩
      cases e2 : lessB a1 b1 a0 b0
      · skip
        go_wp2_with fail
        refine (less_any _ _ _ _ _).mono ?_
        rintro e w5 ⟨rfl, hb⟩
        have K0 := (K0).on hb
        have K1 := (K1).on hb
        have K2 := (K2).on hb
        have K3 := (K3).on hb
        have K4 := (K4).on hb
        have HB := below_after HB hb HB.size
        clear hb
        have c0 := K0.c
        have z0 := K0.lt
        have c1 := K1.c
        have z1 := K1.lt
        have c2 := K2.c
        have z2 := K2.lt
        have c3 := K3.c
        have z3 := K3.lt
        have c4 := K4.c
        have z4 := K4.lt
        go_wp2_with fail
        refine (less_any _ _ _ _ _).mono ?_
        rintro e w6 ⟨rfl, hb⟩
        have K0 := (K0).on hb
        have K1 := (K1).on hb
        have K2 := (K2).on hb
        have K3 := (K3).on hb
        have K4 := (K4).on hb
        have HB := below_after HB hb HB.size
        clear hb
        have c0 := K0.c
        have z0 := K0.lt
        have c1 := K1.c
        have z1 := K1.lt
        have c2 := K2.c
        have z2 := K2.lt
        have c3 := K3.c
        have z3 := K3.lt
        have c4 := K4.c
        have z4 := K4.lt
        go_wp2_with fail
        go_meet
        exact ⟨rfl, HB, K0, K1, K2, K3, K4, c0, c1, c2, c3, c4⟩
      have E := less_both e1 e2
      have E1 : (a0 == a1) = true := by simp [E.1]
      have E2 : (b0 == b1) = true := by simp [E.2]
      clear E
      · skip
        go_wp2_with fail
        refine (less_any _ _ _ _ _).mono ?_
        rintro e w5 ⟨rfl, hb⟩
        have K0 := (K0).on hb
        have K1 := (K1).on hb
        have K2 := (K2).on hb
        have K3 := (K3).on hb
        have K4 := (K4).on hb
        have HB := below_after HB hb HB.size
        clear hb
        have c0 := K0.c
        have z0 := K0.lt
        have c1 := K1.c
        have z1 := K1.lt
        have c2 := K2.c
        have z2 := K2.lt
        have c3 := K3.c
        have z3 := K3.lt
        have c4 := K4.c
        have z4 := K4.lt
        go_wp2_with fail
        refine (less_any _ _ _ _ _).mono ?_
        rintro e w6 ⟨rfl, hb⟩
        have K0 := (K0).on hb
        have K1 := (K1).on hb
        have K2 := (K2).on hb
        have K3 := (K3).on hb
        have K4 := (K4).on hb
        have HB := below_after HB hb HB.size
        clear hb
        have c0 := K0.c
        have z0 := K0.lt
        have c1 := K1.c
        have z1 := K1.lt
        have c2 := K2.c
        have z2 := K2.lt
        have c3 := K3.c
        have z3 := K3.lt
        have c4 := K4.c
        have z4 := K4.lt
        go_wp2_with fail
        go_meet
        exact ⟨rfl, HB, K0, K1, K2, K3, K4, c0, c1, c2, c3, c4⟩
    case rest =>
      obtain ⟨rfl, HB, K0, K1, K2, K3, K4, c0, c1, c2, c3, c4⟩ := hcut
      have z0 := K0.lt
      have z1 := K1.lt
      have z2 := K2.lt
      have z3 := K3.lt
      have z4 := K4.lt
      go_upto_region 6 with fail
      go_cut [12] (fun v W => v = .bool true ∧ (fun W => Below w.heap.size w W ∧ Blk W (w.heap.size) 23 #[.int .i64 a0, .int .i64 b0] ∧ Blk W (w.heap.size + 1) 23 #[.int .i64 a1, .int .i64 b1] ∧ Blk W (w.heap.size + 1 + 1) 23 #[.int .i64 a2, .int .i64 b2] ∧ Blk W (w2.heap.size) 23 #[.int .i64 (max a0 a1), .int .i64 (max b0 b1)] ∧ Blk W (w3.heap.size) 23 #[.int .i64 (min a0 a1), .int .i64 (min b0 b1)] ∧ (∀ i, W.cell? ⟨w.heap.size, i, none⟩ = #[.int .i64 a0, .int .i64 b0][i]?) ∧ (∀ i, W.cell? ⟨w.heap.size + 1, i, none⟩ = #[.int .i64 a1, .int .i64 b1][i]?) ∧ (∀ i, W.cell? ⟨w.heap.size + 1 + 1, i, none⟩ = #[.int .i64 a2, .int .i64 b2][i]?) ∧ (∀ i, W.cell? ⟨w2.heap.size, i, none⟩ = #[.int .i64 (max a0 a1), .int .i64 (max b0 b1)][i]?) ∧ (∀ i, W.cell? ⟨w3.heap.size, i, none⟩ = #[.int .i64 (min a0 a1), .int .i64 (min b0 b1)][i]?)) W)
      case first =>
        cases e1 : lessB a0 b0 a1 b1
        · skip
          go_wp2_with fail
          refine (less_any _ _ _ _ _).mono ?_
          rintro e w5 ⟨rfl, hb⟩
          have K0 := (K0).on hb
          have K1 := (K1).on hb
          have K2 := (K2).on hb
          have K3 := (K3).on hb
          have K4 := (K4).on hb
          have HB := below_after HB hb HB.size
          clear hb
          have c0 := K0.c
          have z0 := K0.lt
          have c1 := K1.c
          have z1 := K1.lt
          have c2 := K2.c
          have z2 := K2.lt
          have c3 := K3.c
          have z3 := K3.lt
          have c4 := K4.c
          have z4 := K4.lt
          go_wp2_with fail
          go_meet
          exact ⟨rfl, HB, K0, K1, K2, K3, K4, c0, c1, c2, c3, c4⟩
        cases e2 : lessB a1 b1 a2 b2
        · skip
          go_wp2_with fail
          refine (less_any _ _ _ _ _).mono ?_
          rintro e w5 ⟨rfl, hb⟩
          have K0 := (K0).on hb
          have K1 := (K1).on hb
          have K2 := (K2).on hb
          have K3 := (K3).on hb
          have K4 := (K4).on hb
          have HB := below_after HB hb HB.size
          clear hb
          have c0 := K0.c
          have z0 := K0.lt
          have c1 := K1.c
          have z1 := K1.lt
          have c2 := K2.c
          have z2 := K2.lt
          have c3 := K3.c
          have z3 := K3.lt
          have c4 := K4.c
          have z4 := K4.lt
          go_wp2_with fail
          refine (less_any _ _ _ _ _).mono ?_
          rintro e w6 ⟨rfl, hb⟩
          have K0 := (K0).on hb
          have K1 := (K1).on hb
          have K2 := (K2).on hb
          have K3 := (K3).on hb
          have K4 := (K4).on hb
          have HB := below_after HB hb HB.size
          clear hb
          have c0 := K0.c
          have z0 := K0.lt
          have c1 := K1.c
          have z1 := K1.lt
          have c2 := K2.c
          have z2 := K2.lt
          have c3 := K3.c
          have z3 := K3.lt
          have c4 := K4.c
          have z4 := K4.lt
          go_wp2_with fail
          go_meet
          exact ⟨rfl, HB, K0, K1, K2, K3, K4, c0, c1, c2, c3, c4⟩
        have e3 := less_on e1 e2
        · skip
          go_wp2_with fail
          refine (less_any _ _ _ _ _).mono ?_
          rintro e w5 ⟨rfl, hb⟩
          have K0 := (K0).on hb
          have K1 := (K1).on hb
          have K2 := (K2).on hb
          have K3 := (K3).on hb
          have K4 := (K4).on hb
          have HB := below_after HB hb HB.size
          clear hb
          have c0 := K0.c
          have z0 := K0.lt
          have c1 := K1.c
          have z1 := K1.lt
          have c2 := K2.c
          have z2 := K2.lt
          have c3 := K3.c
          have z3 := K3.lt
          have c4 := K4.c
          have z4 := K4.lt
          go_wp2_with fail
          refine (less_any _ _ _ _ _).mono ?_
          rintro e w6 ⟨rfl, hb⟩
          have K0 := (K0).on hb
          have K1 := (K1).on hb
          have K2 := (K2).on hb
          have K3 := (K3).on hb
          have K4 := (K4).on hb
          have HB := below_after HB hb HB.size
          clear hb
          have c0 := K0.c
          have z0 := K0.lt
          have c1 := K1.c
          have z1 := K1.lt
          have c2 := K2.c
          have z2 := K2.lt
          have c3 := K3.c
          have z3 := K3.lt
          have c4 := K4.c
          have z4 := K4.lt
          go_wp2_with fail
          refine (less_any _ _ _ _ _).mono ?_
          rintro e w7 ⟨rfl, hb⟩
          have K0 := (K0).on hb
          have K1 := (K1).on hb
          have K2 := (K2).on hb
          have K3 := (K3).on hb
          have K4 := (K4).on hb
          have HB := below_after HB hb HB.size
          clear hb
          have c0 := K0.c
          have z0 := K0.lt
          have c1 := K1.c
          have z1 := K1.lt
          have c2 := K2.c
          have z2 := K2.lt
          have c3 := K3.c
          have z3 := K3.lt
          have c4 := K4.c
          have z4 := K4.lt
          go_wp2_with fail
          go_meet
          exact ⟨rfl, HB, K0, K1, K2, K3, K4, c0, c1, c2, c3, c4⟩
      case rest =>
        obtain ⟨rfl, HB, K0, K1, K2, K3, K4, c0, c1, c2, c3, c4⟩ := hcut
        have z0 := K0.lt
        have z1 := K1.lt
        have z2 := K2.lt
        have z3 := K3.lt
        have z4 := K4.lt
        have j1 := less_j1 a0 b0 a1 b1
        have j2 := less_j2 a0 b0 a1 b1
        have m1 := less_m1 a0 b0 a1 b1
        have m2 := less_m2 a0 b0 a1 b1
        go_wp2_with fail
        refine (less_any _ _ _ _ _).mono ?_
        rintro e w5 ⟨rfl, hb⟩
        have K0 := (K0).on hb
        have K1 := (K1).on hb
        have K2 := (K2).on hb
        have K3 := (K3).on hb
        have K4 := (K4).on hb
        have HB := below_after HB hb HB.size
        clear hb
        have c0 := K0.c
        have z0 := K0.lt
        have c1 := K1.c
        have z1 := K1.lt
        have c2 := K2.c
        have z2 := K2.lt
        have c3 := K3.c
        have z3 := K3.lt
        have c4 := K4.c
        have z4 := K4.lt
        go_wp2_with fail
        refine (less_any _ _ _ _ _).mono ?_
        rintro e w6 ⟨rfl, hb⟩
        have K0 := (K0).on hb
        have K1 := (K1).on hb
        have K2 := (K2).on hb
        have K3 := (K3).on hb
        have K4 := (K4).on hb
        have HB := below_after HB hb HB.size
        clear hb
        have c0 := K0.c
        have z0 := K0.lt
        have c1 := K1.c
        have z1 := K1.lt
        have c2 := K2.c
        have z2 := K2.lt
        have c3 := K3.c
        have z3 := K3.lt
        have c4 := K4.c
        have z4 := K4.lt
        go_wp2_with fail
        refine (less_any _ _ _ _ _).mono ?_
        rintro e w7 ⟨rfl, hb⟩
        have K0 := (K0).on hb
        have K1 := (K1).on hb
        have K2 := (K2).on hb
        have K3 := (K3).on hb
        have K4 := (K4).on hb
        have HB := below_after HB hb HB.size
        clear hb
        have c0 := K0.c
        have z0 := K0.lt
        have c1 := K1.c
        have z1 := K1.lt
        have c2 := K2.c
        have z2 := K2.lt
        have c3 := K3.c
        have z3 := K3.lt
        have c4 := K4.c
        have z4 := K4.lt
        go_wp2_with fail
        refine (less_any _ _ _ _ _).mono ?_
        rintro e w8 ⟨rfl, hb⟩
        have K0 := (K0).on hb
        have K1 := (K1).on hb
        have K2 := (K2).on hb
        have K3 := (K3).on hb
        have K4 := (K4).on hb
        have HB := below_after HB hb HB.size
        clear hb
        have c0 := K0.c
        have z0 := K0.lt
        have c1 := K1.c
        have z1 := K1.lt
        have c2 := K2.c
        have z2 := K2.lt
        have c3 := K3.c
        have z3 := K3.lt
        have c4 := K4.c
        have z4 := K4.lt
        have jc := less_join a0 b0 a1 b1 a2 b2
        have mc := less_meet a0 b0 a1 b1 a2 b2
        go_wp2_with fail
        go_cut [14] (fun v W => v = .bool true ∧ (fun W => Below w.heap.size w W ∧ Blk W (w.heap.size) 23 #[.int .i64 a0, .int .i64 b0] ∧ Blk W (w.heap.size + 1) 23 #[.int .i64 a1, .int .i64 b1] ∧ Blk W (w.heap.size + 1 + 1) 23 #[.int .i64 a2, .int .i64 b2] ∧ Blk W (w2.heap.size) 23 #[.int .i64 (max a0 a1), .int .i64 (max b0 b1)] ∧ Blk W (w3.heap.size) 23 #[.int .i64 (min a0 a1), .int .i64 (min b0 b1)] ∧ (∀ i, W.cell? ⟨w.heap.size, i, none⟩ = #[.int .i64 a0, .int .i64 b0][i]?) ∧ (∀ i, W.cell? ⟨w.heap.size + 1, i, none⟩ = #[.int .i64 a1, .int .i64 b1][i]?) ∧ (∀ i, W.cell? ⟨w.heap.size + 1 + 1, i, none⟩ = #[.int .i64 a2, .int .i64 b2][i]?) ∧ (∀ i, W.cell? ⟨w2.heap.size, i, none⟩ = #[.int .i64 (max a0 a1), .int .i64 (max b0 b1)][i]?) ∧ (∀ i, W.cell? ⟨w3.heap.size, i, none⟩ = #[.int .i64 (min a0 a1), .int .i64 (min b0 b1)][i]?)) W)
        case first =>
          cases e1 : lessB a0 b0 a2 b2 <;> cases e3 : lessB a2 b2 a0 b0 <;> rw [e1] at jc <;> rw [e3] at mc <;> simp only [Bool.true_and, Bool.false_and] at jc mc
          · skip
            refine wp_region_held_drew (S := (fun W => Below w.heap.size w W ∧ Blk W (w.heap.size) 23 #[.int .i64 a0, .int .i64 b0] ∧ Blk W (w.heap.size + 1) 23 #[.int .i64 a1, .int .i64 b1] ∧ Blk W (w.heap.size + 1 + 1) 23 #[.int .i64 a2, .int .i64 b2] ∧ Blk W (w2.heap.size) 23 #[.int .i64 (max a0 a1), .int .i64 (max b0 b1)] ∧ Blk W (w3.heap.size) 23 #[.int .i64 (min a0 a1), .int .i64 (min b0 b1)] ∧ (∀ i, W.cell? ⟨w.heap.size, i, none⟩ = #[.int .i64 a0, .int .i64 b0][i]?) ∧ (∀ i, W.cell? ⟨w.heap.size + 1, i, none⟩ = #[.int .i64 a1, .int .i64 b1][i]?) ∧ (∀ i, W.cell? ⟨w.heap.size + 1 + 1, i, none⟩ = #[.int .i64 a2, .int .i64 b2][i]?) ∧ (∀ i, W.cell? ⟨w2.heap.size, i, none⟩ = #[.int .i64 (max a0 a1), .int .i64 (max b0 b1)][i]?) ∧ (∀ i, W.cell? ⟨w3.heap.size, i, none⟩ = #[.int .i64 (min a0 a1), .int .i64 (min b0 b1)][i]?))) (by kernel_rfl) (⟨HB.drew, K0, K1, K2, K3, K4, K0.c, K1.c, K2.c, K3.c, K4.c⟩) (fun hHeld => ?_)
            refine wpAnyH_take (i := 0) (v := ?_) rfl (by kernel_rfl) (by kernel_rfl) (by kernel_rfl) (fun _ _ _ h => h) (Or.inl ⟨by rfl, ?_⟩) hHeld ?_
            rotate_left
            · intro W hS
              try dsimp only at hS
              go_simp
              try with_reducible rfl
            try simp only [Act.put, List.setIfInBounds_toArray, List.set_cons_zero, List.set_cons_succ]
            refine wpAnyH_take (i := 1) (v := ?_) rfl (by kernel_rfl) (by kernel_rfl) (by kernel_rfl) (fun _ _ _ h => h) (Or.inl ⟨by rfl, ?_⟩) hHeld ?_
            rotate_left
            · intro W hS
              try dsimp only at hS
              go_simp
              try with_reducible rfl
            try simp only [Act.put, List.setIfInBounds_toArray, List.set_cons_zero, List.set_cons_succ]
            refine wpAnyH_take (i := 8) (v := ?_) rfl (by kernel_rfl) (by kernel_rfl) (by kernel_rfl) (fun _ _ _ h => h) (Or.inl ⟨by rfl, ?_⟩) hHeld ?_
            rotate_left
            · intro W hS
              try dsimp only at hS
              go_simp
              try with_reducible rfl
            try simp only [Act.put, List.setIfInBounds_toArray, List.set_cons_zero, List.set_cons_succ]
            refine wpAnyH_take (i := 9) (v := ?_) rfl (by kernel_rfl) (by kernel_rfl) (by kernel_rfl) (fun _ _ _ h => h) (Or.inl ⟨by rfl, ?_⟩) hHeld ?_
            rotate_left
            · intro W hS
              try dsimp only at hS
              go_simp
              try with_reducible rfl
            try simp only [Act.put, List.setIfInBounds_toArray, List.set_cons_zero, List.set_cons_succ]
            refine wpAnyH_ready (rs := [2]) (by kernel_rfl) (by simp) ?_
            refine AllReadyH.cons rfl (fun K hK => ?_) AllReadyH.nil
            go_simp
            refine (less_no _ _ _ _ _ e1).mono ?_
            rintro e w1 ⟨rfl, hb⟩
            refine hK.out _ _ (keep5 hHeld hb (Nat.le_refl _)) (fun hHeld => ?_)
            clear hK K
            try simp only [Act.put, List.setIfInBounds_toArray, List.set_cons_zero, List.set_cons_succ]
            refine wpAnyH_take (i := 3) (v := ?_) rfl (by kernel_rfl) (by kernel_rfl) (by kernel_rfl) (fun _ _ _ h => h) (Or.inl ⟨by rfl, ?_⟩) hHeld ?_
            rotate_left
            · intro W hS
              try dsimp only at hS
              go_simp
              try with_reducible rfl
            try simp only [Act.put, List.setIfInBounds_toArray, List.set_cons_zero, List.set_cons_succ]
            refine wpAnyH_take (i := 4) (v := undef) rfl (by kernel_rfl) (by kernel_rfl) (by kernel_rfl) (fun _ _ _ h => h) (Or.inr ⟨by rfl, rfl⟩) hHeld ?_
            try simp only [Act.put, List.setIfInBounds_toArray, List.set_cons_zero, List.set_cons_succ]
            refine wpAnyH_take (i := 5) (v := undef) rfl (by kernel_rfl) (by kernel_rfl) (by kernel_rfl) (fun _ _ _ h => h) (Or.inr ⟨by rfl, rfl⟩) hHeld ?_
            try simp only [Act.put, List.setIfInBounds_toArray, List.set_cons_zero, List.set_cons_succ]
            refine wpAnyH_take (i := 6) (v := undef) rfl (by kernel_rfl) (by kernel_rfl) (by kernel_rfl) (fun _ _ _ h => h) (Or.inr ⟨by rfl, rfl⟩) hHeld ?_
            try simp only [Act.put, List.setIfInBounds_toArray, List.set_cons_zero, List.set_cons_succ]
            refine wpAnyH_take (i := 7) (v := ?_) rfl (by kernel_rfl) (by kernel_rfl) (by kernel_rfl) (fun _ _ _ h => h) (Or.inl ⟨by rfl, ?_⟩) hHeld ?_
            rotate_left
            · intro W hS
              try dsimp only at hS
              go_simp
              try with_reducible rfl
            try simp only [Act.put, List.setIfInBounds_toArray, List.set_cons_zero, List.set_cons_succ]
            refine wpAnyH_ready (rs := [10]) (by kernel_rfl) (by simp) ?_
            refine AllReadyH.cons rfl (fun K hK => ?_) AllReadyH.nil
            go_simp
            refine (less_no _ _ _ _ _ jc).mono ?_
            rintro e w1 ⟨rfl, hb⟩
            refine hK.out _ _ (keep5 hHeld hb (Nat.le_refl _)) (fun hHeld => ?_)
            clear hK K
            try simp only [Act.put, List.setIfInBounds_toArray, List.set_cons_zero, List.set_cons_succ]
            refine wpAnyH_take (i := 11) (v := ?_) rfl (by kernel_rfl) (by kernel_rfl) (by kernel_rfl) (fun _ _ _ h => h) (Or.inl ⟨by rfl, ?_⟩) hHeld ?_
            rotate_left
            · intro W hS
              try dsimp only at hS
              go_simp
              try with_reducible rfl
            try simp only [Act.put, List.setIfInBounds_toArray, List.set_cons_zero, List.set_cons_succ]
            refine wpAnyH_take (i := 12) (v := ?_) rfl (by kernel_rfl) (by kernel_rfl) (by kernel_rfl) (fun _ _ _ h => h) (Or.inl ⟨by rfl, ?_⟩) hHeld ?_
            rotate_left
            · intro W hS
              try dsimp only at hS
              go_simp
              try with_reducible rfl
            try simp only [Act.put, List.setIfInBounds_toArray, List.set_cons_zero, List.set_cons_succ]
            refine wpAnyH_take (i := 13) (v := ?_) rfl (by kernel_rfl) (by kernel_rfl) (by kernel_rfl) (fun _ _ _ h => h) (Or.inl ⟨by rfl, ?_⟩) hHeld ?_
            rotate_left
            · intro W hS
              try dsimp only at hS
              go_simp
              try with_reducible rfl
            try simp only [Act.put, List.setIfInBounds_toArray, List.set_cons_zero, List.set_cons_succ]
            refine wpAnyH_take (i := 14) (v := ?_) rfl (by kernel_rfl) (by kernel_rfl) (by kernel_rfl) (fun _ _ _ h => h) (Or.inl ⟨by rfl, ?_⟩) hHeld ?_
            rotate_left
            · intro W hS
              try dsimp only at hS
              go_simp
              try with_reducible rfl
            try simp only [Act.put, List.setIfInBounds_toArray, List.set_cons_zero, List.set_cons_succ]
            refine wpAnyH_take (i := 21) (v := ?_) rfl (by kernel_rfl) (by kernel_rfl) (by kernel_rfl) (fun _ _ _ h => h) (Or.inl ⟨by rfl, ?_⟩) hHeld ?_
            rotate_left
            · intro W hS
              try dsimp only at hS
              go_simp
              try with_reducible rfl
            try simp only [Act.put, List.setIfInBounds_toArray, List.set_cons_zero, List.set_cons_succ]
            refine wpAnyH_take (i := 22) (v := ?_) rfl (by kernel_rfl) (by kernel_rfl) (by kernel_rfl) (fun _ _ _ h => h) (Or.inl ⟨by rfl, ?_⟩) hHeld ?_
            rotate_left
            · intro W hS
              try dsimp only at hS
              go_simp
              try with_reducible rfl
            try simp only [Act.put, List.setIfInBounds_toArray, List.set_cons_zero, List.set_cons_succ]
            refine wpAnyH_ready (rs := [15]) (by kernel_rfl) (by simp) ?_
            refine AllReadyH.cons rfl (fun K hK => ?_) AllReadyH.nil
            go_simp
            refine (less_no _ _ _ _ _ e3).mono ?_
            rintro e w1 ⟨rfl, hb⟩
            refine hK.out _ _ (keep5 hHeld hb (Nat.le_refl _)) (fun hHeld => ?_)
            clear hK K
            try simp only [Act.put, List.setIfInBounds_toArray, List.set_cons_zero, List.set_cons_succ]
            refine wpAnyH_take (i := 16) (v := ?_) rfl (by kernel_rfl) (by kernel_rfl) (by kernel_rfl) (fun _ _ _ h => h) (Or.inl ⟨by rfl, ?_⟩) hHeld ?_
            rotate_left
            · intro W hS
              try dsimp only at hS
              go_simp
              try with_reducible rfl
            try simp only [Act.put, List.setIfInBounds_toArray, List.set_cons_zero, List.set_cons_succ]
            refine wpAnyH_take (i := 17) (v := undef) rfl (by kernel_rfl) (by kernel_rfl) (by kernel_rfl) (fun _ _ _ h => h) (Or.inr ⟨by rfl, rfl⟩) hHeld ?_
            try simp only [Act.put, List.setIfInBounds_toArray, List.set_cons_zero, List.set_cons_succ]
            refine wpAnyH_take (i := 18) (v := undef) rfl (by kernel_rfl) (by kernel_rfl) (by kernel_rfl) (fun _ _ _ h => h) (Or.inr ⟨by rfl, rfl⟩) hHeld ?_
            try simp only [Act.put, List.setIfInBounds_toArray, List.set_cons_zero, List.set_cons_succ]
            refine wpAnyH_take (i := 19) (v := undef) rfl (by kernel_rfl) (by kernel_rfl) (by kernel_rfl) (fun _ _ _ h => h) (Or.inr ⟨by rfl, rfl⟩) hHeld ?_
            try simp only [Act.put, List.setIfInBounds_toArray, List.set_cons_zero, List.set_cons_succ]
            refine wpAnyH_take (i := 20) (v := ?_) rfl (by kernel_rfl) (by kernel_rfl) (by kernel_rfl) (fun _ _ _ h => h) (Or.inl ⟨by rfl, ?_⟩) hHeld ?_
            rotate_left
            · intro W hS
              try dsimp only at hS
              go_simp
              try with_reducible rfl
            try simp only [Act.put, List.setIfInBounds_toArray, List.set_cons_zero, List.set_cons_succ]
            refine wpAnyH_ready (rs := [23]) (by kernel_rfl) (by simp) ?_
            refine AllReadyH.cons rfl (fun K hK => ?_) AllReadyH.nil
            go_simp
            refine (less_no _ _ _ _ _ mc).mono ?_
            rintro e w1 ⟨rfl, hb⟩
            refine hK.out _ _ (keep5 hHeld hb (Nat.le_refl _)) (fun hHeld => ?_)
            clear hK K
            try simp only [Act.put, List.setIfInBounds_toArray, List.set_cons_zero, List.set_cons_succ]
            refine wpAnyH_take (i := 24) (v := ?_) rfl (by kernel_rfl) (by kernel_rfl) (by kernel_rfl) (fun _ _ _ h => h) (Or.inl ⟨by rfl, ?_⟩) hHeld ?_
            rotate_left
            · intro W hS
              try dsimp only at hS
              go_simp
              try with_reducible rfl
            try simp only [Act.put, List.setIfInBounds_toArray, List.set_cons_zero, List.set_cons_succ]
            refine wpAnyH_take (i := 25) (v := ?_) rfl (by kernel_rfl) (by kernel_rfl) (by kernel_rfl) (fun _ _ _ h => h) (Or.inl ⟨by rfl, ?_⟩) hHeld ?_
            rotate_left
            · intro W hS
              try dsimp only at hS
              go_simp
              try with_reducible rfl
            try simp only [Act.put, List.setIfInBounds_toArray, List.set_cons_zero, List.set_cons_succ]
            refine wpAnyH_take (i := 26) (v := ?_) rfl (by kernel_rfl) (by kernel_rfl) (by kernel_rfl) (fun _ _ _ h => h) (Or.inl ⟨by rfl, ?_⟩) hHeld ?_
            rotate_left
            · intro W hS
              try dsimp only at hS
              go_simp
              try with_reducible rfl
            try simp only [Act.put, List.setIfInBounds_toArray, List.set_cons_zero, List.set_cons_succ]
            refine wpAnyH_done (by kernel_rfl) ?_ _
            go_wp2_with fail
            go_meet
            exact ⟨rfl, by assumption⟩
          · skip
            refine wp_region_held_drew (S := (fun W => Below w.heap.size w W ∧ Blk W (w.heap.size) 23 #[.int .i64 a0, .int .i64 b0] ∧ Blk W (w.heap.size + 1) 23 #[.int .i64 a1, .int .i64 b1] ∧ Blk W (w.heap.size + 1 + 1) 23 #[.int .i64 a2, .int .i64 b2] ∧ Blk W (w2.heap.size) 23 #[.int .i64 (max a0 a1), .int .i64 (max b0 b1)] ∧ Blk W (w3.heap.size) 23 #[.int .i64 (min a0 a1), .int .i64 (min b0 b1)] ∧ (∀ i, W.cell? ⟨w.heap.size, i, none⟩ = #[.int .i64 a0, .int .i64 b0][i]?) ∧ (∀ i, W.cell? ⟨w.heap.size + 1, i, none⟩ = #[.int .i64 a1, .int .i64 b1][i]?) ∧ (∀ i, W.cell? ⟨w.heap.size + 1 + 1, i, none⟩ = #[.int .i64 a2, .int .i64 b2][i]?) ∧ (∀ i, W.cell? ⟨w2.heap.size, i, none⟩ = #[.int .i64 (max a0 a1), .int .i64 (max b0 b1)][i]?) ∧ (∀ i, W.cell? ⟨w3.heap.size, i, none⟩ = #[.int .i64 (min a0 a1), .int .i64 (min b0 b1)][i]?))) (by kernel_rfl) (⟨HB.drew, K0, K1, K2, K3, K4, K0.c, K1.c, K2.c, K3.c, K4.c⟩) (fun hHeld => ?_)
            refine wpAnyH_take (i := 0) (v := ?_) rfl (by kernel_rfl) (by kernel_rfl) (by kernel_rfl) (fun _ _ _ h => h) (Or.inl ⟨by rfl, ?_⟩) hHeld ?_
            rotate_left
            · intro W hS
              try dsimp only at hS
              go_simp
              try with_reducible rfl
            try simp only [Act.put, List.setIfInBounds_toArray, List.set_cons_zero, List.set_cons_succ]
            refine wpAnyH_take (i := 1) (v := ?_) rfl (by kernel_rfl) (by kernel_rfl) (by kernel_rfl) (fun _ _ _ h => h) (Or.inl ⟨by rfl, ?_⟩) hHeld ?_
            rotate_left
            · intro W hS
              try dsimp only at hS
              go_simp
              try with_reducible rfl
            try simp only [Act.put, List.setIfInBounds_toArray, List.set_cons_zero, List.set_cons_succ]
            refine wpAnyH_take (i := 8) (v := ?_) rfl (by kernel_rfl) (by kernel_rfl) (by kernel_rfl) (fun _ _ _ h => h) (Or.inl ⟨by rfl, ?_⟩) hHeld ?_
            rotate_left
            · intro W hS
              try dsimp only at hS
              go_simp
              try with_reducible rfl
            try simp only [Act.put, List.setIfInBounds_toArray, List.set_cons_zero, List.set_cons_succ]
            refine wpAnyH_take (i := 9) (v := ?_) rfl (by kernel_rfl) (by kernel_rfl) (by kernel_rfl) (fun _ _ _ h => h) (Or.inl ⟨by rfl, ?_⟩) hHeld ?_
            rotate_left
            · intro W hS
              try dsimp only at hS
              go_simp
              try with_reducible rfl
            try simp only [Act.put, List.setIfInBounds_toArray, List.set_cons_zero, List.set_cons_succ]
            refine wpAnyH_ready (rs := [2]) (by kernel_rfl) (by simp) ?_
            refine AllReadyH.cons rfl (fun K hK => ?_) AllReadyH.nil
            go_simp
            refine (less_no _ _ _ _ _ e1).mono ?_
            rintro e w1 ⟨rfl, hb⟩
            refine hK.out _ _ (keep5 hHeld hb (Nat.le_refl _)) (fun hHeld => ?_)
            clear hK K
            try simp only [Act.put, List.setIfInBounds_toArray, List.set_cons_zero, List.set_cons_succ]
            refine wpAnyH_take (i := 3) (v := ?_) rfl (by kernel_rfl) (by kernel_rfl) (by kernel_rfl) (fun _ _ _ h => h) (Or.inl ⟨by rfl, ?_⟩) hHeld ?_
            rotate_left
            · intro W hS
              try dsimp only at hS
              go_simp
              try with_reducible rfl
            try simp only [Act.put, List.setIfInBounds_toArray, List.set_cons_zero, List.set_cons_succ]
            refine wpAnyH_take (i := 4) (v := undef) rfl (by kernel_rfl) (by kernel_rfl) (by kernel_rfl) (fun _ _ _ h => h) (Or.inr ⟨by rfl, rfl⟩) hHeld ?_
            try simp only [Act.put, List.setIfInBounds_toArray, List.set_cons_zero, List.set_cons_succ]
            refine wpAnyH_take (i := 5) (v := undef) rfl (by kernel_rfl) (by kernel_rfl) (by kernel_rfl) (fun _ _ _ h => h) (Or.inr ⟨by rfl, rfl⟩) hHeld ?_
            try simp only [Act.put, List.setIfInBounds_toArray, List.set_cons_zero, List.set_cons_succ]
            refine wpAnyH_take (i := 6) (v := undef) rfl (by kernel_rfl) (by kernel_rfl) (by kernel_rfl) (fun _ _ _ h => h) (Or.inr ⟨by rfl, rfl⟩) hHeld ?_
            try simp only [Act.put, List.setIfInBounds_toArray, List.set_cons_zero, List.set_cons_succ]
            refine wpAnyH_take (i := 7) (v := ?_) rfl (by kernel_rfl) (by kernel_rfl) (by kernel_rfl) (fun _ _ _ h => h) (Or.inl ⟨by rfl, ?_⟩) hHeld ?_
            rotate_left
            · intro W hS
              try dsimp only at hS
              go_simp
              try with_reducible rfl
            try simp only [Act.put, List.setIfInBounds_toArray, List.set_cons_zero, List.set_cons_succ]
            refine wpAnyH_ready (rs := [10]) (by kernel_rfl) (by simp) ?_
            refine AllReadyH.cons rfl (fun K hK => ?_) AllReadyH.nil
            go_simp
            refine (less_no _ _ _ _ _ jc).mono ?_
            rintro e w1 ⟨rfl, hb⟩
            refine hK.out _ _ (keep5 hHeld hb (Nat.le_refl _)) (fun hHeld => ?_)
            clear hK K
            try simp only [Act.put, List.setIfInBounds_toArray, List.set_cons_zero, List.set_cons_succ]
            refine wpAnyH_take (i := 11) (v := ?_) rfl (by kernel_rfl) (by kernel_rfl) (by kernel_rfl) (fun _ _ _ h => h) (Or.inl ⟨by rfl, ?_⟩) hHeld ?_
            rotate_left
            · intro W hS
              try dsimp only at hS
              go_simp
              try with_reducible rfl
            try simp only [Act.put, List.setIfInBounds_toArray, List.set_cons_zero, List.set_cons_succ]
            refine wpAnyH_take (i := 12) (v := ?_) rfl (by kernel_rfl) (by kernel_rfl) (by kernel_rfl) (fun _ _ _ h => h) (Or.inl ⟨by rfl, ?_⟩) hHeld ?_
            rotate_left
            · intro W hS
              try dsimp only at hS
              go_simp
              try with_reducible rfl
            try simp only [Act.put, List.setIfInBounds_toArray, List.set_cons_zero, List.set_cons_succ]
            refine wpAnyH_take (i := 13) (v := ?_) rfl (by kernel_rfl) (by kernel_rfl) (by kernel_rfl) (fun _ _ _ h => h) (Or.inl ⟨by rfl, ?_⟩) hHeld ?_
            rotate_left
            · intro W hS
              try dsimp only at hS
              go_simp
              try with_reducible rfl
            try simp only [Act.put, List.setIfInBounds_toArray, List.set_cons_zero, List.set_cons_succ]
            refine wpAnyH_take (i := 14) (v := ?_) rfl (by kernel_rfl) (by kernel_rfl) (by kernel_rfl) (fun _ _ _ h => h) (Or.inl ⟨by rfl, ?_⟩) hHeld ?_
            rotate_left
            · intro W hS
              try dsimp only at hS
              go_simp
              try with_reducible rfl
            try simp only [Act.put, List.setIfInBounds_toArray, List.set_cons_zero, List.set_cons_succ]
            refine wpAnyH_take (i := 21) (v := ?_) rfl (by kernel_rfl) (by kernel_rfl) (by kernel_rfl) (fun _ _ _ h => h) (Or.inl ⟨by rfl, ?_⟩) hHeld ?_
            rotate_left
            · intro W hS
              try dsimp only at hS
              go_simp
              try with_reducible rfl
            try simp only [Act.put, List.setIfInBounds_toArray, List.set_cons_zero, List.set_cons_succ]
            refine wpAnyH_take (i := 22) (v := ?_) rfl (by kernel_rfl) (by kernel_rfl) (by kernel_rfl) (fun _ _ _ h => h) (Or.inl ⟨by rfl, ?_⟩) hHeld ?_
            rotate_left
            · intro W hS
              try dsimp only at hS
              go_simp
              try with_reducible rfl
            try simp only [Act.put, List.setIfInBounds_toArray, List.set_cons_zero, List.set_cons_succ]
            refine wpAnyH_ready (rs := [15]) (by kernel_rfl) (by simp) ?_
            refine AllReadyH.cons rfl (fun K hK => ?_) AllReadyH.nil
            go_simp
            refine (less_yes _ _ _ _ _ e3).mono ?_
            rintro e w1 ⟨rfl, hb⟩
            refine hK.out _ _ (keep5 hHeld hb (Nat.le_refl _)) (fun hHeld => ?_)
            clear hK K
            try simp only [Act.put, List.setIfInBounds_toArray, List.set_cons_zero, List.set_cons_succ]
            refine wpAnyH_take (i := 16) (v := ?_) rfl (by kernel_rfl) (by kernel_rfl) (by kernel_rfl) (fun _ _ _ h => h) (Or.inl ⟨by rfl, ?_⟩) hHeld ?_
            rotate_left
            · intro W hS
              try dsimp only at hS
              go_simp
              try with_reducible rfl
            try simp only [Act.put, List.setIfInBounds_toArray, List.set_cons_zero, List.set_cons_succ]
            refine wpAnyH_take (i := 17) (v := ?_) rfl (by kernel_rfl) (by kernel_rfl) (by kernel_rfl) (fun _ _ _ h => h) (Or.inl ⟨by rfl, ?_⟩) hHeld ?_
            rotate_left
            · intro W hS
              try dsimp only at hS
              go_simp
              try with_reducible rfl
            try simp only [Act.put, List.setIfInBounds_toArray, List.set_cons_zero, List.set_cons_succ]
            refine wpAnyH_take (i := 18) (v := ?_) rfl (by kernel_rfl) (by kernel_rfl) (by kernel_rfl) (fun _ _ _ h => h) (Or.inl ⟨by rfl, ?_⟩) hHeld ?_
            rotate_left
            · intro W hS
              try dsimp only at hS
              go_simp
              try with_reducible rfl
            try simp only [Act.put, List.setIfInBounds_toArray, List.set_cons_zero, List.set_cons_succ]
            refine wpAnyH_ready (rs := [19]) (by kernel_rfl) (by simp) ?_
            refine AllReadyH.cons rfl (fun K hK => ?_) AllReadyH.nil
            go_simp
            refine (less_any _ _ _ _ _).mono ?_
            rintro e w1 ⟨rfl, hb⟩
            refine hK.out _ _ (keep5 hHeld hb (Nat.le_refl _)) (fun hHeld => ?_)
            clear hK K
            try simp only [Act.put, List.setIfInBounds_toArray, List.set_cons_zero, List.set_cons_succ]
            refine wpAnyH_take (i := 20) (v := ?_) rfl (by kernel_rfl) (by kernel_rfl) (by kernel_rfl) (fun _ _ _ h => h) (Or.inl ⟨by rfl, ?_⟩) hHeld ?_
            rotate_left
            · intro W hS
              try dsimp only at hS
              go_simp
              try with_reducible rfl
            try simp only [Act.put, List.setIfInBounds_toArray, List.set_cons_zero, List.set_cons_succ]
            refine wpAnyH_ready (rs := [23]) (by kernel_rfl) (by simp) ?_
            refine AllReadyH.cons rfl (fun K hK => ?_) AllReadyH.nil
            go_simp
            refine (less_any _ _ _ _ _).mono ?_
            rintro e w1 ⟨rfl, hb⟩
            refine hK.out _ _ (keep5 hHeld hb (Nat.le_refl _)) (fun hHeld => ?_)
            clear hK K
            try simp only [Act.put, List.setIfInBounds_toArray, List.set_cons_zero, List.set_cons_succ]
            refine wpAnyH_take (i := 24) (v := ?_) rfl (by kernel_rfl) (by kernel_rfl) (by kernel_rfl) (fun _ _ _ h => h) (Or.inl ⟨by rfl, ?_⟩) hHeld ?_
            rotate_left
            · intro W hS
              try dsimp only at hS
              go_simp
              try with_reducible rfl
            try simp only [Act.put, List.setIfInBounds_toArray, List.set_cons_zero, List.set_cons_succ]
            refine wpAnyH_take (i := 25) (v := ?_) rfl (by kernel_rfl) (by kernel_rfl) (by kernel_rfl) (fun _ _ _ h => h) (Or.inl ⟨by rfl, ?_⟩) hHeld ?_
            rotate_left
            · intro W hS
              try dsimp only at hS
              go_simp
              try with_reducible rfl
            try simp only [Act.put, List.setIfInBounds_toArray, List.set_cons_zero, List.set_cons_succ]
            refine wpAnyH_take (i := 26) (v := ?_) rfl (by kernel_rfl) (by kernel_rfl) (by kernel_rfl) (fun _ _ _ h => h) (Or.inl ⟨by rfl, ?_⟩) hHeld ?_
            rotate_left
            · intro W hS
              try dsimp only at hS
              go_simp
              try with_reducible rfl
            try simp only [Act.put, List.setIfInBounds_toArray, List.set_cons_zero, List.set_cons_succ]
            refine wpAnyH_done (by kernel_rfl) ?_ _
            go_wp2_with fail
            go_meet
            exact ⟨rfl, by assumption⟩
          · skip
            refine wp_region_held_drew (S := (fun W => Below w.heap.size w W ∧ Blk W (w.heap.size) 23 #[.int .i64 a0, .int .i64 b0] ∧ Blk W (w.heap.size + 1) 23 #[.int .i64 a1, .int .i64 b1] ∧ Blk W (w.heap.size + 1 + 1) 23 #[.int .i64 a2, .int .i64 b2] ∧ Blk W (w2.heap.size) 23 #[.int .i64 (max a0 a1), .int .i64 (max b0 b1)] ∧ Blk W (w3.heap.size) 23 #[.int .i64 (min a0 a1), .int .i64 (min b0 b1)] ∧ (∀ i, W.cell? ⟨w.heap.size, i, none⟩ = #[.int .i64 a0, .int .i64 b0][i]?) ∧ (∀ i, W.cell? ⟨w.heap.size + 1, i, none⟩ = #[.int .i64 a1, .int .i64 b1][i]?) ∧ (∀ i, W.cell? ⟨w.heap.size + 1 + 1, i, none⟩ = #[.int .i64 a2, .int .i64 b2][i]?) ∧ (∀ i, W.cell? ⟨w2.heap.size, i, none⟩ = #[.int .i64 (max a0 a1), .int .i64 (max b0 b1)][i]?) ∧ (∀ i, W.cell? ⟨w3.heap.size, i, none⟩ = #[.int .i64 (min a0 a1), .int .i64 (min b0 b1)][i]?))) (by kernel_rfl) (⟨HB.drew, K0, K1, K2, K3, K4, K0.c, K1.c, K2.c, K3.c, K4.c⟩) (fun hHeld => ?_)
            refine wpAnyH_take (i := 0) (v := ?_) rfl (by kernel_rfl) (by kernel_rfl) (by kernel_rfl) (fun _ _ _ h => h) (Or.inl ⟨by rfl, ?_⟩) hHeld ?_
            rotate_left
            · intro W hS
              try dsimp only at hS
              go_simp
              try with_reducible rfl
            try simp only [Act.put, List.setIfInBounds_toArray, List.set_cons_zero, List.set_cons_succ]
            refine wpAnyH_take (i := 1) (v := ?_) rfl (by kernel_rfl) (by kernel_rfl) (by kernel_rfl) (fun _ _ _ h => h) (Or.inl ⟨by rfl, ?_⟩) hHeld ?_
            rotate_left
            · intro W hS
              try dsimp only at hS
              go_simp
              try with_reducible rfl
            try simp only [Act.put, List.setIfInBounds_toArray, List.set_cons_zero, List.set_cons_succ]
            refine wpAnyH_take (i := 8) (v := ?_) rfl (by kernel_rfl) (by kernel_rfl) (by kernel_rfl) (fun _ _ _ h => h) (Or.inl ⟨by rfl, ?_⟩) hHeld ?_
            rotate_left
            · intro W hS
              try dsimp only at hS
              go_simp
              try with_reducible rfl
            try simp only [Act.put, List.setIfInBounds_toArray, List.set_cons_zero, List.set_cons_succ]
            refine wpAnyH_take (i := 9) (v := ?_) rfl (by kernel_rfl) (by kernel_rfl) (by kernel_rfl) (fun _ _ _ h => h) (Or.inl ⟨by rfl, ?_⟩) hHeld ?_
            rotate_left
            · intro W hS
              try dsimp only at hS
              go_simp
              try with_reducible rfl
            try simp only [Act.put, List.setIfInBounds_toArray, List.set_cons_zero, List.set_cons_succ]
            refine wpAnyH_ready (rs := [2]) (by kernel_rfl) (by simp) ?_
            refine AllReadyH.cons rfl (fun K hK => ?_) AllReadyH.nil
            go_simp
            refine (less_yes _ _ _ _ _ e1).mono ?_
            rintro e w1 ⟨rfl, hb⟩
            refine hK.out _ _ (keep5 hHeld hb (Nat.le_refl _)) (fun hHeld => ?_)
            clear hK K
            try simp only [Act.put, List.setIfInBounds_toArray, List.set_cons_zero, List.set_cons_succ]
            refine wpAnyH_take (i := 3) (v := ?_) rfl (by kernel_rfl) (by kernel_rfl) (by kernel_rfl) (fun _ _ _ h => h) (Or.inl ⟨by rfl, ?_⟩) hHeld ?_
            rotate_left
            · intro W hS
              try dsimp only at hS
              go_simp
              try with_reducible rfl
            try simp only [Act.put, List.setIfInBounds_toArray, List.set_cons_zero, List.set_cons_succ]
            refine wpAnyH_take (i := 4) (v := ?_) rfl (by kernel_rfl) (by kernel_rfl) (by kernel_rfl) (fun _ _ _ h => h) (Or.inl ⟨by rfl, ?_⟩) hHeld ?_
            rotate_left
            · intro W hS
              try dsimp only at hS
              go_simp
              try with_reducible rfl
            try simp only [Act.put, List.setIfInBounds_toArray, List.set_cons_zero, List.set_cons_succ]
            refine wpAnyH_take (i := 5) (v := ?_) rfl (by kernel_rfl) (by kernel_rfl) (by kernel_rfl) (fun _ _ _ h => h) (Or.inl ⟨by rfl, ?_⟩) hHeld ?_
            rotate_left
            · intro W hS
              try dsimp only at hS
              go_simp
              try with_reducible rfl
            try simp only [Act.put, List.setIfInBounds_toArray, List.set_cons_zero, List.set_cons_succ]
            refine wpAnyH_ready (rs := [6]) (by kernel_rfl) (by simp) ?_
            refine AllReadyH.cons rfl (fun K hK => ?_) AllReadyH.nil
            go_simp
            refine (less_any _ _ _ _ _).mono ?_
            rintro e w1 ⟨rfl, hb⟩
            refine hK.out _ _ (keep5 hHeld hb (Nat.le_refl _)) (fun hHeld => ?_)
            clear hK K
            try simp only [Act.put, List.setIfInBounds_toArray, List.set_cons_zero, List.set_cons_succ]
            refine wpAnyH_take (i := 7) (v := ?_) rfl (by kernel_rfl) (by kernel_rfl) (by kernel_rfl) (fun _ _ _ h => h) (Or.inl ⟨by rfl, ?_⟩) hHeld ?_
            rotate_left
            · intro W hS
              try dsimp only at hS
              go_simp
              try with_reducible rfl
            try simp only [Act.put, List.setIfInBounds_toArray, List.set_cons_zero, List.set_cons_succ]
            refine wpAnyH_ready (rs := [10]) (by kernel_rfl) (by simp) ?_
            refine AllReadyH.cons rfl (fun K hK => ?_) AllReadyH.nil
            go_simp
            refine (less_any _ _ _ _ _).mono ?_
            rintro e w1 ⟨rfl, hb⟩
            refine hK.out _ _ (keep5 hHeld hb (Nat.le_refl _)) (fun hHeld => ?_)
            clear hK K
            try simp only [Act.put, List.setIfInBounds_toArray, List.set_cons_zero, List.set_cons_succ]
            refine wpAnyH_take (i := 11) (v := ?_) rfl (by kernel_rfl) (by kernel_rfl) (by kernel_rfl) (fun _ _ _ h => h) (Or.inl ⟨by rfl, ?_⟩) hHeld ?_
            rotate_left
            · intro W hS
              try dsimp only at hS
              go_simp
              try with_reducible rfl
            try simp only [Act.put, List.setIfInBounds_toArray, List.set_cons_zero, List.set_cons_succ]
            refine wpAnyH_take (i := 12) (v := ?_) rfl (by kernel_rfl) (by kernel_rfl) (by kernel_rfl) (fun _ _ _ h => h) (Or.inl ⟨by rfl, ?_⟩) hHeld ?_
            rotate_left
            · intro W hS
              try dsimp only at hS
              go_simp
              try with_reducible rfl
            try simp only [Act.put, List.setIfInBounds_toArray, List.set_cons_zero, List.set_cons_succ]
            refine wpAnyH_take (i := 13) (v := ?_) rfl (by kernel_rfl) (by kernel_rfl) (by kernel_rfl) (fun _ _ _ h => h) (Or.inl ⟨by rfl, ?_⟩) hHeld ?_
            rotate_left
            · intro W hS
              try dsimp only at hS
              go_simp
              try with_reducible rfl
            try simp only [Act.put, List.setIfInBounds_toArray, List.set_cons_zero, List.set_cons_succ]
            refine wpAnyH_take (i := 14) (v := ?_) rfl (by kernel_rfl) (by kernel_rfl) (by kernel_rfl) (fun _ _ _ h => h) (Or.inl ⟨by rfl, ?_⟩) hHeld ?_
            rotate_left
            · intro W hS
              try dsimp only at hS
              go_simp
              try with_reducible rfl
            try simp only [Act.put, List.setIfInBounds_toArray, List.set_cons_zero, List.set_cons_succ]
            refine wpAnyH_take (i := 21) (v := ?_) rfl (by kernel_rfl) (by kernel_rfl) (by kernel_rfl) (fun _ _ _ h => h) (Or.inl ⟨by rfl, ?_⟩) hHeld ?_
            rotate_left
            · intro W hS
              try dsimp only at hS
              go_simp
              try with_reducible rfl
            try simp only [Act.put, List.setIfInBounds_toArray, List.set_cons_zero, List.set_cons_succ]
            refine wpAnyH_take (i := 22) (v := ?_) rfl (by kernel_rfl) (by kernel_rfl) (by kernel_rfl) (fun _ _ _ h => h) (Or.inl ⟨by rfl, ?_⟩) hHeld ?_
            rotate_left
            · intro W hS
              try dsimp only at hS
              go_simp
              try with_reducible rfl
            try simp only [Act.put, List.setIfInBounds_toArray, List.set_cons_zero, List.set_cons_succ]
            refine wpAnyH_ready (rs := [15]) (by kernel_rfl) (by simp) ?_
            refine AllReadyH.cons rfl (fun K hK => ?_) AllReadyH.nil
            go_simp
            refine (less_no _ _ _ _ _ e3).mono ?_
            rintro e w1 ⟨rfl, hb⟩
            refine hK.out _ _ (keep5 hHeld hb (Nat.le_refl _)) (fun hHeld => ?_)
            clear hK K
            try simp only [Act.put, List.setIfInBounds_toArray, List.set_cons_zero, List.set_cons_succ]
            refine wpAnyH_take (i := 16) (v := ?_) rfl (by kernel_rfl) (by kernel_rfl) (by kernel_rfl) (fun _ _ _ h => h) (Or.inl ⟨by rfl, ?_⟩) hHeld ?_
            rotate_left
            · intro W hS
              try dsimp only at hS
              go_simp
              try with_reducible rfl
            try simp only [Act.put, List.setIfInBounds_toArray, List.set_cons_zero, List.set_cons_succ]
            refine wpAnyH_take (i := 17) (v := undef) rfl (by kernel_rfl) (by kernel_rfl) (by kernel_rfl) (fun _ _ _ h => h) (Or.inr ⟨by rfl, rfl⟩) hHeld ?_
            try simp only [Act.put, List.setIfInBounds_toArray, List.set_cons_zero, List.set_cons_succ]
            refine wpAnyH_take (i := 18) (v := undef) rfl (by kernel_rfl) (by kernel_rfl) (by kernel_rfl) (fun _ _ _ h => h) (Or.inr ⟨by rfl, rfl⟩) hHeld ?_
            try simp only [Act.put, List.setIfInBounds_toArray, List.set_cons_zero, List.set_cons_succ]
            refine wpAnyH_take (i := 19) (v := undef) rfl (by kernel_rfl) (by kernel_rfl) (by kernel_rfl) (fun _ _ _ h => h) (Or.inr ⟨by rfl, rfl⟩) hHeld ?_
            try simp only [Act.put, List.setIfInBounds_toArray, List.set_cons_zero, List.set_cons_succ]
            refine wpAnyH_take (i := 20) (v := ?_) rfl (by kernel_rfl) (by kernel_rfl) (by kernel_rfl) (fun _ _ _ h => h) (Or.inl ⟨by rfl, ?_⟩) hHeld ?_
            rotate_left
            · intro W hS
              try dsimp only at hS
              go_simp
              try with_reducible rfl
            try simp only [Act.put, List.setIfInBounds_toArray, List.set_cons_zero, List.set_cons_succ]
            refine wpAnyH_ready (rs := [23]) (by kernel_rfl) (by simp) ?_
            refine AllReadyH.cons rfl (fun K hK => ?_) AllReadyH.nil
            go_simp
            refine (less_no _ _ _ _ _ mc).mono ?_
            rintro e w1 ⟨rfl, hb⟩
            refine hK.out _ _ (keep5 hHeld hb (Nat.le_refl _)) (fun hHeld => ?_)
            clear hK K
            try simp only [Act.put, List.setIfInBounds_toArray, List.set_cons_zero, List.set_cons_succ]
            refine wpAnyH_take (i := 24) (v := ?_) rfl (by kernel_rfl) (by kernel_rfl) (by kernel_rfl) (fun _ _ _ h => h) (Or.inl ⟨by rfl, ?_⟩) hHeld ?_
            rotate_left
            · intro W hS
              try dsimp only at hS
              go_simp
              try with_reducible rfl
            try simp only [Act.put, List.setIfInBounds_toArray, List.set_cons_zero, List.set_cons_succ]
            refine wpAnyH_take (i := 25) (v := ?_) rfl (by kernel_rfl) (by kernel_rfl) (by kernel_rfl) (fun _ _ _ h => h) (Or.inl ⟨by rfl, ?_⟩) hHeld ?_
            rotate_left
            · intro W hS
              try dsimp only at hS
              go_simp
              try with_reducible rfl
            try simp only [Act.put, List.setIfInBounds_toArray, List.set_cons_zero, List.set_cons_succ]
            refine wpAnyH_take (i := 26) (v := ?_) rfl (by kernel_rfl) (by kernel_rfl) (by kernel_rfl) (fun _ _ _ h => h) (Or.inl ⟨by rfl, ?_⟩) hHeld ?_
            rotate_left
            · intro W hS
              try dsimp only at hS
              go_simp
              try with_reducible rfl
            try simp only [Act.put, List.setIfInBounds_toArray, List.set_cons_zero, List.set_cons_succ]
            refine wpAnyH_done (by kernel_rfl) ?_ _
            go_wp2_with fail
            go_meet
            exact ⟨rfl, by assumption⟩
          · skip
            refine wp_region_held_drew (S := (fun W => Below w.heap.size w W ∧ Blk W (w.heap.size) 23 #[.int .i64 a0, .int .i64 b0] ∧ Blk W (w.heap.size + 1) 23 #[.int .i64 a1, .int .i64 b1] ∧ Blk W (w.heap.size + 1 + 1) 23 #[.int .i64 a2, .int .i64 b2] ∧ Blk W (w2.heap.size) 23 #[.int .i64 (max a0 a1), .int .i64 (max b0 b1)] ∧ Blk W (w3.heap.size) 23 #[.int .i64 (min a0 a1), .int .i64 (min b0 b1)] ∧ (∀ i, W.cell? ⟨w.heap.size, i, none⟩ = #[.int .i64 a0, .int .i64 b0][i]?) ∧ (∀ i, W.cell? ⟨w.heap.size + 1, i, none⟩ = #[.int .i64 a1, .int .i64 b1][i]?) ∧ (∀ i, W.cell? ⟨w.heap.size + 1 + 1, i, none⟩ = #[.int .i64 a2, .int .i64 b2][i]?) ∧ (∀ i, W.cell? ⟨w2.heap.size, i, none⟩ = #[.int .i64 (max a0 a1), .int .i64 (max b0 b1)][i]?) ∧ (∀ i, W.cell? ⟨w3.heap.size, i, none⟩ = #[.int .i64 (min a0 a1), .int .i64 (min b0 b1)][i]?))) (by kernel_rfl) (⟨HB.drew, K0, K1, K2, K3, K4, K0.c, K1.c, K2.c, K3.c, K4.c⟩) (fun hHeld => ?_)
            refine wpAnyH_take (i := 0) (v := ?_) rfl (by kernel_rfl) (by kernel_rfl) (by kernel_rfl) (fun _ _ _ h => h) (Or.inl ⟨by rfl, ?_⟩) hHeld ?_
            rotate_left
            · intro W hS
              try dsimp only at hS
              go_simp
              try with_reducible rfl
            try simp only [Act.put, List.setIfInBounds_toArray, List.set_cons_zero, List.set_cons_succ]
            refine wpAnyH_take (i := 1) (v := ?_) rfl (by kernel_rfl) (by kernel_rfl) (by kernel_rfl) (fun _ _ _ h => h) (Or.inl ⟨by rfl, ?_⟩) hHeld ?_
            rotate_left
            · intro W hS
              try dsimp only at hS
              go_simp
              try with_reducible rfl
            try simp only [Act.put, List.setIfInBounds_toArray, List.set_cons_zero, List.set_cons_succ]
            refine wpAnyH_take (i := 8) (v := ?_) rfl (by kernel_rfl) (by kernel_rfl) (by kernel_rfl) (fun _ _ _ h => h) (Or.inl ⟨by rfl, ?_⟩) hHeld ?_
            rotate_left
            · intro W hS
              try dsimp only at hS
              go_simp
              try with_reducible rfl
            try simp only [Act.put, List.setIfInBounds_toArray, List.set_cons_zero, List.set_cons_succ]
            refine wpAnyH_take (i := 9) (v := ?_) rfl (by kernel_rfl) (by kernel_rfl) (by kernel_rfl) (fun _ _ _ h => h) (Or.inl ⟨by rfl, ?_⟩) hHeld ?_
            rotate_left
            · intro W hS
              try dsimp only at hS
              go_simp
              try with_reducible rfl
            try simp only [Act.put, List.setIfInBounds_toArray, List.set_cons_zero, List.set_cons_succ]
            refine wpAnyH_ready (rs := [2]) (by kernel_rfl) (by simp) ?_
            refine AllReadyH.cons rfl (fun K hK => ?_) AllReadyH.nil
            go_simp
            refine (less_yes _ _ _ _ _ e1).mono ?_
            rintro e w1 ⟨rfl, hb⟩
            refine hK.out _ _ (keep5 hHeld hb (Nat.le_refl _)) (fun hHeld => ?_)
            clear hK K
            try simp only [Act.put, List.setIfInBounds_toArray, List.set_cons_zero, List.set_cons_succ]
            refine wpAnyH_take (i := 3) (v := ?_) rfl (by kernel_rfl) (by kernel_rfl) (by kernel_rfl) (fun _ _ _ h => h) (Or.inl ⟨by rfl, ?_⟩) hHeld ?_
            rotate_left
            · intro W hS
              try dsimp only at hS
              go_simp
              try with_reducible rfl
            try simp only [Act.put, List.setIfInBounds_toArray, List.set_cons_zero, List.set_cons_succ]
            refine wpAnyH_take (i := 4) (v := ?_) rfl (by kernel_rfl) (by kernel_rfl) (by kernel_rfl) (fun _ _ _ h => h) (Or.inl ⟨by rfl, ?_⟩) hHeld ?_
            rotate_left
            · intro W hS
              try dsimp only at hS
              go_simp
              try with_reducible rfl
            try simp only [Act.put, List.setIfInBounds_toArray, List.set_cons_zero, List.set_cons_succ]
            refine wpAnyH_take (i := 5) (v := ?_) rfl (by kernel_rfl) (by kernel_rfl) (by kernel_rfl) (fun _ _ _ h => h) (Or.inl ⟨by rfl, ?_⟩) hHeld ?_
            rotate_left
            · intro W hS
              try dsimp only at hS
              go_simp
              try with_reducible rfl
            try simp only [Act.put, List.setIfInBounds_toArray, List.set_cons_zero, List.set_cons_succ]
            refine wpAnyH_ready (rs := [6]) (by kernel_rfl) (by simp) ?_
            refine AllReadyH.cons rfl (fun K hK => ?_) AllReadyH.nil
            go_simp
            refine (less_any _ _ _ _ _).mono ?_
            rintro e w1 ⟨rfl, hb⟩
            refine hK.out _ _ (keep5 hHeld hb (Nat.le_refl _)) (fun hHeld => ?_)
            clear hK K
            try simp only [Act.put, List.setIfInBounds_toArray, List.set_cons_zero, List.set_cons_succ]
            refine wpAnyH_take (i := 7) (v := ?_) rfl (by kernel_rfl) (by kernel_rfl) (by kernel_rfl) (fun _ _ _ h => h) (Or.inl ⟨by rfl, ?_⟩) hHeld ?_
            rotate_left
            · intro W hS
              try dsimp only at hS
              go_simp
              try with_reducible rfl
            try simp only [Act.put, List.setIfInBounds_toArray, List.set_cons_zero, List.set_cons_succ]
            refine wpAnyH_ready (rs := [10]) (by kernel_rfl) (by simp) ?_
            refine AllReadyH.cons rfl (fun K hK => ?_) AllReadyH.nil
            go_simp
            refine (less_any _ _ _ _ _).mono ?_
            rintro e w1 ⟨rfl, hb⟩
            refine hK.out _ _ (keep5 hHeld hb (Nat.le_refl _)) (fun hHeld => ?_)
            clear hK K
            try simp only [Act.put, List.setIfInBounds_toArray, List.set_cons_zero, List.set_cons_succ]
            refine wpAnyH_take (i := 11) (v := ?_) rfl (by kernel_rfl) (by kernel_rfl) (by kernel_rfl) (fun _ _ _ h => h) (Or.inl ⟨by rfl, ?_⟩) hHeld ?_
            rotate_left
            · intro W hS
              try dsimp only at hS
              go_simp
              try with_reducible rfl
            try simp only [Act.put, List.setIfInBounds_toArray, List.set_cons_zero, List.set_cons_succ]
            refine wpAnyH_take (i := 12) (v := ?_) rfl (by kernel_rfl) (by kernel_rfl) (by kernel_rfl) (fun _ _ _ h => h) (Or.inl ⟨by rfl, ?_⟩) hHeld ?_
            rotate_left
            · intro W hS
              try dsimp only at hS
              go_simp
              try with_reducible rfl
            try simp only [Act.put, List.setIfInBounds_toArray, List.set_cons_zero, List.set_cons_succ]
            refine wpAnyH_take (i := 13) (v := ?_) rfl (by kernel_rfl) (by kernel_rfl) (by kernel_rfl) (fun _ _ _ h => h) (Or.inl ⟨by rfl, ?_⟩) hHeld ?_
            rotate_left
            · intro W hS
              try dsimp only at hS
              go_simp
              try with_reducible rfl
            try simp only [Act.put, List.setIfInBounds_toArray, List.set_cons_zero, List.set_cons_succ]
            refine wpAnyH_take (i := 14) (v := ?_) rfl (by kernel_rfl) (by kernel_rfl) (by kernel_rfl) (fun _ _ _ h => h) (Or.inl ⟨by rfl, ?_⟩) hHeld ?_
            rotate_left
            · intro W hS
              try dsimp only at hS
              go_simp
              try with_reducible rfl
            try simp only [Act.put, List.setIfInBounds_toArray, List.set_cons_zero, List.set_cons_succ]
            refine wpAnyH_take (i := 21) (v := ?_) rfl (by kernel_rfl) (by kernel_rfl) (by kernel_rfl) (fun _ _ _ h => h) (Or.inl ⟨by rfl, ?_⟩) hHeld ?_
            rotate_left
            · intro W hS
              try dsimp only at hS
              go_simp
              try with_reducible rfl
            try simp only [Act.put, List.setIfInBounds_toArray, List.set_cons_zero, List.set_cons_succ]
            refine wpAnyH_take (i := 22) (v := ?_) rfl (by kernel_rfl) (by kernel_rfl) (by kernel_rfl) (fun _ _ _ h => h) (Or.inl ⟨by rfl, ?_⟩) hHeld ?_
            rotate_left
            · intro W hS
              try dsimp only at hS
              go_simp
              try with_reducible rfl
            try simp only [Act.put, List.setIfInBounds_toArray, List.set_cons_zero, List.set_cons_succ]
            refine wpAnyH_ready (rs := [15]) (by kernel_rfl) (by simp) ?_
            refine AllReadyH.cons rfl (fun K hK => ?_) AllReadyH.nil
            go_simp
            refine (less_yes _ _ _ _ _ e3).mono ?_
            rintro e w1 ⟨rfl, hb⟩
            refine hK.out _ _ (keep5 hHeld hb (Nat.le_refl _)) (fun hHeld => ?_)
            clear hK K
            try simp only [Act.put, List.setIfInBounds_toArray, List.set_cons_zero, List.set_cons_succ]
            refine wpAnyH_take (i := 16) (v := ?_) rfl (by kernel_rfl) (by kernel_rfl) (by kernel_rfl) (fun _ _ _ h => h) (Or.inl ⟨by rfl, ?_⟩) hHeld ?_
            rotate_left
            · intro W hS
              try dsimp only at hS
              go_simp
              try with_reducible rfl
            try simp only [Act.put, List.setIfInBounds_toArray, List.set_cons_zero, List.set_cons_succ]
            refine wpAnyH_take (i := 17) (v := ?_) rfl (by kernel_rfl) (by kernel_rfl) (by kernel_rfl) (fun _ _ _ h => h) (Or.inl ⟨by rfl, ?_⟩) hHeld ?_
            rotate_left
            · intro W hS
              try dsimp only at hS
              go_simp
              try with_reducible rfl
            try simp only [Act.put, List.setIfInBounds_toArray, List.set_cons_zero, List.set_cons_succ]
            refine wpAnyH_take (i := 18) (v := ?_) rfl (by kernel_rfl) (by kernel_rfl) (by kernel_rfl) (fun _ _ _ h => h) (Or.inl ⟨by rfl, ?_⟩) hHeld ?_
            rotate_left
            · intro W hS
              try dsimp only at hS
              go_simp
              try with_reducible rfl
            try simp only [Act.put, List.setIfInBounds_toArray, List.set_cons_zero, List.set_cons_succ]
            refine wpAnyH_ready (rs := [19]) (by kernel_rfl) (by simp) ?_
            refine AllReadyH.cons rfl (fun K hK => ?_) AllReadyH.nil
            go_simp
            refine (less_any _ _ _ _ _).mono ?_
            rintro e w1 ⟨rfl, hb⟩
            refine hK.out _ _ (keep5 hHeld hb (Nat.le_refl _)) (fun hHeld => ?_)
            clear hK K
            try simp only [Act.put, List.setIfInBounds_toArray, List.set_cons_zero, List.set_cons_succ]
            refine wpAnyH_take (i := 20) (v := ?_) rfl (by kernel_rfl) (by kernel_rfl) (by kernel_rfl) (fun _ _ _ h => h) (Or.inl ⟨by rfl, ?_⟩) hHeld ?_
            rotate_left
            · intro W hS
              try dsimp only at hS
              go_simp
              try with_reducible rfl
            try simp only [Act.put, List.setIfInBounds_toArray, List.set_cons_zero, List.set_cons_succ]
            refine wpAnyH_ready (rs := [23]) (by kernel_rfl) (by simp) ?_
            refine AllReadyH.cons rfl (fun K hK => ?_) AllReadyH.nil
            go_simp
            refine (less_any _ _ _ _ _).mono ?_
            rintro e w1 ⟨rfl, hb⟩
            refine hK.out _ _ (keep5 hHeld hb (Nat.le_refl _)) (fun hHeld => ?_)
            clear hK K
            try simp only [Act.put, List.setIfInBounds_toArray, List.set_cons_zero, List.set_cons_succ]
            refine wpAnyH_take (i := 24) (v := ?_) rfl (by kernel_rfl) (by kernel_rfl) (by kernel_rfl) (fun _ _ _ h => h) (Or.inl ⟨by rfl, ?_⟩) hHeld ?_
            rotate_left
            · intro W hS
              try dsimp only at hS
              go_simp
              try with_reducible rfl
            try simp only [Act.put, List.setIfInBounds_toArray, List.set_cons_zero, List.set_cons_succ]
            refine wpAnyH_take (i := 25) (v := ?_) rfl (by kernel_rfl) (by kernel_rfl) (by kernel_rfl) (fun _ _ _ h => h) (Or.inl ⟨by rfl, ?_⟩) hHeld ?_
            rotate_left
            · intro W hS
              try dsimp only at hS
              go_simp
              try with_reducible rfl
            try simp only [Act.put, List.setIfInBounds_toArray, List.set_cons_zero, List.set_cons_succ]
            refine wpAnyH_take (i := 26) (v := ?_) rfl (by kernel_rfl) (by kernel_rfl) (by kernel_rfl) (fun _ _ _ h => h) (Or.inl ⟨by rfl, ?_⟩) hHeld ?_
            rotate_left
            · intro W hS
              try dsimp only at hS
              go_simp
              try with_reducible rfl
            try simp only [Act.put, List.setIfInBounds_toArray, List.set_cons_zero, List.set_cons_succ]
            refine wpAnyH_done (by kernel_rfl) ?_ _
            go_wp2_with fail
            go_meet
            exact ⟨rfl, by assumption⟩
        case rest =>
          obtain ⟨rfl, HB, K0, K1, K2, K3, K4, c0, c1, c2, c3, c4⟩ := hcut
          have z0 := K0.lt
          have z1 := K1.lt
          have z2 := K2.lt
          have z3 := K3.lt
          have z4 := K4.lt
          have s0 := less_self a0 b0
          go_wp2_with fail
          refine (less_any _ _ _ _ _).mono ?_
          rintro e w9 ⟨rfl, hb⟩
          have K0 := (K0).on hb
          have K1 := (K1).on hb
          have K2 := (K2).on hb
          have K3 := (K3).on hb
          have K4 := (K4).on hb
          have HB := below_after HB hb HB.size
          clear hb
          have c0 := K0.c
          have z0 := K0.lt
          have c1 := K1.c
          have z1 := K1.lt
          have c2 := K2.c
          have z2 := K2.lt
          have c3 := K3.c
          have z3 := K3.lt
          have c4 := K4.c
          have z4 := K4.lt
          go_wp2_with fail
          go_ret
          exact ⟨by simp, HB⟩


namespace timeOrders
set_option maxRecDepth 100000 in
theorem contract (H : Type) (enc : TypeId × Value → H) (W : World) (base : Nat) (args : Array Value) (ds gs : List (DataW H)) (before : List MemPlace)
    (hval : ∀ (j : Nat) t v, Try.f4.params[j]? = some t → args[j]? = some v → Value.okWide Try.prog W .any base t v)
    (hW : DataW.Whole enc Try.prog Try.f4.params.toList Rows.timeOrdersSpec.vars false W args.toList ds gs before) :
    Calls Try.prog 4 args W fun e W' => ∃ v, e = .returned v ∧ Rows.timeOrdersSpec.post enc Try.prog Try.f4 false true false false W args v W' := by
  have hWc := hW
  obtain ⟨p, q, hA0, hV, _, _, _⟩ := hW
  have hA : DataW.TrodAll enc Try.prog W 0 (fun _ => true) true Try.f4.params.toList args.toList ds p := hA0
  clear hA0
  rw [Try.params4] at hA hval
  obtain ⟨v0, vs0, d0, ds0, p0, q0, hargs, rfl, rfl, h0, r0⟩ := trodAll_cons hA
  obtain ⟨v1, vs1, d1, ds1, p1, q1, rfl, rfl, rfl, h1, r1⟩ := trodAll_cons r0
  obtain ⟨v2, vs2, d2, ds2, p2, q2, rfl, rfl, rfl, h2, r2⟩ := trodAll_cons r1
  obtain ⟨rfl, rfl, rfl⟩ := trodAll_nil r2
  obtain rfl : args = #[v0, v1, v2] := by cases args; simp_all
  obtain ⟨c0, c0', y0, y0', m0, rfl, rfl, rfl, hy0, hy0'⟩ := open_agg2 Try.underlying23 (by kernel_rfl) (by kernel_rfl : Try.prog.cellsOf 23 = 2) (hval 0 23 v0 rfl rfl) h0
  obtain ⟨a0, e0, rfl, wa0⟩ := DataW.trod_int Try.underlying3 hy0
  obtain ⟨b0, e0', rfl, wb0⟩ := DataW.trod_int Try.underlying3 hy0'
  simp at e0 e0'
  subst e0 e0'
  obtain ⟨c1, c1', y1, y1', m1, rfl, rfl, rfl, hy1, hy1'⟩ := open_agg2 Try.underlying23 (by kernel_rfl) (by kernel_rfl : Try.prog.cellsOf 23 = 2) (hval 1 23 v1 rfl rfl) h1
  obtain ⟨a1, e1, rfl, wa1⟩ := DataW.trod_int Try.underlying3 hy1
  obtain ⟨b1, e1', rfl, wb1⟩ := DataW.trod_int Try.underlying3 hy1'
  simp at e1 e1'
  subst e1 e1'
  obtain ⟨c2, c2', y2, y2', m2, rfl, rfl, rfl, hy2, hy2'⟩ := open_agg2 Try.underlying23 (by kernel_rfl) (by kernel_rfl : Try.prog.cellsOf 23 = 2) (hval 2 23 v2 rfl rfl) h2
  obtain ⟨a2, e2, rfl, wa2⟩ := DataW.trod_int Try.underlying3 hy2
  obtain ⟨b2, e2', rfl, wb2⟩ := DataW.trod_int Try.underlying3 hy2'
  simp at e2 e2'
  subst e2 e2'
  refine (timeOrders_walk a0 b0 a1 b1 a2 b2 W).mono fun e W' ⟨he, hb⟩ => ⟨_, he, ?_⟩
  exact post_true hWc rfl hb laidOut (readables (by kernel_rfl)) rfl Try.underlying4 (fun h => by subst h; rfl)

set_option maxRecDepth 100000 in
theorem lifted (os : Os) (started : os.Started) (H : Type) (enc : TypeId × Value → H) :
    ReturnsInHanded {} Try.checked os 4 .any (Rows.timeOrdersSpec.pre6 enc Try.prog Try.f4 Rows.timeOrdersRow.domain false) (Rows.timeOrdersSpec.post enc Try.prog Try.f4 false true false false) := by
  refine returnsInHanded_of_change (C := Try.checked) own started (by kernel_rfl) Try.func4
    (ChangeSpec.witness6 (enc := enc) (C := Try.checked) false ⟨#[], #[.agg #[.int .i64 0, .int .i64 0], .agg #[.int .i64 0, .int .i64 0], .agg #[.int .i64 0, .int .i64 0]], []⟩ 8 (by kernel_rfl) (by kernel_rfl) (by kernel_rfl) (by kernel_rfl)) ?_
  intro W base args ds gs before hval hW _ _
  exact contract H enc W base args ds gs before hval hW

theorem proved : Rows.TimeOrdersSaid :=
  OpenClaim.holds_of_wide 4 Try.f4 rfl rfl rfl rfl rfl rfl rfl ⟨rfl, rfl, rfl, rfl, rfl⟩ rfl rfl rfl rfl rfl (by kernel_rfl) Try.func4 (by kernel_rfl)
    (of_decide_eq_true (by kernel_rfl)) (by unfold Func.isWrapper; first | (rw [if_pos (by decide +kernel)]; kernel_rfl) | (rw [if_neg (by decide +kernel)]; exact ⟨rfl, rfl⟩))
    (fun os started H enc _ => lifted os started H enc)
end timeOrders
end Go.Proofs.Ytpmkbhmmdfkhpaa
