/-
  What the further functions that the Time laws reach return: joins, meets, paths.
-/
import Derived.Test.YtpmkbhmmdfkhpaaPtime
namespace Go.Proofs.Ytpmkbhmmdfkhpaa
open Go.RowKit
def applyL (o : Bool) (x l : Int) : Int := min ((if o then 0 else l) + x) 1073741824
def thenO (o o' : Bool) : Bool := o || o'
def thenA (x : Int) (o' : Bool) (x' : Int) : Int := if o' then x' else min (x + x') 1073741824


set_option maxHeartbeats 400000 in
theorem mjoin_any (a b c d : Int) (w : World) :
    Calls Try.prog 21 #[tv a b, tv c d] w fun e w' => e = .returned (tv (max a c) (max b d)) ∧ Below w.heap.size w w' := by
  go_enter Try.func21, Try.ntmps21
  go_wp2
  all_goals
    refine bodyPost_ret (v := tv (max a c) (max b d)) (by simp [results, Try.results21, go_sem]; omega) rfl ⟨rfl, ?_⟩
    repeat (first | exact Below.refl _ _ | refine Below.setCell ?_ (by first | omega | (simp; done) | (simp; omega)) _ | refine Below.alloc ?_ (by first | omega | (simp; done) | (simp; omega)) _ | refine Below.drew ?_ | refine below_drewN ?_ _ | refine below_after ?_ (by assumption) (by first | omega | (simp; done) | (simp; omega)))

set_option maxHeartbeats 400000 in
theorem ofjoin_any (a b c d : Int) (w : World) :
    Calls Try.prog 20 #[tv a b, tv c d, .func (Fn.func 21) #[] #[]] w fun e w' => e = .returned (tv (max a c) (max b d)) ∧ Below w.heap.size w w' := by
  go_enter Try.func20, Try.ntmps20
  go_wp2_with (go_at_call 21; refine (mjoin_any _ _ _ _ _).mono ?_; rintro e w1 ⟨rfl, hb⟩; obtain ⟨hc, hf, hz⟩ := bk (w.heap.size + 3) hb (by first | omega | (simp; done) | (simp; omega)))
  refine bodyPost_ret (v := tv (max a c) (max b d)) (by simp [results, Try.results20, go_sem, hc]) rfl ⟨rfl, ?_⟩
  repeat (first | exact Below.refl _ _ | refine Below.setCell ?_ (by first | omega | (simp; done) | (simp; omega)) _ | refine Below.alloc ?_ (by first | omega | (simp; done) | (simp; omega)) _ | refine Below.drew ?_ | refine below_drewN ?_ _ | refine below_after ?_ (by assumption) (by first | omega | (simp; done) | (simp; omega)))

set_option maxHeartbeats 400000 in
theorem join_any (a b c d : Int) (w : World) :
    Calls Try.prog 8 #[tv a b, tv c d] w fun e w' => e = .returned (tv (max a c) (max b d)) ∧ Below w.heap.size w w' := by
  go_enter Try.func8, Try.ntmps8
  go_wp2_with (go_at_call 20; refine (ofjoin_any _ _ _ _ _).mono ?_; rintro e w1 ⟨rfl, hb⟩; obtain ⟨hc, hf, hz⟩ := bk (w.heap.size + 3) hb (by first | omega | (simp; done) | (simp; omega)))
  refine bodyPost_ret (v := tv (max a c) (max b d)) (by simp [results, Try.results8, go_sem, hc]) rfl ⟨rfl, ?_⟩
  repeat (first | exact Below.refl _ _ | refine Below.setCell ?_ (by first | omega | (simp; done) | (simp; omega)) _ | refine Below.alloc ?_ (by first | omega | (simp; done) | (simp; omega)) _ | refine Below.drew ?_ | refine below_drewN ?_ _ | refine below_after ?_ (by assumption) (by first | omega | (simp; done) | (simp; omega)))

set_option maxHeartbeats 400000 in
theorem rjoin_any (a b c d : Int) (w : World) :
    Calls Try.prog 12 #[tv a b, tv c d] w fun e w' => e = .returned (tv (max a c) (max b d)) ∧ Below w.heap.size w w' := by
  go_enter Try.func12, Try.ntmps12
  go_wp2
  all_goals
    refine bodyPost_ret (v := tv (max a c) (max b d)) (by simp [results, Try.results12, go_sem]; try omega) rfl ⟨rfl, ?_⟩
    repeat (first | exact Below.refl _ _ | refine Below.setCell ?_ (by first | omega | (simp; done) | (simp; omega)) _ | refine Below.alloc ?_ (by first | omega | (simp; done) | (simp; omega)) _ | refine Below.drew ?_ | refine below_drewN ?_ _ | refine below_after ?_ (by assumption) (by first | omega | (simp; done) | (simp; omega)))


set_option maxHeartbeats 400000 in
theorem mmeet_any (a b c d : Int) (w : World) :
    Calls Try.prog 22 #[tv a b, tv c d] w fun e w' => e = .returned (tv (min a c) (min b d)) ∧ Below w.heap.size w w' := by
  go_enter Try.func22, Try.ntmps22
  go_wp2
  all_goals
    refine bodyPost_ret (v := tv (min a c) (min b d)) (by simp [results, Try.results22, go_sem]; omega) rfl ⟨rfl, ?_⟩
    repeat (first | exact Below.refl _ _ | refine Below.setCell ?_ (by first | omega | (simp; done) | (simp; omega)) _ | refine Below.alloc ?_ (by first | omega | (simp; done) | (simp; omega)) _ | refine Below.drew ?_ | refine below_drewN ?_ _ | refine below_after ?_ (by assumption) (by first | omega | (simp; done) | (simp; omega)))

set_option maxHeartbeats 400000 in
theorem ofmeet_any (a b c d : Int) (w : World) :
    Calls Try.prog 20 #[tv a b, tv c d, .func (Fn.func 22) #[] #[]] w fun e w' => e = .returned (tv (min a c) (min b d)) ∧ Below w.heap.size w w' := by
  go_enter Try.func20, Try.ntmps20
  go_wp2_with (go_at_call 22; refine (mmeet_any _ _ _ _ _).mono ?_; rintro e w1 ⟨rfl, hb⟩; obtain ⟨hc, hf, hz⟩ := bk (w.heap.size + 3) hb (by first | omega | (simp; done) | (simp; omega)))
  refine bodyPost_ret (v := tv (min a c) (min b d)) (by simp [results, Try.results20, go_sem, hc]) rfl ⟨rfl, ?_⟩
  repeat (first | exact Below.refl _ _ | refine Below.setCell ?_ (by first | omega | (simp; done) | (simp; omega)) _ | refine Below.alloc ?_ (by first | omega | (simp; done) | (simp; omega)) _ | refine Below.drew ?_ | refine below_drewN ?_ _ | refine below_after ?_ (by assumption) (by first | omega | (simp; done) | (simp; omega)))

set_option maxHeartbeats 400000 in
theorem meet_any (a b c d : Int) (w : World) :
    Calls Try.prog 9 #[tv a b, tv c d] w fun e w' => e = .returned (tv (min a c) (min b d)) ∧ Below w.heap.size w w' := by
  go_enter Try.func9, Try.ntmps9
  go_wp2_with (go_at_call 20; refine (ofmeet_any _ _ _ _ _).mono ?_; rintro e w1 ⟨rfl, hb⟩; obtain ⟨hc, hf, hz⟩ := bk (w.heap.size + 3) hb (by first | omega | (simp; done) | (simp; omega)))
  refine bodyPost_ret (v := tv (min a c) (min b d)) (by simp [results, Try.results9, go_sem, hc]) rfl ⟨rfl, ?_⟩
  repeat (first | exact Below.refl _ _ | refine Below.setCell ?_ (by first | omega | (simp; done) | (simp; omega)) _ | refine Below.alloc ?_ (by first | omega | (simp; done) | (simp; omega)) _ | refine Below.drew ?_ | refine below_drewN ?_ _ | refine below_after ?_ (by assumption) (by first | omega | (simp; done) | (simp; omega)))

set_option maxHeartbeats 400000 in
theorem rmeet_any (a b c d : Int) (w : World) :
    Calls Try.prog 13 #[tv a b, tv c d] w fun e w' => e = .returned (tv (min a c) (min b d)) ∧ Below w.heap.size w w' := by
  go_enter Try.func13, Try.ntmps13
  go_wp2
  all_goals
    refine bodyPost_ret (v := tv (min a c) (min b d)) (by simp [results, Try.results13, go_sem]; try omega) rfl ⟨rfl, ?_⟩
    repeat (first | exact Below.refl _ _ | refine Below.setCell ?_ (by first | omega | (simp; done) | (simp; omega)) _ | refine Below.alloc ?_ (by first | omega | (simp; done) | (simp; omega)) _ | refine Below.drew ?_ | refine below_drewN ?_ _ | refine below_after ?_ (by assumption) (by first | omega | (simp; done) | (simp; omega)))


set_option maxHeartbeats 400000 in
theorem path_any (o : Bool) (a : Int) (w : World) :
    Calls Try.prog 25 #[pv o a] w fun e w' => e = .returned (.bool (pathB a)) ∧ Below w.heap.size w w' := by
  go_enter Try.func25, Try.ntmps25
  go_wp2
  all_goals
    go_ret
    refine ⟨by simp [pathB, *] <;> omega, ?_⟩
    repeat (first | exact Below.refl _ _ | refine Below.setCell ?_ (by first | omega | (simp; done) | (simp; omega)) _ | refine Below.alloc ?_ (by first | omega | (simp; done) | (simp; omega)) _ | refine Below.drew ?_ | refine below_drewN ?_ _ | refine below_after ?_ (by assumption) (by first | omega | (simp; done) | (simp; omega)))


set_option maxHeartbeats 400000 in
theorem rpath_any (o : Bool) (a : Int) (w : World) :
    Calls Try.prog 16 #[pv o a] w fun e w' => e = .returned (.bool (pathB a)) ∧ Below w.heap.size w w' := by
  go_enter Try.func16, Try.ntmps16
  go_wp2
  all_goals
    go_ret
    refine ⟨by simp [pathB, *] <;> omega, ?_⟩
    repeat (first | exact Below.refl _ _ | refine Below.setCell ?_ (by first | omega | (simp; done) | (simp; omega)) _ | refine Below.alloc ?_ (by first | omega | (simp; done) | (simp; omega)) _ | refine Below.drew ?_ | refine below_drewN ?_ _ | refine below_after ?_ (by assumption) (by first | omega | (simp; done) | (simp; omega)))


set_option maxHeartbeats 400000 in
theorem apply_true (x a l : Int) (hx : pathB x = true) (hm : mayB a l = true) (w : World) :
    Calls Try.prog 17 #[pv true x, tv a l] w fun e w' => e = .returned (.tuple #[tv a (applyL true x l), .bool true]) ∧ Below w.heap.size w w' := by
  obtain ⟨x0, x1⟩ := pathB_yes hx
  obtain ⟨a0, l0, l1⟩ := mayB_yes hm
  have hsc := setCell_again
  go_enter Try.func17, Try.ntmps17
  go_wp2_with (first | (go_at_call 25; refine (path_any _ _ _).mono ?_; rintro e w1 ⟨rfl, hb⟩; have K0 := Blk.on (g := w.heap.size) (t := 30) (cs := #[.bool true, .int .i64 x]) (by repeat (first | exact Blk.at_ _ _ _ (by simp) | refine Blk.alloc ?_ _)) hb; obtain ⟨c0, f0⟩ := K0.cf; have K1 := Blk.on (g := w.heap.size + 1) (t := 23) (cs := #[.int .i64 a, .int .i64 l]) (by repeat (first | exact Blk.at_ _ _ _ (by simp) | refine Blk.alloc ?_ _)) hb; obtain ⟨c1, f1⟩ := K1.cf; have K2 := Blk.on (g := w.heap.size + 1 + 1) (t := 23) (cs := #[.int .i64 0, .int .i64 0]) (by repeat (first | exact Blk.at_ _ _ _ (by simp) | refine Blk.alloc ?_ _)) hb; obtain ⟨c2, f2⟩ := K2.cf; have z1 : w.heap.size ≤ w1.heap.size := Nat.le_trans (by first | omega | (simp; done) | (simp; omega)) hb.size) | (go_at_call 14; refine (may_any _ _ _).mono ?_; rintro e w2 ⟨rfl, hb2⟩; have L0 := K0.on hb2; obtain ⟨d0, g0⟩ := L0.cf; have L1 := K1.on hb2; obtain ⟨d1, g1⟩ := L1.cf; have L2 := K2.on hb2; obtain ⟨d2, g2⟩ := L2.cf))
  all_goals
    refine bodyPost_ret (v := .tuple #[tv a (applyL true x l), .bool true]) (by simp [results, Try.results17, go_sem, d2, applyL]; try omega) rfl ⟨rfl, ?_⟩
    repeat (first | exact Below.refl _ _ | refine Below.setCell ?_ (by first | omega | (simp; done) | (simp; omega)) _ | refine Below.alloc ?_ (by first | omega | (simp; done) | (simp; omega)) _ | refine Below.drew ?_ | refine below_drewN ?_ _ | refine below_after ?_ (by assumption) (by first | omega | (simp; done) | (simp; omega)))


set_option maxHeartbeats 400000 in
theorem apply_false (x a l : Int) (hx : pathB x = true) (hm : mayB a l = true) (w : World) :
    Calls Try.prog 17 #[pv false x, tv a l] w fun e w' => e = .returned (.tuple #[tv a (applyL false x l), .bool true]) ∧ Below w.heap.size w w' := by
  obtain ⟨x0, x1⟩ := pathB_yes hx
  obtain ⟨a0, l0, l1⟩ := mayB_yes hm
  have hsc := setCell_again
  go_enter Try.func17, Try.ntmps17
  go_wp2_with (first | (go_at_call 25; refine (path_any _ _ _).mono ?_; rintro e w1 ⟨rfl, hb⟩; have K0 := Blk.on (g := w.heap.size) (t := 30) (cs := #[.bool false, .int .i64 x]) (by repeat (first | exact Blk.at_ _ _ _ (by simp) | refine Blk.alloc ?_ _)) hb; obtain ⟨c0, f0⟩ := K0.cf; have K1 := Blk.on (g := w.heap.size + 1) (t := 23) (cs := #[.int .i64 a, .int .i64 l]) (by repeat (first | exact Blk.at_ _ _ _ (by simp) | refine Blk.alloc ?_ _)) hb; obtain ⟨c1, f1⟩ := K1.cf; have K2 := Blk.on (g := w.heap.size + 1 + 1) (t := 23) (cs := #[.int .i64 0, .int .i64 0]) (by repeat (first | exact Blk.at_ _ _ _ (by simp) | refine Blk.alloc ?_ _)) hb; obtain ⟨c2, f2⟩ := K2.cf; have z1 : w.heap.size ≤ w1.heap.size := Nat.le_trans (by first | omega | (simp; done) | (simp; omega)) hb.size) | (go_at_call 14; refine (may_any _ _ _).mono ?_; rintro e w2 ⟨rfl, hb2⟩; have L0 := K0.on hb2; obtain ⟨d0, g0⟩ := L0.cf; have L1 := K1.on hb2; obtain ⟨d1, g1⟩ := L1.cf; have L2 := K2.on hb2; obtain ⟨d2, g2⟩ := L2.cf))
  all_goals
    refine bodyPost_ret (v := .tuple #[tv a (applyL false x l), .bool true]) (by simp [results, Try.results17, go_sem, d2, applyL]; try omega) rfl ⟨rfl, ?_⟩
    repeat (first | exact Below.refl _ _ | refine Below.setCell ?_ (by first | omega | (simp; done) | (simp; omega)) _ | refine Below.alloc ?_ (by first | omega | (simp; done) | (simp; omega)) _ | refine Below.drew ?_ | refine below_drewN ?_ _ | refine below_after ?_ (by assumption) (by first | omega | (simp; done) | (simp; omega)))


theorem apply_any (o : Bool) (x a l : Int) (hx : pathB x = true) (hm : mayB a l = true) (w : World) :
    Calls Try.prog 17 #[pv o x, tv a l] w fun e w' => e = .returned (.tuple #[tv a (applyL o x l), .bool true]) ∧ Below w.heap.size w w' := by
  cases o
  · exact apply_false x a l hx hm w
  · exact apply_true x a l hx hm w


set_option maxHeartbeats 400000 in
theorem then_true (o : Bool) (x x' : Int) (hx : pathB x = true) (hx' : pathB x' = true) (w : World) :
    Calls Try.prog 19 #[pv o x, pv true x'] w fun e w' => e = .returned (.tuple #[pv (thenO o true) (thenA x true x'), .bool true]) ∧ Below w.heap.size w w' := by
  obtain ⟨x0, x1⟩ := pathB_yes hx
  obtain ⟨y0, y1⟩ := pathB_yes hx'
  have hsc := setCell_again
  go_enter Try.func19, Try.ntmps19
  go_wp2_with fail
  refine (path_any _ _ _).mono ?_
  rintro e w1 ⟨rfl, hb⟩
  have K0 := Blk.on (g := w.heap.size) (t := 30) (cs := #[.bool o, .int .i64 x]) (by repeat (first | exact Blk.at_ _ _ _ (by simp) | refine Blk.alloc ?_ _)) hb; obtain ⟨c0, f0⟩ := K0.cf; have K1 := Blk.on (g := w.heap.size + 1) (t := 30) (cs := #[.bool true, .int .i64 x']) (by repeat (first | exact Blk.at_ _ _ _ (by simp) | refine Blk.alloc ?_ _)) hb; obtain ⟨c1, f1⟩ := K1.cf; have K2 := Blk.on (g := w.heap.size + 1 + 1) (t := 30) (cs := #[.bool false, .int .i64 0]) (by repeat (first | exact Blk.at_ _ _ _ (by simp) | refine Blk.alloc ?_ _)) hb; obtain ⟨c2, f2⟩ := K2.cf; have z1 : w.heap.size ≤ w1.heap.size := Nat.le_trans (by first | omega | (simp; done) | (simp; omega)) hb.size
  go_wp2_with fail
  refine (path_any _ _ _).mono ?_
  rintro e w2 ⟨rfl, hb2⟩
  have L0 := K0.on hb2; obtain ⟨d0, g0⟩ := L0.cf; have L1 := K1.on hb2; obtain ⟨d1, g1⟩ := L1.cf; have L2 := K2.on hb2; obtain ⟨d2, g2⟩ := L2.cf
  go_wp2_with fail
  all_goals
    refine bodyPost_ret (v := .tuple #[pv (thenO o true) (thenA x true x'), .bool true]) (by simp [results, Try.results19, go_sem, d2, thenO, thenA]; try omega) rfl ⟨rfl, ?_⟩
    repeat (first | exact Below.refl _ _ | refine Below.setCell ?_ (by first | omega | (simp; done) | (simp; omega)) _ | refine Below.alloc ?_ (by first | omega | (simp; done) | (simp; omega)) _ | refine Below.drew ?_ | refine below_drewN ?_ _ | refine below_after ?_ (by assumption) (by first | omega | (simp; done) | (simp; omega)))


set_option maxHeartbeats 400000 in
theorem then_false (o : Bool) (x x' : Int) (hx : pathB x = true) (hx' : pathB x' = true) (w : World) :
    Calls Try.prog 19 #[pv o x, pv false x'] w fun e w' => e = .returned (.tuple #[pv (thenO o false) (thenA x false x'), .bool true]) ∧ Below w.heap.size w w' := by
  obtain ⟨x0, x1⟩ := pathB_yes hx
  obtain ⟨y0, y1⟩ := pathB_yes hx'
  have hsc := setCell_again
  go_enter Try.func19, Try.ntmps19
  go_wp2_with fail
  refine (path_any _ _ _).mono ?_
  rintro e w1 ⟨rfl, hb⟩
  have K0 := Blk.on (g := w.heap.size) (t := 30) (cs := #[.bool o, .int .i64 x]) (by repeat (first | exact Blk.at_ _ _ _ (by simp) | refine Blk.alloc ?_ _)) hb; obtain ⟨c0, f0⟩ := K0.cf; have K1 := Blk.on (g := w.heap.size + 1) (t := 30) (cs := #[.bool false, .int .i64 x']) (by repeat (first | exact Blk.at_ _ _ _ (by simp) | refine Blk.alloc ?_ _)) hb; obtain ⟨c1, f1⟩ := K1.cf; have K2 := Blk.on (g := w.heap.size + 1 + 1) (t := 30) (cs := #[.bool false, .int .i64 0]) (by repeat (first | exact Blk.at_ _ _ _ (by simp) | refine Blk.alloc ?_ _)) hb; obtain ⟨c2, f2⟩ := K2.cf; have z1 : w.heap.size ≤ w1.heap.size := Nat.le_trans (by first | omega | (simp; done) | (simp; omega)) hb.size
  go_wp2_with fail
  refine (path_any _ _ _).mono ?_
  rintro e w2 ⟨rfl, hb2⟩
  have L0 := K0.on hb2; obtain ⟨d0, g0⟩ := L0.cf; have L1 := K1.on hb2; obtain ⟨d1, g1⟩ := L1.cf; have L2 := K2.on hb2; obtain ⟨d2, g2⟩ := L2.cf
  go_wp2_with fail
  all_goals
    refine bodyPost_ret (v := .tuple #[pv (thenO o false) (thenA x false x'), .bool true]) (by simp [results, Try.results19, go_sem, d2, thenO, thenA]; try omega) rfl ⟨rfl, ?_⟩
    repeat (first | exact Below.refl _ _ | refine Below.setCell ?_ (by first | omega | (simp; done) | (simp; omega)) _ | refine Below.alloc ?_ (by first | omega | (simp; done) | (simp; omega)) _ | refine Below.drew ?_ | refine below_drewN ?_ _ | refine below_after ?_ (by assumption) (by first | omega | (simp; done) | (simp; omega)))


theorem then_any (o : Bool) (x : Int) (o' : Bool) (x' : Int) (hx : pathB x = true) (hx' : pathB x' = true) (w : World) :
    Calls Try.prog 19 #[pv o x, pv o' x'] w fun e w' => e = .returned (.tuple #[pv (thenO o o') (thenA x o' x'), .bool true]) ∧ Below w.heap.size w w' := by
  cases o'
  · exact then_false o x x' hx hx' w
  · exact then_true o x x' hx hx' w


set_option maxHeartbeats 400000 in
theorem under_true_true (x x' : Int) (hx : pathB x = true) (hx' : pathB x' = true) (w : World) :
    Calls Try.prog 18 #[pv true x, pv true x'] w fun e w' => e = .returned (.bool (underB true x true x')) ∧ Below w.heap.size w w' := by
  go_enter Try.func18, Try.ntmps18
  go_wp2_with fail
  refine (path_any _ _ _).mono ?_
  rintro e w1 ⟨rfl, hb⟩
  have K0 := Blk.on (g := w.heap.size) (t := 30) (cs := #[.bool true, .int .i64 x]) (by repeat (first | exact Blk.at_ _ _ _ (by simp) | refine Blk.alloc ?_ _)) hb; obtain ⟨c0, f0⟩ := K0.cf; have K1 := Blk.on (g := w.heap.size + 1) (t := 30) (cs := #[.bool true, .int .i64 x']) (by repeat (first | exact Blk.at_ _ _ _ (by simp) | refine Blk.alloc ?_ _)) hb; obtain ⟨c1, f1⟩ := K1.cf; have z1 : w.heap.size ≤ w1.heap.size := Nat.le_trans (by first | omega | (simp; done) | (simp; omega)) hb.size
  go_wp2_with fail
  refine (path_any _ _ _).mono ?_
  rintro e w2 ⟨rfl, hb2⟩
  have L0 := K0.on hb2; obtain ⟨d0, g0⟩ := L0.cf; have L1 := K1.on hb2; obtain ⟨d1, g1⟩ := L1.cf
  go_wp2_with fail
  all_goals
    go_ret
    refine ⟨?_, ?_⟩
    · first | rfl | (simp [underB]; done) | (simp [underB, *]; done) | (simp [underB, *]; omega) | (simp [underB]; omega)
    · repeat (first | exact Below.refl _ _ | refine Below.setCell ?_ (by first | omega | (simp; done) | (simp; omega)) _ | refine Below.alloc ?_ (by first | omega | (simp; done) | (simp; omega)) _ | refine Below.drew ?_ | refine below_drewN ?_ _ | refine below_after ?_ (by assumption) (by first | omega | (simp; done) | (simp; omega)))


set_option maxHeartbeats 400000 in
theorem under_true_false (x x' : Int) (hx : pathB x = true) (hx' : pathB x' = true) (w : World) :
    Calls Try.prog 18 #[pv true x, pv false x'] w fun e w' => e = .returned (.bool (underB true x false x')) ∧ Below w.heap.size w w' := by
  go_enter Try.func18, Try.ntmps18
  go_wp2_with fail
  refine (path_any _ _ _).mono ?_
  rintro e w1 ⟨rfl, hb⟩
  have K0 := Blk.on (g := w.heap.size) (t := 30) (cs := #[.bool true, .int .i64 x]) (by repeat (first | exact Blk.at_ _ _ _ (by simp) | refine Blk.alloc ?_ _)) hb; obtain ⟨c0, f0⟩ := K0.cf; have K1 := Blk.on (g := w.heap.size + 1) (t := 30) (cs := #[.bool false, .int .i64 x']) (by repeat (first | exact Blk.at_ _ _ _ (by simp) | refine Blk.alloc ?_ _)) hb; obtain ⟨c1, f1⟩ := K1.cf; have z1 : w.heap.size ≤ w1.heap.size := Nat.le_trans (by first | omega | (simp; done) | (simp; omega)) hb.size
  go_wp2_with fail
  refine (path_any _ _ _).mono ?_
  rintro e w2 ⟨rfl, hb2⟩
  have L0 := K0.on hb2; obtain ⟨d0, g0⟩ := L0.cf; have L1 := K1.on hb2; obtain ⟨d1, g1⟩ := L1.cf
  go_wp2_with fail
  all_goals
    go_ret
    refine ⟨?_, ?_⟩
    · first | rfl | (simp [underB]; done) | (simp [underB, *]; done) | (simp [underB, *]; omega) | (simp [underB]; omega)
    · repeat (first | exact Below.refl _ _ | refine Below.setCell ?_ (by first | omega | (simp; done) | (simp; omega)) _ | refine Below.alloc ?_ (by first | omega | (simp; done) | (simp; omega)) _ | refine Below.drew ?_ | refine below_drewN ?_ _ | refine below_after ?_ (by assumption) (by first | omega | (simp; done) | (simp; omega)))


set_option maxHeartbeats 400000 in
theorem under_false_true (x x' : Int) (hx : pathB x = true) (hx' : pathB x' = true) (w : World) :
    Calls Try.prog 18 #[pv false x, pv true x'] w fun e w' => e = .returned (.bool (underB false x true x')) ∧ Below w.heap.size w w' := by
  go_enter Try.func18, Try.ntmps18
  go_wp2_with fail
  refine (path_any _ _ _).mono ?_
  rintro e w1 ⟨rfl, hb⟩
  have K0 := Blk.on (g := w.heap.size) (t := 30) (cs := #[.bool false, .int .i64 x]) (by repeat (first | exact Blk.at_ _ _ _ (by simp) | refine Blk.alloc ?_ _)) hb; obtain ⟨c0, f0⟩ := K0.cf; have K1 := Blk.on (g := w.heap.size + 1) (t := 30) (cs := #[.bool true, .int .i64 x']) (by repeat (first | exact Blk.at_ _ _ _ (by simp) | refine Blk.alloc ?_ _)) hb; obtain ⟨c1, f1⟩ := K1.cf; have z1 : w.heap.size ≤ w1.heap.size := Nat.le_trans (by first | omega | (simp; done) | (simp; omega)) hb.size
  go_wp2_with fail
  refine (path_any _ _ _).mono ?_
  rintro e w2 ⟨rfl, hb2⟩
  have L0 := K0.on hb2; obtain ⟨d0, g0⟩ := L0.cf; have L1 := K1.on hb2; obtain ⟨d1, g1⟩ := L1.cf
  go_wp2_with fail
  all_goals
    go_ret
    refine ⟨?_, ?_⟩
    · first | rfl | (simp [underB]; done) | (simp [underB, *]; done) | (simp [underB, *]; omega) | (simp [underB]; omega)
    · repeat (first | exact Below.refl _ _ | refine Below.setCell ?_ (by first | omega | (simp; done) | (simp; omega)) _ | refine Below.alloc ?_ (by first | omega | (simp; done) | (simp; omega)) _ | refine Below.drew ?_ | refine below_drewN ?_ _ | refine below_after ?_ (by assumption) (by first | omega | (simp; done) | (simp; omega)))


set_option maxHeartbeats 400000 in
theorem under_false_false (x x' : Int) (hx : pathB x = true) (hx' : pathB x' = true) (w : World) :
    Calls Try.prog 18 #[pv false x, pv false x'] w fun e w' => e = .returned (.bool (underB false x false x')) ∧ Below w.heap.size w w' := by
  go_enter Try.func18, Try.ntmps18
  go_wp2_with fail
  refine (path_any _ _ _).mono ?_
  rintro e w1 ⟨rfl, hb⟩
  have K0 := Blk.on (g := w.heap.size) (t := 30) (cs := #[.bool false, .int .i64 x]) (by repeat (first | exact Blk.at_ _ _ _ (by simp) | refine Blk.alloc ?_ _)) hb; obtain ⟨c0, f0⟩ := K0.cf; have K1 := Blk.on (g := w.heap.size + 1) (t := 30) (cs := #[.bool false, .int .i64 x']) (by repeat (first | exact Blk.at_ _ _ _ (by simp) | refine Blk.alloc ?_ _)) hb; obtain ⟨c1, f1⟩ := K1.cf; have z1 : w.heap.size ≤ w1.heap.size := Nat.le_trans (by first | omega | (simp; done) | (simp; omega)) hb.size
  go_wp2_with fail
  refine (path_any _ _ _).mono ?_
  rintro e w2 ⟨rfl, hb2⟩
  have L0 := K0.on hb2; obtain ⟨d0, g0⟩ := L0.cf; have L1 := K1.on hb2; obtain ⟨d1, g1⟩ := L1.cf
  go_wp2_with fail
  all_goals
    go_ret
    refine ⟨?_, ?_⟩
    · first | rfl | (simp [underB]; done) | (simp [underB, *]; done) | (simp [underB, *]; omega) | (simp [underB]; omega)
    · repeat (first | exact Below.refl _ _ | refine Below.setCell ?_ (by first | omega | (simp; done) | (simp; omega)) _ | refine Below.alloc ?_ (by first | omega | (simp; done) | (simp; omega)) _ | refine Below.drew ?_ | refine below_drewN ?_ _ | refine below_after ?_ (by assumption) (by first | omega | (simp; done) | (simp; omega)))


theorem under_any (o : Bool) (x : Int) (o' : Bool) (x' : Int) (hx : pathB x = true) (hx' : pathB x' = true) (w : World) :
    Calls Try.prog 18 #[pv o x, pv o' x'] w fun e w' => e = .returned (.bool (underB o x o' x')) ∧ Below w.heap.size w w' := by
  cases o <;> cases o'
  · exact under_false_false x x' hx hx' w
  · exact under_false_true x x' hx hx' w
  · exact under_true_false x x' hx hx' w
  · exact under_true_true x x' hx hx' w


set_option maxHeartbeats 400000 in
theorem alive_any (w : World) :
    Calls Try.prog 7 #[] w fun e w' => e = .returned (.bool true) ∧ Below w.heap.size w w' := by
  go_enter Try.func7, Try.ntmps7
  go_wp2_with fail
  refine (apply_true 1 2 7 rfl rfl _).mono ?_
  rintro e w1 ⟨rfl, hb⟩
  have e1 : applyL true 1 7 = 1 := rfl
  have z1 : w.heap.size ≤ w1.heap.size := hb.size
  go_wp2_with fail
  go_ret
  refine ⟨rfl, ?_⟩
  repeat (first | exact Below.refl _ _ | refine Below.setCell ?_ (by first | omega | (simp; done) | (simp; omega)) _ | refine Below.alloc ?_ (by first | omega | (simp; done) | (simp; omega)) _ | refine Below.drew ?_ | refine below_drewN ?_ _ | refine below_after ?_ (by assumption) (by first | omega | (simp; done) | (simp; omega)))

end Go.Proofs.Ytpmkbhmmdfkhpaa