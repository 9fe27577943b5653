/-
  TimeRises: what stands ahead stays ahead along a way, and a way that is under another one leads ahead of it, for all ways and times; the call returns true and changes nothing that was in memory.
-/
import Derived.Test.YtpmkbhmmdfkhpaaPtime2
import Derived.Test.YtpmkbhmmdfkhpaaRow
namespace Go.Proofs.Ytpmkbhmmdfkhpaa
open Go.ChangeShapes Go.WideShapes Go.ChangeAt Go.RowKit Go.Joins

theorem apply_rises (o : Bool) (x a l a' l' : Int) (h : lessB a l a' l' = true) : lessB a (applyL o x l) a' (applyL o x l') = true := by
  cases o <;> simp [lessB, applyL] at h ⊢ <;> omega
theorem apply_may (o : Bool) (x a l : Int) (h : pathB x = true) (hm : mayB a l = true) : mayB a (applyL o x l) = true := by
  cases o <;> simp [pathB, mayB, applyL] at h hm ⊢ <;> omega
theorem apply_under (o : Bool) (x : Int) (o' : Bool) (x' a l : Int) (hx : pathB x = true) (hx' : pathB x' = true) (hm : mayB a l = true) (h : underB o x o' x' = true) : lessB a (applyL o x l) a (applyL o' x' l) = true := by
  cases o <;> cases o' <;> simp [pathB, mayB, applyL, underB, lessB] at hx hx' hm h ⊢ <;> omega
theorem under_self (o : Bool) (x : Int) : underB o x o x = true := by
  cases o <;> simp [underB]

set_option maxHeartbeats 400000 in
theorem rises_early0 (o0 : Bool) (x0 : Int) (o1 : Bool) (x1 a2 b2 a3 b3 : Int) (hp : pathB x0 = false) (w : World) :
    Calls Try.prog 5 #[pv o0 x0, pv o1 x1, tv a2 b2, tv a3 b3] w fun e w' => e = .returned (.bool true) ∧ Below w.heap.size w w' := by
  go_enter Try.func5, Try.ntmps5
  go_wp2_with fail
  refine (alive_any _).mono ?_
  rintro e w1 ⟨rfl, hb⟩
  have K0 := Blk.on (g := w.heap.size) (t := 30) (cs := #[.bool o0, .int .i64 x0]) (by repeat (first | exact Blk.at_ _ _ _ (by simp) | refine Blk.alloc ?_ _)) hb
  have K1 := Blk.on (g := w.heap.size + 1) (t := 30) (cs := #[.bool o1, .int .i64 x1]) (by repeat (first | exact Blk.at_ _ _ _ (by simp) | refine Blk.alloc ?_ _)) hb
  have K2 := Blk.on (g := w.heap.size + 1 + 1) (t := 23) (cs := #[.int .i64 a2, .int .i64 b2]) (by repeat (first | exact Blk.at_ _ _ _ (by simp) | refine Blk.alloc ?_ _)) hb
  have K3 := Blk.on (g := w.heap.size + 1 + 1 + 1) (t := 23) (cs := #[.int .i64 a3, .int .i64 b3]) (by repeat (first | exact Blk.at_ _ _ _ (by simp) | refine Blk.alloc ?_ _)) hb
  have HB : Below w.heap.size w w1 := by repeat (first | exact Below.refl _ _ | refine Below.setCell ?_ (by first | omega | (simp; done) | (simp; omega)) _ | refine Below.alloc ?_ (by first | omega | (simp; done) | (simp; omega)) _ | refine Below.drew ?_ | refine below_drewN ?_ _ | refine below_after ?_ (by assumption) (by first | omega | (simp; done) | (simp; omega)))
  have c0 := K0.c
  have z0 := K0.lt
  have c1 := K1.c
  have z1 := K1.lt
  have c2 := K2.c
  have z2 := K2.lt
  have c3 := K3.c
  have z3 := K3.lt
  clear hb
  go_wp2_with fail
  refine (rpath_any _ _ _).mono ?_
  rintro e w2 ⟨rfl, hb⟩
  have K0 := (K0).on hb
  have K1 := (K1).on hb
  have K2 := (K2).on hb
  have K3 := (K3).on hb
  have HB := below_after HB hb HB.size
  clear hb
  have c0 := K0.c
  have z0 := K0.lt
  have c1 := K1.c
  have z1 := K1.lt
  have c2 := K2.c
  have z2 := K2.lt
  have c3 := K3.c
  have z3 := K3.lt
  go_wp2_with fail
  go_ret
  exact ⟨rfl, HB⟩

set_option maxHeartbeats 400000 in
theorem rises_early1 (o0 : Bool) (x0 : Int) (o1 : Bool) (x1 a2 b2 a3 b3 : Int) (hp : pathB x0 = true) (hq : pathB x1 = false) (w : World) :
    Calls Try.prog 5 #[pv o0 x0, pv o1 x1, tv a2 b2, tv a3 b3] w fun e w' => e = .returned (.bool true) ∧ Below w.heap.size w w' := by
  go_enter Try.func5, Try.ntmps5
  go_wp2_with fail
  refine (alive_any _).mono ?_
  rintro e w1 ⟨rfl, hb⟩
  have K0 := Blk.on (g := w.heap.size) (t := 30) (cs := #[.bool o0, .int .i64 x0]) (by repeat (first | exact Blk.at_ _ _ _ (by simp) | refine Blk.alloc ?_ _)) hb
  have K1 := Blk.on (g := w.heap.size + 1) (t := 30) (cs := #[.bool o1, .int .i64 x1]) (by repeat (first | exact Blk.at_ _ _ _ (by simp) | refine Blk.alloc ?_ _)) hb
  have K2 := Blk.on (g := w.heap.size + 1 + 1) (t := 23) (cs := #[.int .i64 a2, .int .i64 b2]) (by repeat (first | exact Blk.at_ _ _ _ (by simp) | refine Blk.alloc ?_ _)) hb
  have K3 := Blk.on (g := w.heap.size + 1 + 1 + 1) (t := 23) (cs := #[.int .i64 a3, .int .i64 b3]) (by repeat (first | exact Blk.at_ _ _ _ (by simp) | refine Blk.alloc ?_ _)) hb
  have HB : Below w.heap.size w w1 := by repeat (first | exact Below.refl _ _ | refine Below.setCell ?_ (by first | omega | (simp; done) | (simp; omega)) _ | refine Below.alloc ?_ (by first | omega | (simp; done) | (simp; omega)) _ | refine Below.drew ?_ | refine below_drewN ?_ _ | refine below_after ?_ (by assumption) (by first | omega | (simp; done) | (simp; omega)))
  have c0 := K0.c
  have z0 := K0.lt
  have c1 := K1.c
  have z1 := K1.lt
  have c2 := K2.c
  have z2 := K2.lt
  have c3 := K3.c
  have z3 := K3.lt
  clear hb
  go_wp2_with fail
  refine (rpath_any _ _ _).mono ?_
  rintro e w2 ⟨rfl, hb⟩
  have K0 := (K0).on hb
  have K1 := (K1).on hb
  have K2 := (K2).on hb
  have K3 := (K3).on hb
  have HB := below_after HB hb HB.size
  clear hb
  have c0 := K0.c
  have z0 := K0.lt
  have c1 := K1.c
  have z1 := K1.lt
  have c2 := K2.c
  have z2 := K2.lt
  have c3 := K3.c
  have z3 := K3.lt
  go_wp2_with fail
  refine (rpath_any _ _ _).mono ?_
  rintro e w3 ⟨rfl, hb⟩
  have K0 := (K0).on hb
  have K1 := (K1).on hb
  have K2 := (K2).on hb
  have K3 := (K3).on hb
  have HB := below_after HB hb HB.size
  clear hb
  have c0 := K0.c
  have z0 := K0.lt
  have c1 := K1.c
  have z1 := K1.lt
  have c2 := K2.c
  have z2 := K2.lt
  have c3 := K3.c
  have z3 := K3.lt
  go_wp2_with fail
  go_ret
  exact ⟨rfl, HB⟩

set_option maxHeartbeats 400000 in
theorem rises_early2 (o0 : Bool) (x0 : Int) (o1 : Bool) (x1 a2 b2 a3 b3 : Int) (hp : pathB x0 = true) (hq : pathB x1 = true) (hs : mayB a2 b2 = false) (w : World) :
    Calls Try.prog 5 #[pv o0 x0, pv o1 x1, tv a2 b2, tv a3 b3] w fun e w' => e = .returned (.bool true) ∧ Below w.heap.size w w' := by
  go_enter Try.func5, Try.ntmps5
  go_wp2_with fail
  refine (alive_any _).mono ?_
  rintro e w1 ⟨rfl, hb⟩
  have K0 := Blk.on (g := w.heap.size) (t := 30) (cs := #[.bool o0, .int .i64 x0]) (by repeat (first | exact Blk.at_ _ _ _ (by simp) | refine Blk.alloc ?_ _)) hb
  have K1 := Blk.on (g := w.heap.size + 1) (t := 30) (cs := #[.bool o1, .int .i64 x1]) (by repeat (first | exact Blk.at_ _ _ _ (by simp) | refine Blk.alloc ?_ _)) hb
  have K2 := Blk.on (g := w.heap.size + 1 + 1) (t := 23) (cs := #[.int .i64 a2, .int .i64 b2]) (by repeat (first | exact Blk.at_ _ _ _ (by simp) | refine Blk.alloc ?_ _)) hb
  have K3 := Blk.on (g := w.heap.size + 1 + 1 + 1) (t := 23) (cs := #[.int .i64 a3, .int .i64 b3]) (by repeat (first | exact Blk.at_ _ _ _ (by simp) | refine Blk.alloc ?_ _)) hb
  have HB : Below w.heap.size w w1 := by repeat (first | exact Below.refl _ _ | refine Below.setCell ?_ (by first | omega | (simp; done) | (simp; omega)) _ | refine Below.alloc ?_ (by first | omega | (simp; done) | (simp; omega)) _ | refine Below.drew ?_ | refine below_drewN ?_ _ | refine below_after ?_ (by assumption) (by first | omega | (simp; done) | (simp; omega)))
  have c0 := K0.c
  have z0 := K0.lt
  have c1 := K1.c
  have z1 := K1.lt
  have c2 := K2.c
  have z2 := K2.lt
  have c3 := K3.c
  have z3 := K3.lt
  clear hb
  go_wp2_with fail
  refine (rpath_any _ _ _).mono ?_
  rintro e w2 ⟨rfl, hb⟩
  have K0 := (K0).on hb
  have K1 := (K1).on hb
  have K2 := (K2).on hb
  have K3 := (K3).on hb
  have HB := below_after HB hb HB.size
  clear hb
  have c0 := K0.c
  have z0 := K0.lt
  have c1 := K1.c
  have z1 := K1.lt
  have c2 := K2.c
  have z2 := K2.lt
  have c3 := K3.c
  have z3 := K3.lt
  go_wp2_with fail
  refine (rpath_any _ _ _).mono ?_
  rintro e w3 ⟨rfl, hb⟩
  have K0 := (K0).on hb
  have K1 := (K1).on hb
  have K2 := (K2).on hb
  have K3 := (K3).on hb
  have HB := below_after HB hb HB.size
  clear hb
  have c0 := K0.c
  have z0 := K0.lt
  have c1 := K1.c
  have z1 := K1.lt
  have c2 := K2.c
  have z2 := K2.lt
  have c3 := K3.c
  have z3 := K3.lt
  go_wp2_with fail
  refine (rmay_any _ _ _).mono ?_
  rintro e w4 ⟨rfl, hb⟩
  have K0 := (K0).on hb
  have K1 := (K1).on hb
  have K2 := (K2).on hb
  have K3 := (K3).on hb
  have HB := below_after HB hb HB.size
  clear hb
  have c0 := K0.c
  have z0 := K0.lt
  have c1 := K1.c
  have z1 := K1.lt
  have c2 := K2.c
  have z2 := K2.lt
  have c3 := K3.c
  have z3 := K3.lt
  go_wp2_with fail
  go_ret
  exact ⟨rfl, HB⟩

set_option maxHeartbeats 400000 in
theorem rises_early3 (o0 : Bool) (x0 : Int) (o1 : Bool) (x1 a2 b2 a3 b3 : Int) (hp : pathB x0 = true) (hq : pathB x1 = true) (hs : mayB a2 b2 = true) (ht : mayB a3 b3 = false) (w : World) :
    Calls Try.prog 5 #[pv o0 x0, pv o1 x1, tv a2 b2, tv a3 b3] w fun e w' => e = .returned (.bool true) ∧ Below w.heap.size w w' := by
  go_enter Try.func5, Try.ntmps5
  go_wp2_with fail
  refine (alive_any _).mono ?_
  rintro e w1 ⟨rfl, hb⟩
  have K0 := Blk.on (g := w.heap.size) (t := 30) (cs := #[.bool o0, .int .i64 x0]) (by repeat (first | exact Blk.at_ _ _ _ (by simp) | refine Blk.alloc ?_ _)) hb
  have K1 := Blk.on (g := w.heap.size + 1) (t := 30) (cs := #[.bool o1, .int .i64 x1]) (by repeat (first | exact Blk.at_ _ _ _ (by simp) | refine Blk.alloc ?_ _)) hb
  have K2 := Blk.on (g := w.heap.size + 1 + 1) (t := 23) (cs := #[.int .i64 a2, .int .i64 b2]) (by repeat (first | exact Blk.at_ _ _ _ (by simp) | refine Blk.alloc ?_ _)) hb
  have K3 := Blk.on (g := w.heap.size + 1 + 1 + 1) (t := 23) (cs := #[.int .i64 a3, .int .i64 b3]) (by repeat (first | exact Blk.at_ _ _ _ (by simp) | refine Blk.alloc ?_ _)) hb
  have HB : Below w.heap.size w w1 := by repeat (first | exact Below.refl _ _ | refine Below.setCell ?_ (by first | omega | (simp; done) | (simp; omega)) _ | refine Below.alloc ?_ (by first | omega | (simp; done) | (simp; omega)) _ | refine Below.drew ?_ | refine below_drewN ?_ _ | refine below_after ?_ (by assumption) (by first | omega | (simp; done) | (simp; omega)))
  have c0 := K0.c
  have z0 := K0.lt
  have c1 := K1.c
  have z1 := K1.lt
  have c2 := K2.c
  have z2 := K2.lt
  have c3 := K3.c
  have z3 := K3.lt
  clear hb
  go_wp2_with fail
  refine (rpath_any _ _ _).mono ?_
  rintro e w2 ⟨rfl, hb⟩
  have K0 := (K0).on hb
  have K1 := (K1).on hb
  have K2 := (K2).on hb
  have K3 := (K3).on hb
  have HB := below_after HB hb HB.size
  clear hb
  have c0 := K0.c
  have z0 := K0.lt
  have c1 := K1.c
  have z1 := K1.lt
  have c2 := K2.c
  have z2 := K2.lt
  have c3 := K3.c
  have z3 := K3.lt
  go_wp2_with fail
  refine (rpath_any _ _ _).mono ?_
  rintro e w3 ⟨rfl, hb⟩
  have K0 := (K0).on hb
  have K1 := (K1).on hb
  have K2 := (K2).on hb
  have K3 := (K3).on hb
  have HB := below_after HB hb HB.size
  clear hb
  have c0 := K0.c
  have z0 := K0.lt
  have c1 := K1.c
  have z1 := K1.lt
  have c2 := K2.c
  have z2 := K2.lt
  have c3 := K3.c
  have z3 := K3.lt
  go_wp2_with fail
  refine (rmay_any _ _ _).mono ?_
  rintro e w4 ⟨rfl, hb⟩
  have K0 := (K0).on hb
  have K1 := (K1).on hb
  have K2 := (K2).on hb
  have K3 := (K3).on hb
  have HB := below_after HB hb HB.size
  clear hb
  have c0 := K0.c
  have z0 := K0.lt
  have c1 := K1.c
  have z1 := K1.lt
  have c2 := K2.c
  have z2 := K2.lt
  have c3 := K3.c
  have z3 := K3.lt
  go_wp2_with fail
  refine (rmay_any _ _ _).mono ?_
  rintro e w5 ⟨rfl, hb⟩
  have K0 := (K0).on hb
  have K1 := (K1).on hb
  have K2 := (K2).on hb
  have K3 := (K3).on hb
  have HB := below_after HB hb HB.size
  clear hb
  have c0 := K0.c
  have z0 := K0.lt
  have c1 := K1.c
  have z1 := K1.lt
  have c2 := K2.c
  have z2 := K2.lt
  have c3 := K3.c
  have z3 := K3.lt
  go_wp2_with fail
  go_ret
  exact ⟨rfl, HB⟩

set_option maxHeartbeats 1000000 in
theorem rises_main00 (o0 : Bool) (x0 : Int) (o1 : Bool) (x1 a2 b2 a3 b3 : Int) (hp : pathB x0 = true) (hq : pathB x1 = true) (hs : mayB a2 b2 = true) (ht : mayB a3 b3 = true) (h1 : lessB a2 b2 a3 b3 = false) (h2 : underB o0 x0 o1 x1 = false) (h3 : underB o0 x0 o0 x0 = true) (h4 : mayB a2 (applyL o0 x0 b2) = true) (w : World) :
    Calls Try.prog 5 #[pv o0 x0, pv o1 x1, tv a2 b2, tv a3 b3] w fun e w' => e = .returned (.bool true) ∧ Below w.heap.size w w' := by
  go_enter Try.func5, Try.ntmps5
  go_wp2_with fail
  refine (alive_any _).mono ?_
  rintro e w1 ⟨rfl, hb⟩
  have K0 := Blk.on (g := w.heap.size) (t := 30) (cs := #[.bool o0, .int .i64 x0]) (by repeat (first | exact Blk.at_ _ _ _ (by simp) | refine Blk.alloc ?_ _)) hb
  have K1 := Blk.on (g := w.heap.size + 1) (t := 30) (cs := #[.bool o1, .int .i64 x1]) (by repeat (first | exact Blk.at_ _ _ _ (by simp) | refine Blk.alloc ?_ _)) hb
  have K2 := Blk.on (g := w.heap.size + 1 + 1) (t := 23) (cs := #[.int .i64 a2, .int .i64 b2]) (by repeat (first | exact Blk.at_ _ _ _ (by simp) | refine Blk.alloc ?_ _)) hb
  have K3 := Blk.on (g := w.heap.size + 1 + 1 + 1) (t := 23) (cs := #[.int .i64 a3, .int .i64 b3]) (by repeat (first | exact Blk.at_ _ _ _ (by simp) | refine Blk.alloc ?_ _)) hb
  have HB : Below w.heap.size w w1 := by repeat (first | exact Below.refl _ _ | refine Below.setCell ?_ (by first | omega | (simp; done) | (simp; omega)) _ | refine Below.alloc ?_ (by first | omega | (simp; done) | (simp; omega)) _ | refine Below.drew ?_ | refine below_drewN ?_ _ | refine below_after ?_ (by assumption) (by first | omega | (simp; done) | (simp; omega)))
  have c0 := K0.c
  have z0 := K0.lt
  have c1 := K1.c
  have z1 := K1.lt
  have c2 := K2.c
  have z2 := K2.lt
  have c3 := K3.c
  have z3 := K3.lt
  clear hb
  go_wp2_with fail
  refine (rpath_any _ _ _).mono ?_
  rintro e w2 ⟨rfl, hb⟩
  have K0 := (K0).on hb
  have K1 := (K1).on hb
  have K2 := (K2).on hb
  have K3 := (K3).on hb
  have HB := below_after HB hb HB.size
  clear hb
  have c0 := K0.c
  have z0 := K0.lt
  have c1 := K1.c
  have z1 := K1.lt
  have c2 := K2.c
  have z2 := K2.lt
  have c3 := K3.c
  have z3 := K3.lt
  go_wp2_with fail
  refine (rpath_any _ _ _).mono ?_
  rintro e w3 ⟨rfl, hb⟩
  have K0 := (K0).on hb
  have K1 := (K1).on hb
  have K2 := (K2).on hb
  have K3 := (K3).on hb
  have HB := below_after HB hb HB.size
  clear hb
  have c0 := K0.c
  have z0 := K0.lt
  have c1 := K1.c
  have z1 := K1.lt
  have c2 := K2.c
  have z2 := K2.lt
  have c3 := K3.c
  have z3 := K3.lt
  go_wp2_with fail
  refine (rmay_any _ _ _).mono ?_
  rintro e w4 ⟨rfl, hb⟩
  have K0 := (K0).on hb
  have K1 := (K1).on hb
  have K2 := (K2).on hb
  have K3 := (K3).on hb
  have HB := below_after HB hb HB.size
  clear hb
  have c0 := K0.c
  have z0 := K0.lt
  have c1 := K1.c
  have z1 := K1.lt
  have c2 := K2.c
  have z2 := K2.lt
  have c3 := K3.c
  have z3 := K3.lt
  go_wp2_with fail
  refine (rmay_any _ _ _).mono ?_
  rintro e w5 ⟨rfl, hb⟩
  have K0 := (K0).on hb
  have K1 := (K1).on hb
  have K2 := (K2).on hb
  have K3 := (K3).on hb
  have HB := below_after HB hb HB.size
  clear hb
  have c0 := K0.c
  have z0 := K0.lt
  have c1 := K1.c
  have z1 := K1.lt
  have c2 := K2.c
  have z2 := K2.lt
  have c3 := K3.c
  have z3 := K3.lt
  go_wp2_with fail
  refine (apply_any _ _ _ _ hp hs _).mono ?_
  rintro e w6 ⟨rfl, hb⟩
  have K0 := (K0).on hb
  have K1 := (K1).on hb
  have K2 := (K2).on hb
  have K3 := (K3).on hb
  have HB := below_after HB hb HB.size
  clear hb
  have c0 := K0.c
  have z0 := K0.lt
  have c1 := K1.c
  have z1 := K1.lt
  have c2 := K2.c
  have z2 := K2.lt
  have c3 := K3.c
  have z3 := K3.lt
  go_wp2_with fail
  refine (apply_any _ _ _ _ hp ht _).mono ?_
  rintro e w7 ⟨rfl, hb⟩
  have K0 := (K0.alloc _).on hb
  have K1 := (K1.alloc _).on hb
  have K2 := (K2.alloc _).on hb
  have K3 := (K3.alloc _).on hb
  have K4 := Blk.on (g := w6.heap.size) (t := 23) (cs := #[.int .i64 a2, .int .i64 (applyL o0 x0 b2)]) (by repeat (first | exact Blk.at_ _ _ _ (by simp) | refine Blk.alloc ?_ _)) hb
  have HB := below_after (HB.alloc HB.size _) hb (HB.alloc HB.size _).size
  clear hb
  have c0 := K0.c
  have z0 := K0.lt
  have c1 := K1.c
  have z1 := K1.lt
  have c2 := K2.c
  have z2 := K2.lt
  have c3 := K3.c
  have z3 := K3.lt
  have c4 := K4.c
  have z4 := K4.lt
  go_wp2_with fail
  refine (apply_any _ _ _ _ hq ht _).mono ?_
  rintro e w8 ⟨rfl, hb⟩
  have K0 := (K0.alloc _).on hb
  have K1 := (K1.alloc _).on hb
  have K2 := (K2.alloc _).on hb
  have K3 := (K3.alloc _).on hb
  have K4 := (K4.alloc _).on hb
  have K5 := Blk.on (g := w7.heap.size) (t := 23) (cs := #[.int .i64 a3, .int .i64 (applyL o0 x0 b3)]) (by repeat (first | exact Blk.at_ _ _ _ (by simp) | refine Blk.alloc ?_ _)) hb
  have HB := below_after (HB.alloc HB.size _) hb (HB.alloc HB.size _).size
  clear hb
  have c0 := K0.c
  have z0 := K0.lt
  have c1 := K1.c
  have z1 := K1.lt
  have c2 := K2.c
  have z2 := K2.lt
  have c3 := K3.c
  have z3 := K3.lt
  have c4 := K4.c
  have z4 := K4.lt
  have c5 := K5.c
  have z5 := K5.lt
  go_wp2_with fail
  refine (less_any _ _ _ _ _).mono ?_
  rintro e w9 ⟨rfl, hb⟩
  have K0 := (K0.alloc _).on hb
  have K1 := (K1.alloc _).on hb
  have K2 := (K2.alloc _).on hb
  have K3 := (K3.alloc _).on hb
  have K4 := (K4.alloc _).on hb
  have K5 := (K5.alloc _).on hb
  have K6 := Blk.on (g := w8.heap.size) (t := 23) (cs := #[.int .i64 a3, .int .i64 (applyL o1 x1 b3)]) (by repeat (first | exact Blk.at_ _ _ _ (by simp) | refine Blk.alloc ?_ _)) hb
  have HB := below_after (HB.alloc HB.size _) hb (HB.alloc HB.size _).size
  clear hb
  have c0 := K0.c
  have z0 := K0.lt
  have c1 := K1.c
  have z1 := K1.lt
  have c2 := K2.c
  have z2 := K2.lt
  have c3 := K3.c
  have z3 := K3.lt
  have c4 := K4.c
  have z4 := K4.lt
  have c5 := K5.c
  have z5 := K5.lt
  have c6 := K6.c
  have z6 := K6.lt
  go_wp2_with fail
  refine (under_any _ _ _ _ hp hq _).mono ?_
  rintro e w10 ⟨rfl, hb⟩
  have K0 := (K0).on hb
  have K1 := (K1).on hb
  have K2 := (K2).on hb
  have K3 := (K3).on hb
  have K4 := (K4).on hb
  have K5 := (K5).on hb
  have K6 := (K6).on hb
  have HB := below_after HB hb HB.size
  clear hb
  have c0 := K0.c
  have z0 := K0.lt
  have c1 := K1.c
  have z1 := K1.lt
  have c2 := K2.c
  have z2 := K2.lt
  have c3 := K3.c
  have z3 := K3.lt
  have c4 := K4.c
  have z4 := K4.lt
  have c5 := K5.c
  have z5 := K5.lt
  have c6 := K6.c
  have z6 := K6.lt
  go_wp2_with fail
  refine (under_any _ _ _ _ hp hp _).mono ?_
  rintro e w11 ⟨rfl, hb⟩
  have K0 := (K0).on hb
  have K1 := (K1).on hb
  have K2 := (K2).on hb
  have K3 := (K3).on hb
  have K4 := (K4).on hb
  have K5 := (K5).on hb
  have K6 := (K6).on hb
  have HB := below_after HB hb HB.size
  clear hb
  have c0 := K0.c
  have z0 := K0.lt
  have c1 := K1.c
  have z1 := K1.lt
  have c2 := K2.c
  have z2 := K2.lt
  have c3 := K3.c
  have z3 := K3.lt
  have c4 := K4.c
  have z4 := K4.lt
  have c5 := K5.c
  have z5 := K5.lt
  have c6 := K6.c
  have z6 := K6.lt
  go_wp2_with fail
  refine (may_any _ _ _).mono ?_
  rintro e w12 ⟨rfl, hb⟩
  have K0 := (K0).on hb
  have K1 := (K1).on hb
  have K2 := (K2).on hb
  have K3 := (K3).on hb
  have K4 := (K4).on hb
  have K5 := (K5).on hb
  have K6 := (K6).on hb
  have HB := below_after HB hb HB.size
  clear hb
  have c0 := K0.c
  have z0 := K0.lt
  have c1 := K1.c
  have z1 := K1.lt
  have c2 := K2.c
  have z2 := K2.lt
  have c3 := K3.c
  have z3 := K3.lt
  have c4 := K4.c
  have z4 := K4.lt
  have c5 := K5.c
  have z5 := K5.lt
  have c6 := K6.c
  have z6 := K6.lt
  go_wp2_with fail
  go_ret
  exact ⟨by simp, HB⟩

set_option maxHeartbeats 1000000 in
theorem rises_main01 (o0 : Bool) (x0 : Int) (o1 : Bool) (x1 a2 b2 a3 b3 : Int) (hp : pathB x0 = true) (hq : pathB x1 = true) (hs : mayB a2 b2 = true) (ht : mayB a3 b3 = true) (h1 : lessB a2 b2 a3 b3 = false) (h2 : underB o0 x0 o1 x1 = true) (k2 : lessB a3 (applyL o0 x0 b3) a3 (applyL o1 x1 b3) = true) (h3 : underB o0 x0 o0 x0 = true) (h4 : mayB a2 (applyL o0 x0 b2) = true) (w : World) :
    Calls Try.prog 5 #[pv o0 x0, pv o1 x1, tv a2 b2, tv a3 b3] w fun e w' => e = .returned (.bool true) ∧ Below w.heap.size w w' := by
  go_enter Try.func5, Try.ntmps5
  go_wp2_with fail
  refine (alive_any _).mono ?_
  rintro e w1 ⟨rfl, hb⟩
  have K0 := Blk.on (g := w.heap.size) (t := 30) (cs := #[.bool o0, .int .i64 x0]) (by repeat (first | exact Blk.at_ _ _ _ (by simp) | refine Blk.alloc ?_ _)) hb
  have K1 := Blk.on (g := w.heap.size + 1) (t := 30) (cs := #[.bool o1, .int .i64 x1]) (by repeat (first | exact Blk.at_ _ _ _ (by simp) | refine Blk.alloc ?_ _)) hb
  have K2 := Blk.on (g := w.heap.size + 1 + 1) (t := 23) (cs := #[.int .i64 a2, .int .i64 b2]) (by repeat (first | exact Blk.at_ _ _ _ (by simp) | refine Blk.alloc ?_ _)) hb
  have K3 := Blk.on (g := w.heap.size + 1 + 1 + 1) (t := 23) (cs := #[.int .i64 a3, .int .i64 b3]) (by repeat (first | exact Blk.at_ _ _ _ (by simp) | refine Blk.alloc ?_ _)) hb
  have HB : Below w.heap.size w w1 := by repeat (first | exact Below.refl _ _ | refine Below.setCell ?_ (by first | omega | (simp; done) | (simp; omega)) _ | refine Below.alloc ?_ (by first | omega | (simp; done) | (simp; omega)) _ | refine Below.drew ?_ | refine below_drewN ?_ _ | refine below_after ?_ (by assumption) (by first | omega | (simp; done) | (simp; omega)))
  have c0 := K0.c
  have z0 := K0.lt
  have c1 := K1.c
  have z1 := K1.lt
  have c2 := K2.c
  have z2 := K2.lt
  have c3 := K3.c
  have z3 := K3.lt
  clear hb
  go_wp2_with fail
  refine (rpath_any _ _ _).mono ?_
  rintro e w2 ⟨rfl, hb⟩
  have K0 := (K0).on hb
  have K1 := (K1).on hb
  have K2 := (K2).on hb
  have K3 := (K3).on hb
  have HB := below_after HB hb HB.size
  clear hb
  have c0 := K0.c
  have z0 := K0.lt
  have c1 := K1.c
  have z1 := K1.lt
  have c2 := K2.c
  have z2 := K2.lt
  have c3 := K3.c
  have z3 := K3.lt
  go_wp2_with fail
  refine (rpath_any _ _ _).mono ?_
  rintro e w3 ⟨rfl, hb⟩
  have K0 := (K0).on hb
  have K1 := (K1).on hb
  have K2 := (K2).on hb
  have K3 := (K3).on hb
  have HB := below_after HB hb HB.size
  clear hb
  have c0 := K0.c
  have z0 := K0.lt
  have c1 := K1.c
  have z1 := K1.lt
  have c2 := K2.c
  have z2 := K2.lt
  have c3 := K3.c
  have z3 := K3.lt
  go_wp2_with fail
  refine (rmay_any _ _ _).mono ?_
  rintro e w4 ⟨rfl, hb⟩
  have K0 := (K0).on hb
  have K1 := (K1).on hb
  have K2 := (K2).on hb
  have K3 := (K3).on hb
  have HB := below_after HB hb HB.size
  clear hb
  have c0 := K0.c
  have z0 := K0.lt
  have c1 := K1.c
  have z1 := K1.lt
  have c2 := K2.c
  have z2 := K2.lt
  have c3 := K3.c
  have z3 := K3.lt
  go_wp2_with fail
  refine (rmay_any _ _ _).mono ?_
  rintro e w5 ⟨rfl, hb⟩
  have K0 := (K0).on hb
  have K1 := (K1).on hb
  have K2 := (K2).on hb
  have K3 := (K3).on hb
  have HB := below_after HB hb HB.size
  clear hb
  have c0 := K0.c
  have z0 := K0.lt
  have c1 := K1.c
  have z1 := K1.lt
  have c2 := K2.c
  have z2 := K2.lt
  have c3 := K3.c
  have z3 := K3.lt
  go_wp2_with fail
  refine (apply_any _ _ _ _ hp hs _).mono ?_
  rintro e w6 ⟨rfl, hb⟩
  have K0 := (K0).on hb
  have K1 := (K1).on hb
  have K2 := (K2).on hb
  have K3 := (K3).on hb
  have HB := below_after HB hb HB.size
  clear hb
  have c0 := K0.c
  have z0 := K0.lt
  have c1 := K1.c
  have z1 := K1.lt
  have c2 := K2.c
  have z2 := K2.lt
  have c3 := K3.c
  have z3 := K3.lt
  go_wp2_with fail
  refine (apply_any _ _ _ _ hp ht _).mono ?_
  rintro e w7 ⟨rfl, hb⟩
  have K0 := (K0.alloc _).on hb
  have K1 := (K1.alloc _).on hb
  have K2 := (K2.alloc _).on hb
  have K3 := (K3.alloc _).on hb
  have K4 := Blk.on (g := w6.heap.size) (t := 23) (cs := #[.int .i64 a2, .int .i64 (applyL o0 x0 b2)]) (by repeat (first | exact Blk.at_ _ _ _ (by simp) | refine Blk.alloc ?_ _)) hb
  have HB := below_after (HB.alloc HB.size _) hb (HB.alloc HB.size _).size
  clear hb
  have c0 := K0.c
  have z0 := K0.lt
  have c1 := K1.c
  have z1 := K1.lt
  have c2 := K2.c
  have z2 := K2.lt
  have c3 := K3.c
  have z3 := K3.lt
  have c4 := K4.c
  have z4 := K4.lt
  go_wp2_with fail
  refine (apply_any _ _ _ _ hq ht _).mono ?_
  rintro e w8 ⟨rfl, hb⟩
  have K0 := (K0.alloc _).on hb
  have K1 := (K1.alloc _).on hb
  have K2 := (K2.alloc _).on hb
  have K3 := (K3.alloc _).on hb
  have K4 := (K4.alloc _).on hb
  have K5 := Blk.on (g := w7.heap.size) (t := 23) (cs := #[.int .i64 a3, .int .i64 (applyL o0 x0 b3)]) (by repeat (first | exact Blk.at_ _ _ _ (by simp) | refine Blk.alloc ?_ _)) hb
  have HB := below_after (HB.alloc HB.size _) hb (HB.alloc HB.size _).size
  clear hb
  have c0 := K0.c
  have z0 := K0.lt
  have c1 := K1.c
  have z1 := K1.lt
  have c2 := K2.c
  have z2 := K2.lt
  have c3 := K3.c
  have z3 := K3.lt
  have c4 := K4.c
  have z4 := K4.lt
  have c5 := K5.c
  have z5 := K5.lt
  go_wp2_with fail
  refine (less_any _ _ _ _ _).mono ?_
  rintro e w9 ⟨rfl, hb⟩
  have K0 := (K0.alloc _).on hb
  have K1 := (K1.alloc _).on hb
  have K2 := (K2.alloc _).on hb
  have K3 := (K3.alloc _).on hb
  have K4 := (K4.alloc _).on hb
  have K5 := (K5.alloc _).on hb
  have K6 := Blk.on (g := w8.heap.size) (t := 23) (cs := #[.int .i64 a3, .int .i64 (applyL o1 x1 b3)]) (by repeat (first | exact Blk.at_ _ _ _ (by simp) | refine Blk.alloc ?_ _)) hb
  have HB := below_after (HB.alloc HB.size _) hb (HB.alloc HB.size _).size
  clear hb
  have c0 := K0.c
  have z0 := K0.lt
  have c1 := K1.c
  have z1 := K1.lt
  have c2 := K2.c
  have z2 := K2.lt
  have c3 := K3.c
  have z3 := K3.lt
  have c4 := K4.c
  have z4 := K4.lt
  have c5 := K5.c
  have z5 := K5.lt
  have c6 := K6.c
  have z6 := K6.lt
  go_wp2_with fail
  refine (under_any _ _ _ _ hp hq _).mono ?_
  rintro e w10 ⟨rfl, hb⟩
  have K0 := (K0).on hb
  have K1 := (K1).on hb
  have K2 := (K2).on hb
  have K3 := (K3).on hb
  have K4 := (K4).on hb
  have K5 := (K5).on hb
  have K6 := (K6).on hb
  have HB := below_after HB hb HB.size
  clear hb
  have c0 := K0.c
  have z0 := K0.lt
  have c1 := K1.c
  have z1 := K1.lt
  have c2 := K2.c
  have z2 := K2.lt
  have c3 := K3.c
  have z3 := K3.lt
  have c4 := K4.c
  have z4 := K4.lt
  have c5 := K5.c
  have z5 := K5.lt
  have c6 := K6.c
  have z6 := K6.lt
  go_wp2_with fail
  refine (less_any _ _ _ _ _).mono ?_
  rintro e w11 ⟨rfl, hb⟩
  have K0 := (K0).on hb
  have K1 := (K1).on hb
  have K2 := (K2).on hb
  have K3 := (K3).on hb
  have K4 := (K4).on hb
  have K5 := (K5).on hb
  have K6 := (K6).on hb
  have HB := below_after HB hb HB.size
  clear hb
  have c0 := K0.c
  have z0 := K0.lt
  have c1 := K1.c
  have z1 := K1.lt
  have c2 := K2.c
  have z2 := K2.lt
  have c3 := K3.c
  have z3 := K3.lt
  have c4 := K4.c
  have z4 := K4.lt
  have c5 := K5.c
  have z5 := K5.lt
  have c6 := K6.c
  have z6 := K6.lt
  go_wp2_with fail
  refine (under_any _ _ _ _ hp hp _).mono ?_
  rintro e w12 ⟨rfl, hb⟩
  have K0 := (K0).on hb
  have K1 := (K1).on hb
  have K2 := (K2).on hb
  have K3 := (K3).on hb
  have K4 := (K4).on hb
  have K5 := (K5).on hb
  have K6 := (K6).on hb
  have HB := below_after HB hb HB.size
  clear hb
  have c0 := K0.c
  have z0 := K0.lt
  have c1 := K1.c
  have z1 := K1.lt
  have c2 := K2.c
  have z2 := K2.lt
  have c3 := K3.c
  have z3 := K3.lt
  have c4 := K4.c
  have z4 := K4.lt
  have c5 := K5.c
  have z5 := K5.lt
  have c6 := K6.c
  have z6 := K6.lt
  go_wp2_with fail
  refine (may_any _ _ _).mono ?_
  rintro e w13 ⟨rfl, hb⟩
  have K0 := (K0).on hb
  have K1 := (K1).on hb
  have K2 := (K2).on hb
  have K3 := (K3).on hb
  have K4 := (K4).on hb
  have K5 := (K5).on hb
  have K6 := (K6).on hb
  have HB := below_after HB hb HB.size
  clear hb
  have c0 := K0.c
  have z0 := K0.lt
  have c1 := K1.c
  have z1 := K1.lt
  have c2 := K2.c
  have z2 := K2.lt
  have c3 := K3.c
  have z3 := K3.lt
  have c4 := K4.c
  have z4 := K4.lt
  have c5 := K5.c
  have z5 := K5.lt
  have c6 := K6.c
  have z6 := K6.lt
  go_wp2_with fail
  go_ret
  exact ⟨by simp, HB⟩

set_option maxHeartbeats 1000000 in
theorem rises_main10 (o0 : Bool) (x0 : Int) (o1 : Bool) (x1 a2 b2 a3 b3 : Int) (hp : pathB x0 = true) (hq : pathB x1 = true) (hs : mayB a2 b2 = true) (ht : mayB a3 b3 = true) (h1 : lessB a2 b2 a3 b3 = true) (k1 : lessB a2 (applyL o0 x0 b2) a3 (applyL o0 x0 b3) = true) (h2 : underB o0 x0 o1 x1 = false) (h3 : underB o0 x0 o0 x0 = true) (h4 : mayB a2 (applyL o0 x0 b2) = true) (w : World) :
    Calls Try.prog 5 #[pv o0 x0, pv o1 x1, tv a2 b2, tv a3 b3] w fun e w' => e = .returned (.bool true) ∧ Below w.heap.size w w' := by
  go_enter Try.func5, Try.ntmps5
  go_wp2_with fail
  refine (alive_any _).mono ?_
  rintro e w1 ⟨rfl, hb⟩
  have K0 := Blk.on (g := w.heap.size) (t := 30) (cs := #[.bool o0, .int .i64 x0]) (by repeat (first | exact Blk.at_ _ _ _ (by simp) | refine Blk.alloc ?_ _)) hb
  have K1 := Blk.on (g := w.heap.size + 1) (t := 30) (cs := #[.bool o1, .int .i64 x1]) (by repeat (first | exact Blk.at_ _ _ _ (by simp) | refine Blk.alloc ?_ _)) hb
  have K2 := Blk.on (g := w.heap.size + 1 + 1) (t := 23) (cs := #[.int .i64 a2, .int .i64 b2]) (by repeat (first | exact Blk.at_ _ _ _ (by simp) | refine Blk.alloc ?_ _)) hb
  have K3 := Blk.on (g := w.heap.size + 1 + 1 + 1) (t := 23) (cs := #[.int .i64 a3, .int .i64 b3]) (by repeat (first | exact Blk.at_ _ _ _ (by simp) | refine Blk.alloc ?_ _)) hb
  have HB : Below w.heap.size w w1 := by repeat (first | exact Below.refl _ _ | refine Below.setCell ?_ (by first | omega | (simp; done) | (simp; omega)) _ | refine Below.alloc ?_ (by first | omega | (simp; done) | (simp; omega)) _ | refine Below.drew ?_ | refine below_drewN ?_ _ | refine below_after ?_ (by assumption) (by first | omega | (simp; done) | (simp; omega)))
  have c0 := K0.c
  have z0 := K0.lt
  have c1 := K1.c
  have z1 := K1.lt
  have c2 := K2.c
  have z2 := K2.lt
  have c3 := K3.c
  have z3 := K3.lt
  clear hb
  go_wp2_with fail
  refine (rpath_any _ _ _).mono ?_
  rintro e w2 ⟨rfl, hb⟩
  have K0 := (K0).on hb
  have K1 := (K1).on hb
  have K2 := (K2).on hb
  have K3 := (K3).on hb
  have HB := below_after HB hb HB.size
  clear hb
  have c0 := K0.c
  have z0 := K0.lt
  have c1 := K1.c
  have z1 := K1.lt
  have c2 := K2.c
  have z2 := K2.lt
  have c3 := K3.c
  have z3 := K3.lt
  go_wp2_with fail
  refine (rpath_any _ _ _).mono ?_
  rintro e w3 ⟨rfl, hb⟩
  have K0 := (K0).on hb
  have K1 := (K1).on hb
  have K2 := (K2).on hb
  have K3 := (K3).on hb
  have HB := below_after HB hb HB.size
  clear hb
  have c0 := K0.c
  have z0 := K0.lt
  have c1 := K1.c
  have z1 := K1.lt
  have c2 := K2.c
  have z2 := K2.lt
  have c3 := K3.c
  have z3 := K3.lt
  go_wp2_with fail
  refine (rmay_any _ _ _).mono ?_
  rintro e w4 ⟨rfl, hb⟩
  have K0 := (K0).on hb
  have K1 := (K1).on hb
  have K2 := (K2).on hb
  have K3 := (K3).on hb
  have HB := below_after HB hb HB.size
  clear hb
  have c0 := K0.c
  have z0 := K0.lt
  have c1 := K1.c
  have z1 := K1.lt
  have c2 := K2.c
  have z2 := K2.lt
  have c3 := K3.c
  have z3 := K3.lt
  go_wp2_with fail
  refine (rmay_any _ _ _).mono ?_
  rintro e w5 ⟨rfl, hb⟩
  have K0 := (K0).on hb
  have K1 := (K1).on hb
  have K2 := (K2).on hb
  have K3 := (K3).on hb
  have HB := below_after HB hb HB.size
  clear hb
  have c0 := K0.c
  have z0 := K0.lt
  have c1 := K1.c
  have z1 := K1.lt
  have c2 := K2.c
  have z2 := K2.lt
  have c3 := K3.c
  have z3 := K3.lt
  go_wp2_with fail
  refine (apply_any _ _ _ _ hp hs _).mono ?_
  rintro e w6 ⟨rfl, hb⟩
  have K0 := (K0).on hb
  have K1 := (K1).on hb
  have K2 := (K2).on hb
  have K3 := (K3).on hb
  have HB := below_after HB hb HB.size
  clear hb
  have c0 := K0.c
  have z0 := K0.lt
  have c1 := K1.c
  have z1 := K1.lt
  have c2 := K2.c
  have z2 := K2.lt
  have c3 := K3.c
  have z3 := K3.lt
  go_wp2_with fail
  refine (apply_any _ _ _ _ hp ht _).mono ?_
  rintro e w7 ⟨rfl, hb⟩
  have K0 := (K0.alloc _).on hb
  have K1 := (K1.alloc _).on hb
  have K2 := (K2.alloc _).on hb
  have K3 := (K3.alloc _).on hb
  have K4 := Blk.on (g := w6.heap.size) (t := 23) (cs := #[.int .i64 a2, .int .i64 (applyL o0 x0 b2)]) (by repeat (first | exact Blk.at_ _ _ _ (by simp) | refine Blk.alloc ?_ _)) hb
  have HB := below_after (HB.alloc HB.size _) hb (HB.alloc HB.size _).size
  clear hb
  have c0 := K0.c
  have z0 := K0.lt
  have c1 := K1.c
  have z1 := K1.lt
  have c2 := K2.c
  have z2 := K2.lt
  have c3 := K3.c
  have z3 := K3.lt
  have c4 := K4.c
  have z4 := K4.lt
  go_wp2_with fail
  refine (apply_any _ _ _ _ hq ht _).mono ?_
  rintro e w8 ⟨rfl, hb⟩
  have K0 := (K0.alloc _).on hb
  have K1 := (K1.alloc _).on hb
  have K2 := (K2.alloc _).on hb
  have K3 := (K3.alloc _).on hb
  have K4 := (K4.alloc _).on hb
  have K5 := Blk.on (g := w7.heap.size) (t := 23) (cs := #[.int .i64 a3, .int .i64 (applyL o0 x0 b3)]) (by repeat (first | exact Blk.at_ _ _ _ (by simp) | refine Blk.alloc ?_ _)) hb
  have HB := below_after (HB.alloc HB.size _) hb (HB.alloc HB.size _).size
  clear hb
  have c0 := K0.c
  have z0 := K0.lt
  have c1 := K1.c
  have z1 := K1.lt
  have c2 := K2.c
  have z2 := K2.lt
  have c3 := K3.c
  have z3 := K3.lt
  have c4 := K4.c
  have z4 := K4.lt
  have c5 := K5.c
  have z5 := K5.lt
  go_wp2_with fail
  refine (less_any _ _ _ _ _).mono ?_
  rintro e w9 ⟨rfl, hb⟩
  have K0 := (K0.alloc _).on hb
  have K1 := (K1.alloc _).on hb
  have K2 := (K2.alloc _).on hb
  have K3 := (K3.alloc _).on hb
  have K4 := (K4.alloc _).on hb
  have K5 := (K5.alloc _).on hb
  have K6 := Blk.on (g := w8.heap.size) (t := 23) (cs := #[.int .i64 a3, .int .i64 (applyL o1 x1 b3)]) (by repeat (first | exact Blk.at_ _ _ _ (by simp) | refine Blk.alloc ?_ _)) hb
  have HB := below_after (HB.alloc HB.size _) hb (HB.alloc HB.size _).size
  clear hb
  have c0 := K0.c
  have z0 := K0.lt
  have c1 := K1.c
  have z1 := K1.lt
  have c2 := K2.c
  have z2 := K2.lt
  have c3 := K3.c
  have z3 := K3.lt
  have c4 := K4.c
  have z4 := K4.lt
  have c5 := K5.c
  have z5 := K5.lt
  have c6 := K6.c
  have z6 := K6.lt
  go_wp2_with fail
  refine (less_any _ _ _ _ _).mono ?_
  rintro e w10 ⟨rfl, hb⟩
  have K0 := (K0).on hb
  have K1 := (K1).on hb
  have K2 := (K2).on hb
  have K3 := (K3).on hb
  have K4 := (K4).on hb
  have K5 := (K5).on hb
  have K6 := (K6).on hb
  have HB := below_after HB hb HB.size
  clear hb
  have c0 := K0.c
  have z0 := K0.lt
  have c1 := K1.c
  have z1 := K1.lt
  have c2 := K2.c
  have z2 := K2.lt
  have c3 := K3.c
  have z3 := K3.lt
  have c4 := K4.c
  have z4 := K4.lt
  have c5 := K5.c
  have z5 := K5.lt
  have c6 := K6.c
  have z6 := K6.lt
  go_wp2_with fail
  refine (under_any _ _ _ _ hp hq _).mono ?_
  rintro e w11 ⟨rfl, hb⟩
  have K0 := (K0).on hb
  have K1 := (K1).on hb
  have K2 := (K2).on hb
  have K3 := (K3).on hb
  have K4 := (K4).on hb
  have K5 := (K5).on hb
  have K6 := (K6).on hb
  have HB := below_after HB hb HB.size
  clear hb
  have c0 := K0.c
  have z0 := K0.lt
  have c1 := K1.c
  have z1 := K1.lt
  have c2 := K2.c
  have z2 := K2.lt
  have c3 := K3.c
  have z3 := K3.lt
  have c4 := K4.c
  have z4 := K4.lt
  have c5 := K5.c
  have z5 := K5.lt
  have c6 := K6.c
  have z6 := K6.lt
  go_wp2_with fail
  refine (under_any _ _ _ _ hp hp _).mono ?_
  rintro e w12 ⟨rfl, hb⟩
  have K0 := (K0).on hb
  have K1 := (K1).on hb
  have K2 := (K2).on hb
  have K3 := (K3).on hb
  have K4 := (K4).on hb
  have K5 := (K5).on hb
  have K6 := (K6).on hb
  have HB := below_after HB hb HB.size
  clear hb
  have c0 := K0.c
  have z0 := K0.lt
  have c1 := K1.c
  have z1 := K1.lt
  have c2 := K2.c
  have z2 := K2.lt
  have c3 := K3.c
  have z3 := K3.lt
  have c4 := K4.c
  have z4 := K4.lt
  have c5 := K5.c
  have z5 := K5.lt
  have c6 := K6.c
  have z6 := K6.lt
  go_wp2_with fail
  refine (may_any _ _ _).mono ?_
  rintro e w13 ⟨rfl, hb⟩
  have K0 := (K0).on hb
  have K1 := (K1).on hb
  have K2 := (K2).on hb
  have K3 := (K3).on hb
  have K4 := (K4).on hb
  have K5 := (K5).on hb
  have K6 := (K6).on hb
  have HB := below_after HB hb HB.size
  clear hb
  have c0 := K0.c
  have z0 := K0.lt
  have c1 := K1.c
  have z1 := K1.lt
  have c2 := K2.c
  have z2 := K2.lt
  have c3 := K3.c
  have z3 := K3.lt
  have c4 := K4.c
  have z4 := K4.lt
  have c5 := K5.c
  have z5 := K5.lt
  have c6 := K6.c
  have z6 := K6.lt
  go_wp2_with fail
  go_ret
  exact ⟨by simp, HB⟩

set_option maxHeartbeats 1000000 in
theorem rises_main11 (o0 : Bool) (x0 : Int) (o1 : Bool) (x1 a2 b2 a3 b3 : Int) (hp : pathB x0 = true) (hq : pathB x1 = true) (hs : mayB a2 b2 = true) (ht : mayB a3 b3 = true) (h1 : lessB a2 b2 a3 b3 = true) (k1 : lessB a2 (applyL o0 x0 b2) a3 (applyL o0 x0 b3) = true) (h2 : underB o0 x0 o1 x1 = true) (k2 : lessB a3 (applyL o0 x0 b3) a3 (applyL o1 x1 b3) = true) (h3 : underB o0 x0 o0 x0 = true) (h4 : mayB a2 (applyL o0 x0 b2) = true) (w : World) :
    Calls Try.prog 5 #[pv o0 x0, pv o1 x1, tv a2 b2, tv a3 b3] w fun e w' => e = .returned (.bool true) ∧ Below w.heap.size w w' := by
  go_enter Try.func5, Try.ntmps5
  go_wp2_with fail
  refine (alive_any _).mono ?_
  rintro e w1 ⟨rfl, hb⟩
  have K0 := Blk.on (g := w.heap.size) (t := 30) (cs := #[.bool o0, .int .i64 x0]) (by repeat (first | exact Blk.at_ _ _ _ (by simp) | refine Blk.alloc ?_ _)) hb
  have K1 := Blk.on (g := w.heap.size + 1) (t := 30) (cs := #[.bool o1, .int .i64 x1]) (by repeat (first | exact Blk.at_ _ _ _ (by simp) | refine Blk.alloc ?_ _)) hb
  have K2 := Blk.on (g := w.heap.size + 1 + 1) (t := 23) (cs := #[.int .i64 a2, .int .i64 b2]) (by repeat (first | exact Blk.at_ _ _ _ (by simp) | refine Blk.alloc ?_ _)) hb
  have K3 := Blk.on (g := w.heap.size + 1 + 1 + 1) (t := 23) (cs := #[.int .i64 a3, .int .i64 b3]) (by repeat (first | exact Blk.at_ _ _ _ (by simp) | refine Blk.alloc ?_ _)) hb
  have HB : Below w.heap.size w w1 := by repeat (first | exact Below.refl _ _ | refine Below.setCell ?_ (by first | omega | (simp; done) | (simp; omega)) _ | refine Below.alloc ?_ (by first | omega | (simp; done) | (simp; omega)) _ | refine Below.drew ?_ | refine below_drewN ?_ _ | refine below_after ?_ (by assumption) (by first | omega | (simp; done) | (simp; omega)))
  have c0 := K0.c
  have z0 := K0.lt
  have c1 := K1.c
  have z1 := K1.lt
  have c2 := K2.c
  have z2 := K2.lt
  have c3 := K3.c
  have z3 := K3.lt
  clear hb
  go_wp2_with fail
  refine (rpath_any _ _ _).mono ?_
  rintro e w2 ⟨rfl, hb⟩
  have K0 := (K0).on hb
  have K1 := (K1).on hb
  have K2 := (K2).on hb
  have K3 := (K3).on hb
  have HB := below_after HB hb HB.size
  clear hb
  have c0 := K0.c
  have z0 := K0.lt
  have c1 := K1.c
  have z1 := K1.lt
  have c2 := K2.c
  have z2 := K2.lt
  have c3 := K3.c
  have z3 := K3.lt
  go_wp2_with fail
  refine (rpath_any _ _ _).mono ?_
  rintro e w3 ⟨rfl, hb⟩
  have K0 := (K0).on hb
  have K1 := (K1).on hb
  have K2 := (K2).on hb
  have K3 := (K3).on hb
  have HB := below_after HB hb HB.size
  clear hb
  have c0 := K0.c
  have z0 := K0.lt
  have c1 := K1.c
  have z1 := K1.lt
  have c2 := K2.c
  have z2 := K2.lt
  have c3 := K3.c
  have z3 := K3.lt
  go_wp2_with fail
  refine (rmay_any _ _ _).mono ?_
  rintro e w4 ⟨rfl, hb⟩
  have K0 := (K0).on hb
  have K1 := (K1).on hb
  have K2 := (K2).on hb
  have K3 := (K3).on hb
  have HB := below_after HB hb HB.size
  clear hb
  have c0 := K0.c
  have z0 := K0.lt
  have c1 := K1.c
  have z1 := K1.lt
  have c2 := K2.c
  have z2 := K2.lt
  have c3 := K3.c
  have z3 := K3.lt
  go_wp2_with fail
  refine (rmay_any _ _ _).mono ?_
  rintro e w5 ⟨rfl, hb⟩
  have K0 := (K0).on hb
  have K1 := (K1).on hb
  have K2 := (K2).on hb
  have K3 := (K3).on hb
  have HB := below_after HB hb HB.size
  clear hb
  have c0 := K0.c
  have z0 := K0.lt
  have c1 := K1.c
  have z1 := K1.lt
  have c2 := K2.c
  have z2 := K2.lt
  have c3 := K3.c
  have z3 := K3.lt
  go_wp2_with fail
  refine (apply_any _ _ _ _ hp hs _).mono ?_
  rintro e w6 ⟨rfl, hb⟩
  have K0 := (K0).on hb
  have K1 := (K1).on hb
  have K2 := (K2).on hb
  have K3 := (K3).on hb
  have HB := below_after HB hb HB.size
  clear hb
  have c0 := K0.c
  have z0 := K0.lt
  have c1 := K1.c
  have z1 := K1.lt
  have c2 := K2.c
  have z2 := K2.lt
  have c3 := K3.c
  have z3 := K3.lt
  go_wp2_with fail
  refine (apply_any _ _ _ _ hp ht _).mono ?_
  rintro e w7 ⟨rfl, hb⟩
  have K0 := (K0.alloc _).on hb
  have K1 := (K1.alloc _).on hb
  have K2 := (K2.alloc _).on hb
  have K3 := (K3.alloc _).on hb
  have K4 := Blk.on (g := w6.heap.size) (t := 23) (cs := #[.int .i64 a2, .int .i64 (applyL o0 x0 b2)]) (by repeat (first | exact Blk.at_ _ _ _ (by simp) | refine Blk.alloc ?_ _)) hb
  have HB := below_after (HB.alloc HB.size _) hb (HB.alloc HB.size _).size
  clear hb
  have c0 := K0.c
  have z0 := K0.lt
  have c1 := K1.c
  have z1 := K1.lt
  have c2 := K2.c
  have z2 := K2.lt
  have c3 := K3.c
  have z3 := K3.lt
  have c4 := K4.c
  have z4 := K4.lt
  go_wp2_with fail
  refine (apply_any _ _ _ _ hq ht _).mono ?_
  rintro e w8 ⟨rfl, hb⟩
  have K0 := (K0.alloc _).on hb
  have K1 := (K1.alloc _).on hb
  have K2 := (K2.alloc _).on hb
  have K3 := (K3.alloc _).on hb
  have K4 := (K4.alloc _).on hb
  have K5 := Blk.on (g := w7.heap.size) (t := 23) (cs := #[.int .i64 a3, .int .i64 (applyL o0 x0 b3)]) (by repeat (first | exact Blk.at_ _ _ _ (by simp) | refine Blk.alloc ?_ _)) hb
  have HB := below_after (HB.alloc HB.size _) hb (HB.alloc HB.size _).size
  clear hb
  have c0 := K0.c
  have z0 := K0.lt
  have c1 := K1.c
  have z1 := K1.lt
  have c2 := K2.c
  have z2 := K2.lt
  have c3 := K3.c
  have z3 := K3.lt
  have c4 := K4.c
  have z4 := K4.lt
  have c5 := K5.c
  have z5 := K5.lt
  go_wp2_with fail
  refine (less_any _ _ _ _ _).mono ?_
  rintro e w9 ⟨rfl, hb⟩
  have K0 := (K0.alloc _).on hb
  have K1 := (K1.alloc _).on hb
  have K2 := (K2.alloc _).on hb
  have K3 := (K3.alloc _).on hb
  have K4 := (K4.alloc _).on hb
  have K5 := (K5.alloc _).on hb
  have K6 := Blk.on (g := w8.heap.size) (t := 23) (cs := #[.int .i64 a3, .int .i64 (applyL o1 x1 b3)]) (by repeat (first | exact Blk.at_ _ _ _ (by simp) | refine Blk.alloc ?_ _)) hb
  have HB := below_after (HB.alloc HB.size _) hb (HB.alloc HB.size _).size
  clear hb
  have c0 := K0.c
  have z0 := K0.lt
  have c1 := K1.c
  have z1 := K1.lt
  have c2 := K2.c
  have z2 := K2.lt
  have c3 := K3.c
  have z3 := K3.lt
  have c4 := K4.c
  have z4 := K4.lt
  have c5 := K5.c
  have z5 := K5.lt
  have c6 := K6.c
  have z6 := K6.lt
  go_wp2_with fail
  refine (less_any _ _ _ _ _).mono ?_
  rintro e w10 ⟨rfl, hb⟩
  have K0 := (K0).on hb
  have K1 := (K1).on hb
  have K2 := (K2).on hb
  have K3 := (K3).on hb
  have K4 := (K4).on hb
  have K5 := (K5).on hb
  have K6 := (K6).on hb
  have HB := below_after HB hb HB.size
  clear hb
  have c0 := K0.c
  have z0 := K0.lt
  have c1 := K1.c
  have z1 := K1.lt
  have c2 := K2.c
  have z2 := K2.lt
  have c3 := K3.c
  have z3 := K3.lt
  have c4 := K4.c
  have z4 := K4.lt
  have c5 := K5.c
  have z5 := K5.lt
  have c6 := K6.c
  have z6 := K6.lt
  go_wp2_with fail
  refine (under_any _ _ _ _ hp hq _).mono ?_
  rintro e w11 ⟨rfl, hb⟩
  have K0 := (K0).on hb
  have K1 := (K1).on hb
  have K2 := (K2).on hb
  have K3 := (K3).on hb
  have K4 := (K4).on hb
  have K5 := (K5).on hb
  have K6 := (K6).on hb
  have HB := below_after HB hb HB.size
  clear hb
  have c0 := K0.c
  have z0 := K0.lt
  have c1 := K1.c
  have z1 := K1.lt
  have c2 := K2.c
  have z2 := K2.lt
  have c3 := K3.c
  have z3 := K3.lt
  have c4 := K4.c
  have z4 := K4.lt
  have c5 := K5.c
  have z5 := K5.lt
  have c6 := K6.c
  have z6 := K6.lt
  go_wp2_with fail
  refine (less_any _ _ _ _ _).mono ?_
  rintro e w12 ⟨rfl, hb⟩
  have K0 := (K0).on hb
  have K1 := (K1).on hb
  have K2 := (K2).on hb
  have K3 := (K3).on hb
  have K4 := (K4).on hb
  have K5 := (K5).on hb
  have K6 := (K6).on hb
  have HB := below_after HB hb HB.size
  clear hb
  have c0 := K0.c
  have z0 := K0.lt
  have c1 := K1.c
  have z1 := K1.lt
  have c2 := K2.c
  have z2 := K2.lt
  have c3 := K3.c
  have z3 := K3.lt
  have c4 := K4.c
  have z4 := K4.lt
  have c5 := K5.c
  have z5 := K5.lt
  have c6 := K6.c
  have z6 := K6.lt
  go_wp2_with fail
  refine (under_any _ _ _ _ hp hp _).mono ?_
  rintro e w13 ⟨rfl, hb⟩
  have K0 := (K0).on hb
  have K1 := (K1).on hb
  have K2 := (K2).on hb
  have K3 := (K3).on hb
  have K4 := (K4).on hb
  have K5 := (K5).on hb
  have K6 := (K6).on hb
  have HB := below_after HB hb HB.size
  clear hb
  have c0 := K0.c
  have z0 := K0.lt
  have c1 := K1.c
  have z1 := K1.lt
  have c2 := K2.c
  have z2 := K2.lt
  have c3 := K3.c
  have z3 := K3.lt
  have c4 := K4.c
  have z4 := K4.lt
  have c5 := K5.c
  have z5 := K5.lt
  have c6 := K6.c
  have z6 := K6.lt
  go_wp2_with fail
  refine (may_any _ _ _).mono ?_
  rintro e w14 ⟨rfl, hb⟩
  have K0 := (K0).on hb
  have K1 := (K1).on hb
  have K2 := (K2).on hb
  have K3 := (K3).on hb
  have K4 := (K4).on hb
  have K5 := (K5).on hb
  have K6 := (K6).on hb
  have HB := below_after HB hb HB.size
  clear hb
  have c0 := K0.c
  have z0 := K0.lt
  have c1 := K1.c
  have z1 := K1.lt
  have c2 := K2.c
  have z2 := K2.lt
  have c3 := K3.c
  have z3 := K3.lt
  have c4 := K4.c
  have z4 := K4.lt
  have c5 := K5.c
  have z5 := K5.lt
  have c6 := K6.c
  have z6 := K6.lt
  go_wp2_with fail
  go_ret
  exact ⟨by simp, HB⟩

theorem timeRises_walk (o0 : Bool) (x0 : Int) (o1 : Bool) (x1 a2 b2 a3 b3 : Int) (w : World) :
    Calls Try.prog 5 #[pv o0 x0, pv o1 x1, tv a2 b2, tv a3 b3] w fun e w' => e = .returned (.bool true) ∧ Below w.heap.size w w' := by
  cases hp : pathB x0
  · exact rises_early0 o0 x0 o1 x1 a2 b2 a3 b3 hp w
  cases hq : pathB x1
  · exact rises_early1 o0 x0 o1 x1 a2 b2 a3 b3 hp hq w
  cases hs : mayB a2 b2
  · exact rises_early2 o0 x0 o1 x1 a2 b2 a3 b3 hp hq hs w
  cases ht : mayB a3 b3
  · exact rises_early3 o0 x0 o1 x1 a2 b2 a3 b3 hp hq hs ht w
  have h3 := under_self o0 x0
  have h4 := apply_may o0 x0 a2 b2 hp hs
  cases h1 : lessB a2 b2 a3 b3 <;> cases h2 : underB o0 x0 o1 x1
  · exact rises_main00 o0 x0 o1 x1 a2 b2 a3 b3 hp hq hs ht h1 h2 h3 h4 w
  · exact rises_main01 o0 x0 o1 x1 a2 b2 a3 b3 hp hq hs ht h1 h2 (apply_under o0 x0 o1 x1 a3 b3 hp hq ht h2) h3 h4 w
  · exact rises_main10 o0 x0 o1 x1 a2 b2 a3 b3 hp hq hs ht h1 (apply_rises o0 x0 a2 b2 a3 b3 h1) h2 h3 h4 w
  · exact rises_main11 o0 x0 o1 x1 a2 b2 a3 b3 hp hq hs ht h1 (apply_rises o0 x0 a2 b2 a3 b3 h1) h2 (apply_under o0 x0 o1 x1 a3 b3 hp hq ht h2) h3 h4 w


namespace timeRises
set_option maxRecDepth 100000 in
theorem contract (H : Type) (enc : TypeId × Value → H) (W : World) (base : Nat) (args : Array Value) (ds gs : List (DataW H)) (before : List MemPlace)
    (hval : ∀ (j : Nat) t v, Try.f5.params[j]? = some t → args[j]? = some v → Value.okWide Try.prog W .any base t v)
    (hW : DataW.Whole enc Try.prog Try.f5.params.toList Rows.timeRisesSpec.vars false W args.toList ds gs before) :
    Calls Try.prog 5 args W fun e W' => ∃ v, e = .returned v ∧ Rows.timeRisesSpec.post enc Try.prog Try.f5 false true false false W args v W' := by
  have hWc := hW
  obtain ⟨p, q, hA0, hV, _, _, _⟩ := hW
  have hA : DataW.TrodAll enc Try.prog W 0 (fun _ => true) true Try.f5.params.toList args.toList ds p := hA0
  clear hA0
  rw [Try.params5] at hA hval
  obtain ⟨v0, vs0, d0, ds0, p0, q0, hargs, rfl, rfl, h0, r0⟩ := trodAll_cons hA
  obtain ⟨v1, vs1, d1, ds1, p1, q1, rfl, rfl, rfl, h1, r1⟩ := trodAll_cons r0
  obtain ⟨v2, vs2, d2, ds2, p2, q2, rfl, rfl, rfl, h2, r2⟩ := trodAll_cons r1
  obtain ⟨v3, vs3, d3, ds3, p3, q3, rfl, rfl, rfl, h3, r3⟩ := trodAll_cons r2
  obtain ⟨rfl, rfl, rfl⟩ := trodAll_nil r3
  obtain rfl : args = #[v0, v1, v2, v3] := by cases args; simp_all
  obtain ⟨c0, c0', y0, y0', m0, rfl, rfl, rfl, hy0, hy0'⟩ := open_agg2 Try.underlying30 (by kernel_rfl) (by kernel_rfl : Try.prog.cellsOf 30 = 2) (hval 0 30 v0 rfl rfl) h0
  obtain ⟨a0, e0, rfl⟩ := DataW.trod_bool Try.underlying4 hy0
  obtain ⟨b0, e0', rfl, wb0⟩ := DataW.trod_int Try.underlying3 hy0'
  simp at e0 e0'
  subst e0 e0'
  obtain ⟨c1, c1', y1, y1', m1, rfl, rfl, rfl, hy1, hy1'⟩ := open_agg2 Try.underlying30 (by kernel_rfl) (by kernel_rfl : Try.prog.cellsOf 30 = 2) (hval 1 30 v1 rfl rfl) h1
  obtain ⟨a1, e1, rfl⟩ := DataW.trod_bool Try.underlying4 hy1
  obtain ⟨b1, e1', rfl, wb1⟩ := DataW.trod_int Try.underlying3 hy1'
  simp at e1 e1'
  subst e1 e1'
  obtain ⟨c2, c2', y2, y2', m2, rfl, rfl, rfl, hy2, hy2'⟩ := open_agg2 Try.underlying23 (by kernel_rfl) (by kernel_rfl : Try.prog.cellsOf 23 = 2) (hval 2 23 v2 rfl rfl) h2
  obtain ⟨a2, e2, rfl, wa2⟩ := DataW.trod_int Try.underlying3 hy2
  obtain ⟨b2, e2', rfl, wb2⟩ := DataW.trod_int Try.underlying3 hy2'
  simp at e2 e2'
  subst e2 e2'
  obtain ⟨c3, c3', y3, y3', m3, rfl, rfl, rfl, hy3, hy3'⟩ := open_agg2 Try.underlying23 (by kernel_rfl) (by kernel_rfl : Try.prog.cellsOf 23 = 2) (hval 3 23 v3 rfl rfl) h3
  obtain ⟨a3, e3, rfl, wa3⟩ := DataW.trod_int Try.underlying3 hy3
  obtain ⟨b3, e3', rfl, wb3⟩ := DataW.trod_int Try.underlying3 hy3'
  simp at e3 e3'
  subst e3 e3'
  refine (timeRises_walk a0 b0 a1 b1 a2 b2 a3 b3 W).mono fun e W' ⟨he, hb⟩ => ⟨_, he, ?_⟩
  exact post_true hWc rfl hb laidOut (readables (by kernel_rfl)) rfl Try.underlying4 (fun h => by subst h; rfl)

set_option maxRecDepth 100000 in
theorem lifted (os : Os) (started : os.Started) (H : Type) (enc : TypeId × Value → H) :
    ReturnsInHanded {} Try.checked os 5 .any (Rows.timeRisesSpec.pre6 enc Try.prog Try.f5 Rows.timeRisesRow.domain false) (Rows.timeRisesSpec.post enc Try.prog Try.f5 false true false false) := by
  refine returnsInHanded_of_change (C := Try.checked) own started (by kernel_rfl) Try.func5
    (ChangeSpec.witness6 (enc := enc) (C := Try.checked) false ⟨#[], #[.agg #[.bool false, .int .i64 0], .agg #[.bool false, .int .i64 0], .agg #[.int .i64 0, .int .i64 0], .agg #[.int .i64 0, .int .i64 0]], []⟩ 8 (by kernel_rfl) (by kernel_rfl) (by kernel_rfl) (by kernel_rfl)) ?_
  intro W base args ds gs before hval hW _ _
  exact contract H enc W base args ds gs before hval hW

theorem proved : Rows.TimeRisesSaid :=
  OpenClaim.holds_of_wide 5 Try.f5 rfl rfl rfl rfl rfl rfl rfl ⟨rfl, rfl, rfl, rfl, rfl⟩ rfl rfl rfl rfl rfl (by kernel_rfl) Try.func5 (by kernel_rfl)
    (of_decide_eq_true (by kernel_rfl)) (by unfold Func.isWrapper; first | (rw [if_pos (by decide +kernel)]; kernel_rfl) | (rw [if_neg (by decide +kernel)]; exact ⟨rfl, rfl⟩))
    (fun os started H enc _ => lifted os started H enc)
end timeRises
end Go.Proofs.Ytpmkbhmmdfkhpaa
