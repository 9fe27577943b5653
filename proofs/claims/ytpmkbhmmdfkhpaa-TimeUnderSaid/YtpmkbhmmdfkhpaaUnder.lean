/-
  TimeUnder: a way is under another one just if it leads nowhere behind it, and this goes on, for all ways and counters; the call returns true and changes nothing that was in memory.
-/
import Derived.Test.YtpmkbhmmdfkhpaaPtime2
import Derived.Test.YtpmkbhmmdfkhpaaRow
namespace Go.Proofs.Ytpmkbhmmdfkhpaa
open Go.ChangeShapes Go.WideShapes Go.ChangeAt Go.RowKit Go.Joins

theorem then_path (x : Int) (o' : Bool) (x' : Int) (h : pathB x = true) (h' : pathB x' = true) : pathB (thenA x o' x') = true := by
  cases o' <;> simp [pathB, thenA] at h h' ⊢ <;> omega
theorem under_trans (o : Bool) (x : Int) (o' : Bool) (x' : Int) (o2 : Bool) (x2 : Int) (hx : pathB x = true) (hx' : pathB x' = true) (hx2 : pathB x2 = true) (h : underB o x o' x' = true) (h' : underB o' x' o2 x2 = true) : underB o x o2 x2 = true := by
  cases o <;> cases o' <;> cases o2 <;> simp [pathB, underB] at hx hx' hx2 h h' ⊢ <;> omega
theorem under_le (o : Bool) (x : Int) (o' : Bool) (x' l : Int) (hx : pathB x = true) (hx' : pathB x' = true) (hl : 0 ≤ l) (hl' : l ≤ 1073741824) (h : underB o x o' x' = true) : applyL o x l ≤ applyL o' x' l := by
  cases o <;> cases o' <;> simp [pathB, underB, applyL] at hx hx' h ⊢ <;> omega
theorem under_then (o : Bool) (x : Int) (o' : Bool) (x' : Int) (o2 : Bool) (x2 : Int) (hx : pathB x = true) (hx' : pathB x' = true) (hx2 : pathB x2 = true) (h : underB o x o' x' = true) : underB (thenO o o2) (thenA x o2 x2) (thenO o' o2) (thenA x' o2 x2) = true := by
  cases o <;> cases o' <;> cases o2 <;> simp [pathB, underB, thenO, thenA] at hx hx' hx2 h ⊢ <;> omega
theorem then_under (o : Bool) (x : Int) (o' : Bool) (x' : Int) (o2 : Bool) (x2 : Int) (hx : pathB x = true) (hx' : pathB x' = true) (hx2 : pathB x2 = true) (h : underB o x o' x' = true) : underB (thenO o2 o) (thenA x2 o x) (thenO o2 o') (thenA x2 o' x') = true := by
  cases o <;> cases o' <;> cases o2 <;> simp [pathB, underB, thenO, thenA] at hx hx' hx2 h ⊢ <;> omega
theorem not_under (o : Bool) (x : Int) (o' : Bool) (x' : Int) (hx : pathB x = true) (hx' : pathB x' = true) (h : underB o x o' x' = false) : applyL o' x' 0 < applyL o x 0 ∨ applyL o' x' 1073741824 < applyL o x 1073741824 := by
  cases o <;> cases o' <;> simp [pathB, underB, applyL] at hx hx' h ⊢ <;> omega

set_option maxRecDepth 100000 in
set_option maxHeartbeats 400000 in
theorem under_early0 (o0 : Bool) (x0 : Int) (o1 : Bool) (x1 : Int) (o2 : Bool) (x2 l : Int) (h0 : pathB x0 = false) (w : World) :
    Calls Try.prog 6 #[pv o0 x0, pv o1 x1, pv o2 x2, .int .i64 l] w fun e w' => e = .returned (.bool true) ∧ Below w.heap.size w w' := by
  go_enter Try.func6, Try.ntmps6
  go_wp2_with fail
  refine (alive_any _).mono ?_
  rintro e w1 ⟨rfl, hb⟩
  have K0 := Blk.on (g := w.heap.size) (t := 30) (cs := #[.bool o0, .int .i64 x0]) (by repeat (first | exact Blk.at_ _ _ _ (by simp) | refine Blk.alloc ?_ _)) hb
  have K1 := Blk.on (g := w.heap.size + 1) (t := 30) (cs := #[.bool o1, .int .i64 x1]) (by repeat (first | exact Blk.at_ _ _ _ (by simp) | refine Blk.alloc ?_ _)) hb
  have K2 := Blk.on (g := w.heap.size + 1 + 1) (t := 30) (cs := #[.bool o2, .int .i64 x2]) (by repeat (first | exact Blk.at_ _ _ _ (by simp) | refine Blk.alloc ?_ _)) hb
  have HB : Below w.heap.size w w1 := by repeat (first | exact Below.refl _ _ | refine Below.setCell ?_ (by first | omega | (simp; done) | (simp; omega)) _ | refine Below.alloc ?_ (by first | omega | (simp; done) | (simp; omega)) _ | refine Below.drew ?_ | refine below_drewN ?_ _ | refine below_after ?_ (by assumption) (by first | omega | (simp; done) | (simp; omega)))
  have c0 := K0.c
  have z0 := K0.lt
  have c1 := K1.c
  have z1 := K1.lt
  have c2 := K2.c
  have z2 := K2.lt
  clear hb
  go_wp2_with fail
  refine (rpath_any _ _ _).mono ?_
  rintro e w2 ⟨rfl, hb⟩
  have K0 := (K0).on hb
  have K1 := (K1).on hb
  have K2 := (K2).on hb
  have HB := below_after HB hb HB.size
  clear hb
  have c0 := K0.c
  have z0 := K0.lt
  have c1 := K1.c
  have z1 := K1.lt
  have c2 := K2.c
  have z2 := K2.lt
  go_wp2_with fail
  go_ret
  exact ⟨rfl, HB⟩

set_option maxRecDepth 100000 in
set_option maxHeartbeats 400000 in
theorem under_early1 (o0 : Bool) (x0 : Int) (o1 : Bool) (x1 : Int) (o2 : Bool) (x2 l : Int) (h0 : pathB x0 = true) (h1 : pathB x1 = false) (w : World) :
    Calls Try.prog 6 #[pv o0 x0, pv o1 x1, pv o2 x2, .int .i64 l] w fun e w' => e = .returned (.bool true) ∧ Below w.heap.size w w' := by
  go_enter Try.func6, Try.ntmps6
  go_wp2_with fail
  refine (alive_any _).mono ?_
  rintro e w1 ⟨rfl, hb⟩
  have K0 := Blk.on (g := w.heap.size) (t := 30) (cs := #[.bool o0, .int .i64 x0]) (by repeat (first | exact Blk.at_ _ _ _ (by simp) | refine Blk.alloc ?_ _)) hb
  have K1 := Blk.on (g := w.heap.size + 1) (t := 30) (cs := #[.bool o1, .int .i64 x1]) (by repeat (first | exact Blk.at_ _ _ _ (by simp) | refine Blk.alloc ?_ _)) hb
  have K2 := Blk.on (g := w.heap.size + 1 + 1) (t := 30) (cs := #[.bool o2, .int .i64 x2]) (by repeat (first | exact Blk.at_ _ _ _ (by simp) | refine Blk.alloc ?_ _)) hb
  have HB : Below w.heap.size w w1 := by repeat (first | exact Below.refl _ _ | refine Below.setCell ?_ (by first | omega | (simp; done) | (simp; omega)) _ | refine Below.alloc ?_ (by first | omega | (simp; done) | (simp; omega)) _ | refine Below.drew ?_ | refine below_drewN ?_ _ | refine below_after ?_ (by assumption) (by first | omega | (simp; done) | (simp; omega)))
  have c0 := K0.c
  have z0 := K0.lt
  have c1 := K1.c
  have z1 := K1.lt
  have c2 := K2.c
  have z2 := K2.lt
  clear hb
  go_wp2_with fail
  refine (rpath_any _ _ _).mono ?_
  rintro e w2 ⟨rfl, hb⟩
  have K0 := (K0).on hb
  have K1 := (K1).on hb
  have K2 := (K2).on hb
  have HB := below_after HB hb HB.size
  clear hb
  have c0 := K0.c
  have z0 := K0.lt
  have c1 := K1.c
  have z1 := K1.lt
  have c2 := K2.c
  have z2 := K2.lt
  go_wp2_with fail
  refine (rpath_any _ _ _).mono ?_
  rintro e w3 ⟨rfl, hb⟩
  have K0 := (K0).on hb
  have K1 := (K1).on hb
  have K2 := (K2).on hb
  have HB := below_after HB hb HB.size
  clear hb
  have c0 := K0.c
  have z0 := K0.lt
  have c1 := K1.c
  have z1 := K1.lt
  have c2 := K2.c
  have z2 := K2.lt
  go_wp2_with fail
  go_ret
  exact ⟨rfl, HB⟩

set_option maxRecDepth 100000 in
set_option maxHeartbeats 400000 in
theorem under_early2 (o0 : Bool) (x0 : Int) (o1 : Bool) (x1 : Int) (o2 : Bool) (x2 l : Int) (h0 : pathB x0 = true) (h1 : pathB x1 = true) (h2 : pathB x2 = false) (w : World) :
    Calls Try.prog 6 #[pv o0 x0, pv o1 x1, pv o2 x2, .int .i64 l] w fun e w' => e = .returned (.bool true) ∧ Below w.heap.size w w' := by
  go_enter Try.func6, Try.ntmps6
  go_wp2_with fail
  refine (alive_any _).mono ?_
  rintro e w1 ⟨rfl, hb⟩
  have K0 := Blk.on (g := w.heap.size) (t := 30) (cs := #[.bool o0, .int .i64 x0]) (by repeat (first | exact Blk.at_ _ _ _ (by simp) | refine Blk.alloc ?_ _)) hb
  have K1 := Blk.on (g := w.heap.size + 1) (t := 30) (cs := #[.bool o1, .int .i64 x1]) (by repeat (first | exact Blk.at_ _ _ _ (by simp) | refine Blk.alloc ?_ _)) hb
  have K2 := Blk.on (g := w.heap.size + 1 + 1) (t := 30) (cs := #[.bool o2, .int .i64 x2]) (by repeat (first | exact Blk.at_ _ _ _ (by simp) | refine Blk.alloc ?_ _)) hb
  have HB : Below w.heap.size w w1 := by repeat (first | exact Below.refl _ _ | refine Below.setCell ?_ (by first | omega | (simp; done) | (simp; omega)) _ | refine Below.alloc ?_ (by first | omega | (simp; done) | (simp; omega)) _ | refine Below.drew ?_ | refine below_drewN ?_ _ | refine below_after ?_ (by assumption) (by first | omega | (simp; done) | (simp; omega)))
  have c0 := K0.c
  have z0 := K0.lt
  have c1 := K1.c
  have z1 := K1.lt
  have c2 := K2.c
  have z2 := K2.lt
  clear hb
  go_wp2_with fail
  refine (rpath_any _ _ _).mono ?_
  rintro e w2 ⟨rfl, hb⟩
  have K0 := (K0).on hb
  have K1 := (K1).on hb
  have K2 := (K2).on hb
  have HB := below_after HB hb HB.size
  clear hb
  have c0 := K0.c
  have z0 := K0.lt
  have c1 := K1.c
  have z1 := K1.lt
  have c2 := K2.c
  have z2 := K2.lt
  go_wp2_with fail
  refine (rpath_any _ _ _).mono ?_
  rintro e w3 ⟨rfl, hb⟩
  have K0 := (K0).on hb
  have K1 := (K1).on hb
  have K2 := (K2).on hb
  have HB := below_after HB hb HB.size
  clear hb
  have c0 := K0.c
  have z0 := K0.lt
  have c1 := K1.c
  have z1 := K1.lt
  have c2 := K2.c
  have z2 := K2.lt
  go_wp2_with fail
  refine (rpath_any _ _ _).mono ?_
  rintro e w4 ⟨rfl, hb⟩
  have K0 := (K0).on hb
  have K1 := (K1).on hb
  have K2 := (K2).on hb
  have HB := below_after HB hb HB.size
  clear hb
  have c0 := K0.c
  have z0 := K0.lt
  have c1 := K1.c
  have z1 := K1.lt
  have c2 := K2.c
  have z2 := K2.lt
  go_wp2_with fail
  go_ret
  exact ⟨rfl, HB⟩

set_option maxRecDepth 100000 in
set_option maxHeartbeats 400000 in
theorem under_early3 (o0 : Bool) (x0 : Int) (o1 : Bool) (x1 : Int) (o2 : Bool) (x2 l : Int) (h0 : pathB x0 = true) (h1 : pathB x1 = true) (h2 : pathB x2 = true) (hl : l < 0) (w : World) :
    Calls Try.prog 6 #[pv o0 x0, pv o1 x1, pv o2 x2, .int .i64 l] w fun e w' => e = .returned (.bool true) ∧ Below w.heap.size w w' := by
  go_enter Try.func6, Try.ntmps6
  go_wp2_with fail
  refine (alive_any _).mono ?_
  rintro e w1 ⟨rfl, hb⟩
  have K0 := Blk.on (g := w.heap.size) (t := 30) (cs := #[.bool o0, .int .i64 x0]) (by repeat (first | exact Blk.at_ _ _ _ (by simp) | refine Blk.alloc ?_ _)) hb
  have K1 := Blk.on (g := w.heap.size + 1) (t := 30) (cs := #[.bool o1, .int .i64 x1]) (by repeat (first | exact Blk.at_ _ _ _ (by simp) | refine Blk.alloc ?_ _)) hb
  have K2 := Blk.on (g := w.heap.size + 1 + 1) (t := 30) (cs := #[.bool o2, .int .i64 x2]) (by repeat (first | exact Blk.at_ _ _ _ (by simp) | refine Blk.alloc ?_ _)) hb
  have HB : Below w.heap.size w w1 := by repeat (first | exact Below.refl _ _ | refine Below.setCell ?_ (by first | omega | (simp; done) | (simp; omega)) _ | refine Below.alloc ?_ (by first | omega | (simp; done) | (simp; omega)) _ | refine Below.drew ?_ | refine below_drewN ?_ _ | refine below_after ?_ (by assumption) (by first | omega | (simp; done) | (simp; omega)))
  have c0 := K0.c
  have z0 := K0.lt
  have c1 := K1.c
  have z1 := K1.lt
  have c2 := K2.c
  have z2 := K2.lt
  clear hb
  go_wp2_with fail
  refine (rpath_any _ _ _).mono ?_
  rintro e w2 ⟨rfl, hb⟩
  have K0 := (K0).on hb
  have K1 := (K1).on hb
  have K2 := (K2).on hb
  have HB := below_after HB hb HB.size
  clear hb
  have c0 := K0.c
  have z0 := K0.lt
  have c1 := K1.c
  have z1 := K1.lt
  have c2 := K2.c
  have z2 := K2.lt
  go_wp2_with fail
  refine (rpath_any _ _ _).mono ?_
  rintro e w3 ⟨rfl, hb⟩
  have K0 := (K0).on hb
  have K1 := (K1).on hb
  have K2 := (K2).on hb
  have HB := below_after HB hb HB.size
  clear hb
  have c0 := K0.c
  have z0 := K0.lt
  have c1 := K1.c
  have z1 := K1.lt
  have c2 := K2.c
  have z2 := K2.lt
  go_wp2_with fail
  refine (rpath_any _ _ _).mono ?_
  rintro e w4 ⟨rfl, hb⟩
  have K0 := (K0).on hb
  have K1 := (K1).on hb
  have K2 := (K2).on hb
  have HB := below_after HB hb HB.size
  clear hb
  have c0 := K0.c
  have z0 := K0.lt
  have c1 := K1.c
  have z1 := K1.lt
  have c2 := K2.c
  have z2 := K2.lt
  go_wp2_with fail
  go_ret
  exact ⟨rfl, HB⟩

set_option maxRecDepth 100000 in
set_option maxHeartbeats 400000 in
theorem under_early4 (o0 : Bool) (x0 : Int) (o1 : Bool) (x1 : Int) (o2 : Bool) (x2 l : Int) (h0 : pathB x0 = true) (h1 : pathB x1 = true) (h2 : pathB x2 = true) (hl : ¬ l < 0) (hl2 : 1073741824 < l) (w : World) :
    Calls Try.prog 6 #[pv o0 x0, pv o1 x1, pv o2 x2, .int .i64 l] w fun e w' => e = .returned (.bool true) ∧ Below w.heap.size w w' := by
  go_enter Try.func6, Try.ntmps6
  go_wp2_with fail
  refine (alive_any _).mono ?_
  rintro e w1 ⟨rfl, hb⟩
  have K0 := Blk.on (g := w.heap.size) (t := 30) (cs := #[.bool o0, .int .i64 x0]) (by repeat (first | exact Blk.at_ _ _ _ (by simp) | refine Blk.alloc ?_ _)) hb
  have K1 := Blk.on (g := w.heap.size + 1) (t := 30) (cs := #[.bool o1, .int .i64 x1]) (by repeat (first | exact Blk.at_ _ _ _ (by simp) | refine Blk.alloc ?_ _)) hb
  have K2 := Blk.on (g := w.heap.size + 1 + 1) (t := 30) (cs := #[.bool o2, .int .i64 x2]) (by repeat (first | exact Blk.at_ _ _ _ (by simp) | refine Blk.alloc ?_ _)) hb
  have HB : Below w.heap.size w w1 := by repeat (first | exact Below.refl _ _ | refine Below.setCell ?_ (by first | omega | (simp; done) | (simp; omega)) _ | refine Below.alloc ?_ (by first | omega | (simp; done) | (simp; omega)) _ | refine Below.drew ?_ | refine below_drewN ?_ _ | refine below_after ?_ (by assumption) (by first | omega | (simp; done) | (simp; omega)))
  have c0 := K0.c
  have z0 := K0.lt
  have c1 := K1.c
  have z1 := K1.lt
  have c2 := K2.c
  have z2 := K2.lt
  clear hb
  go_wp2_with fail
  refine (rpath_any _ _ _).mono ?_
  rintro e w2 ⟨rfl, hb⟩
  have K0 := (K0).on hb
  have K1 := (K1).on hb
  have K2 := (K2).on hb
  have HB := below_after HB hb HB.size
  clear hb
  have c0 := K0.c
  have z0 := K0.lt
  have c1 := K1.c
  have z1 := K1.lt
  have c2 := K2.c
  have z2 := K2.lt
  go_wp2_with fail
  refine (rpath_any _ _ _).mono ?_
  rintro e w3 ⟨rfl, hb⟩
  have K0 := (K0).on hb
  have K1 := (K1).on hb
  have K2 := (K2).on hb
  have HB := below_after HB hb HB.size
  clear hb
  have c0 := K0.c
  have z0 := K0.lt
  have c1 := K1.c
  have z1 := K1.lt
  have c2 := K2.c
  have z2 := K2.lt
  go_wp2_with fail
  refine (rpath_any _ _ _).mono ?_
  rintro e w4 ⟨rfl, hb⟩
  have K0 := (K0).on hb
  have K1 := (K1).on hb
  have K2 := (K2).on hb
  have HB := below_after HB hb HB.size
  clear hb
  have c0 := K0.c
  have z0 := K0.lt
  have c1 := K1.c
  have z1 := K1.lt
  have c2 := K2.c
  have z2 := K2.lt
  go_wp2_with fail
  go_ret
  exact ⟨rfl, HB⟩

set_option maxRecDepth 100000 in
set_option maxHeartbeats 2000000 in
theorem under_main11 (o0 : Bool) (x0 : Int) (o1 : Bool) (x1 : Int) (o2 : Bool) (x2 l : Int) (h0 : pathB x0 = true) (h1 : pathB x1 = true) (h2 : pathB x2 = true) (hl : ¬ l < 0) (hl2 : ¬ 1073741824 < l) (hm : mayB 0 l = true) (hu : underB o0 x0 o1 x1 = true) (g1 : applyL o0 x0 l ≤ applyL o1 x1 l) (g2 : underB (thenO o0 o2) (thenA x0 o2 x2) (thenO o1 o2) (thenA x1 o2 x2) = true) (g3 : underB (thenO o2 o0) (thenA x2 o0 x0) (thenO o2 o1) (thenA x2 o1 x1) = true) (hv : underB o1 x1 o2 x2 = true) (hw : underB o0 x0 o2 x2 = true) (w : World) :
    Calls Try.prog 6 #[pv o0 x0, pv o1 x1, pv o2 x2, .int .i64 l] w fun e w' => e = .returned (.bool true) ∧ Below w.heap.size w w' := by
  go_enter Try.func6, Try.ntmps6
  go_wp2_with fail
  refine (alive_any _).mono ?_
  rintro e w1 ⟨rfl, hb⟩
  have K0 := Blk.on (g := w.heap.size) (t := 30) (cs := #[.bool o0, .int .i64 x0]) (by repeat (first | exact Blk.at_ _ _ _ (by simp) | refine Blk.alloc ?_ _)) hb
  have K1 := Blk.on (g := w.heap.size + 1) (t := 30) (cs := #[.bool o1, .int .i64 x1]) (by repeat (first | exact Blk.at_ _ _ _ (by simp) | refine Blk.alloc ?_ _)) hb
  have K2 := Blk.on (g := w.heap.size + 1 + 1) (t := 30) (cs := #[.bool o2, .int .i64 x2]) (by repeat (first | exact Blk.at_ _ _ _ (by simp) | refine Blk.alloc ?_ _)) hb
  have HB : Below w.heap.size w w1 := by repeat (first | exact Below.refl _ _ | refine Below.setCell ?_ (by first | omega | (simp; done) | (simp; omega)) _ | refine Below.alloc ?_ (by first | omega | (simp; done) | (simp; omega)) _ | refine Below.drew ?_ | refine below_drewN ?_ _ | refine below_after ?_ (by assumption) (by first | omega | (simp; done) | (simp; omega)))
  have c0 := K0.c
  have z0 := K0.lt
  have c1 := K1.c
  have z1 := K1.lt
  have c2 := K2.c
  have z2 := K2.lt
  clear hb
  go_wp2_with fail
  refine (rpath_any _ _ _).mono ?_
  rintro e w2 ⟨rfl, hb⟩
  have K0 := (K0).on hb
  have K1 := (K1).on hb
  have K2 := (K2).on hb
  have HB := below_after HB hb HB.size
  clear hb
  have c0 := K0.c
  have z0 := K0.lt
  have c1 := K1.c
  have z1 := K1.lt
  have c2 := K2.c
  have z2 := K2.lt
  go_wp2_with fail
  refine (rpath_any _ _ _).mono ?_
  rintro e w3 ⟨rfl, hb⟩
  have K0 := (K0).on hb
  have K1 := (K1).on hb
  have K2 := (K2).on hb
  have HB := below_after HB hb HB.size
  clear hb
  have c0 := K0.c
  have z0 := K0.lt
  have c1 := K1.c
  have z1 := K1.lt
  have c2 := K2.c
  have z2 := K2.lt
  go_wp2_with fail
  refine (rpath_any _ _ _).mono ?_
  rintro e w4 ⟨rfl, hb⟩
  have K0 := (K0).on hb
  have K1 := (K1).on hb
  have K2 := (K2).on hb
  have HB := below_after HB hb HB.size
  clear hb
  have c0 := K0.c
  have z0 := K0.lt
  have c1 := K1.c
  have z1 := K1.lt
  have c2 := K2.c
  have z2 := K2.lt
  go_wp2_with fail
  refine (under_any _ _ _ _ h0 h1 _).mono ?_
  rintro e w5 ⟨rfl, hb⟩
  have K0 := (K0).on hb
  have K1 := (K1).on hb
  have K2 := (K2).on hb
  have HB := below_after HB hb HB.size
  clear hb
  have c0 := K0.c
  have z0 := K0.lt
  have c1 := K1.c
  have z1 := K1.lt
  have c2 := K2.c
  have z2 := K2.lt
  go_wp2_with fail
  refine (under_any _ _ _ _ h1 h2 _).mono ?_
  rintro e w6 ⟨rfl, hb⟩
  have K0 := (K0).on hb
  have K1 := (K1).on hb
  have K2 := (K2).on hb
  have HB := below_after HB hb HB.size
  clear hb
  have c0 := K0.c
  have z0 := K0.lt
  have c1 := K1.c
  have z1 := K1.lt
  have c2 := K2.c
  have z2 := K2.lt
  go_wp2_with fail
  refine (under_any _ _ _ _ h0 h2 _).mono ?_
  rintro e w7 ⟨rfl, hb⟩
  have K0 := (K0).on hb
  have K1 := (K1).on hb
  have K2 := (K2).on hb
  have HB := below_after HB hb HB.size
  clear hb
  have c0 := K0.c
  have z0 := K0.lt
  have c1 := K1.c
  have z1 := K1.lt
  have c2 := K2.c
  have z2 := K2.lt
  go_wp2_with fail
  refine (apply_any _ _ _ _ h0 hm _).mono ?_
  rintro e w8 ⟨rfl, hb⟩
  have K0 := (K0).on hb
  have K1 := (K1).on hb
  have K2 := (K2).on hb
  have HB := below_after HB hb HB.size
  clear hb
  have c0 := K0.c
  have z0 := K0.lt
  have c1 := K1.c
  have z1 := K1.lt
  have c2 := K2.c
  have z2 := K2.lt
  go_wp2_with fail
  refine (apply_any _ _ _ _ h1 hm _).mono ?_
  rintro e w9 ⟨rfl, hb⟩
  have K0 := (K0.alloc _).on hb
  have K1 := (K1.alloc _).on hb
  have K2 := (K2.alloc _).on hb
  have K3 := Blk.on (g := w8.heap.size) (t := 23) (cs := #[.int .i64 0, .int .i64 (applyL o0 x0 l)]) (by repeat (first | exact Blk.at_ _ _ _ (by simp) | refine Blk.alloc ?_ _)) hb
  have HB := below_after (HB.alloc HB.size _) hb (HB.alloc HB.size _).size
  clear hb
  have c0 := K0.c
  have z0 := K0.lt
  have c1 := K1.c
  have z1 := K1.lt
  have c2 := K2.c
  have z2 := K2.lt
  have c3 := K3.c
  have z3 := K3.lt
  go_wp2_with fail
  refine (then_any _ _ _ _ h0 h2 _).mono ?_
  rintro e w10 ⟨rfl, hb⟩
  have K0 := (K0.alloc _).on hb
  have K1 := (K1.alloc _).on hb
  have K2 := (K2.alloc _).on hb
  have K3 := (K3.alloc _).on hb
  have K4 := Blk.on (g := w9.heap.size) (t := 23) (cs := #[.int .i64 0, .int .i64 (applyL o1 x1 l)]) (by repeat (first | exact Blk.at_ _ _ _ (by simp) | refine Blk.alloc ?_ _)) hb
  have HB := below_after (HB.alloc HB.size _) hb (HB.alloc HB.size _).size
  clear hb
  have c0 := K0.c
  have z0 := K0.lt
  have c1 := K1.c
  have z1 := K1.lt
  have c2 := K2.c
  have z2 := K2.lt
  have c3 := K3.c
  have z3 := K3.lt
  have c4 := K4.c
  have z4 := K4.lt
  go_wp2_with fail
  refine (then_any _ _ _ _ h1 h2 _).mono ?_
  rintro e w11 ⟨rfl, hb⟩
  have K0 := (K0.alloc _).on hb
  have K1 := (K1.alloc _).on hb
  have K2 := (K2.alloc _).on hb
  have K3 := (K3.alloc _).on hb
  have K4 := (K4.alloc _).on hb
  have K5 := Blk.on (g := w10.heap.size) (t := 30) (cs := #[.bool (thenO o0 o2), .int .i64 (thenA x0 o2 x2)]) (by repeat (first | exact Blk.at_ _ _ _ (by simp) | refine Blk.alloc ?_ _)) hb
  have HB := below_after (HB.alloc HB.size _) hb (HB.alloc HB.size _).size
  clear hb
  have c0 := K0.c
  have z0 := K0.lt
  have c1 := K1.c
  have z1 := K1.lt
  have c2 := K2.c
  have z2 := K2.lt
  have c3 := K3.c
  have z3 := K3.lt
  have c4 := K4.c
  have z4 := K4.lt
  have c5 := K5.c
  have z5 := K5.lt
  go_wp2_with fail
  refine (then_any _ _ _ _ h2 h0 _).mono ?_
  rintro e w12 ⟨rfl, hb⟩
  have K0 := (K0.alloc _).on hb
  have K1 := (K1.alloc _).on hb
  have K2 := (K2.alloc _).on hb
  have K3 := (K3.alloc _).on hb
  have K4 := (K4.alloc _).on hb
  have K5 := (K5.alloc _).on hb
  have K6 := Blk.on (g := w11.heap.size) (t := 30) (cs := #[.bool (thenO o1 o2), .int .i64 (thenA x1 o2 x2)]) (by repeat (first | exact Blk.at_ _ _ _ (by simp) | refine Blk.alloc ?_ _)) hb
  have HB := below_after (HB.alloc HB.size _) hb (HB.alloc HB.size _).size
  clear hb
  have c0 := K0.c
  have z0 := K0.lt
  have c1 := K1.c
  have z1 := K1.lt
  have c2 := K2.c
  have z2 := K2.lt
  have c3 := K3.c
  have z3 := K3.lt
  have c4 := K4.c
  have z4 := K4.lt
  have c5 := K5.c
  have z5 := K5.lt
  have c6 := K6.c
  have z6 := K6.lt
  go_wp2_with fail
  refine (then_any _ _ _ _ h2 h1 _).mono ?_
  rintro e w13 ⟨rfl, hb⟩
  have K0 := (K0.alloc _).on hb
  have K1 := (K1.alloc _).on hb
  have K2 := (K2.alloc _).on hb
  have K3 := (K3.alloc _).on hb
  have K4 := (K4.alloc _).on hb
  have K5 := (K5.alloc _).on hb
  have K6 := (K6.alloc _).on hb
  have K7 := Blk.on (g := w12.heap.size) (t := 30) (cs := #[.bool (thenO o2 o0), .int .i64 (thenA x2 o0 x0)]) (by repeat (first | exact Blk.at_ _ _ _ (by simp) | refine Blk.alloc ?_ _)) hb
  have HB := below_after (HB.alloc HB.size _) hb (HB.alloc HB.size _).size
  clear hb
  have c0 := K0.c
  have z0 := K0.lt
  have c1 := K1.c
  have z1 := K1.lt
  have c2 := K2.c
  have z2 := K2.lt
  have c3 := K3.c
  have z3 := K3.lt
  have c4 := K4.c
  have z4 := K4.lt
  have c5 := K5.c
  have z5 := K5.lt
  have c6 := K6.c
  have z6 := K6.lt
  have c7 := K7.c
  have z7 := K7.lt
  go_wp2_with fail
  refine (under_any _ _ _ _ h0 h1 _).mono ?_
  rintro e w14 ⟨rfl, hb⟩
  have K0 := (K0.alloc _).on hb
  have K1 := (K1.alloc _).on hb
  have K2 := (K2.alloc _).on hb
  have K3 := (K3.alloc _).on hb
  have K4 := (K4.alloc _).on hb
  have K5 := (K5.alloc _).on hb
  have K6 := (K6.alloc _).on hb
  have K7 := (K7.alloc _).on hb
  have K8 := Blk.on (g := w13.heap.size) (t := 30) (cs := #[.bool (thenO o2 o1), .int .i64 (thenA x2 o1 x1)]) (by repeat (first | exact Blk.at_ _ _ _ (by simp) | refine Blk.alloc ?_ _)) hb
  have HB := below_after (HB.alloc HB.size _) hb (HB.alloc HB.size _).size
  clear hb
  have c0 := K0.c
  have z0 := K0.lt
  have c1 := K1.c
  have z1 := K1.lt
  have c2 := K2.c
  have z2 := K2.lt
  have c3 := K3.c
  have z3 := K3.lt
  have c4 := K4.c
  have z4 := K4.lt
  have c5 := K5.c
  have z5 := K5.lt
  have c6 := K6.c
  have z6 := K6.lt
  have c7 := K7.c
  have z7 := K7.lt
  have c8 := K8.c
  have z8 := K8.lt
  go_wp2_with fail
  refine (under_any _ _ _ _ (then_path _ _ _ h0 h2) (then_path _ _ _ h1 h2) _).mono ?_
  rintro e w15 ⟨rfl, hb⟩
  have K0 := (K0).on hb
  have K1 := (K1).on hb
  have K2 := (K2).on hb
  have K3 := (K3).on hb
  have K4 := (K4).on hb
  have K5 := (K5).on hb
  have K6 := (K6).on hb
  have K7 := (K7).on hb
  have K8 := (K8).on hb
  have HB := below_after HB hb HB.size
  clear hb
  have c0 := K0.c
  have z0 := K0.lt
  have c1 := K1.c
  have z1 := K1.lt
  have c2 := K2.c
  have z2 := K2.lt
  have c3 := K3.c
  have z3 := K3.lt
  have c4 := K4.c
  have z4 := K4.lt
  have c5 := K5.c
  have z5 := K5.lt
  have c6 := K6.c
  have z6 := K6.lt
  have c7 := K7.c
  have z7 := K7.lt
  have c8 := K8.c
  have z8 := K8.lt
  go_wp2_with fail
  refine (under_any _ _ _ _ (then_path _ _ _ h2 h0) (then_path _ _ _ h2 h1) _).mono ?_
  rintro e w16 ⟨rfl, hb⟩
  have K0 := (K0).on hb
  have K1 := (K1).on hb
  have K2 := (K2).on hb
  have K3 := (K3).on hb
  have K4 := (K4).on hb
  have K5 := (K5).on hb
  have K6 := (K6).on hb
  have K7 := (K7).on hb
  have K8 := (K8).on hb
  have HB := below_after HB hb HB.size
  clear hb
  have c0 := K0.c
  have z0 := K0.lt
  have c1 := K1.c
  have z1 := K1.lt
  have c2 := K2.c
  have z2 := K2.lt
  have c3 := K3.c
  have z3 := K3.lt
  have c4 := K4.c
  have z4 := K4.lt
  have c5 := K5.c
  have z5 := K5.lt
  have c6 := K6.c
  have z6 := K6.lt
  have c7 := K7.c
  have z7 := K7.lt
  have c8 := K8.c
  have z8 := K8.lt
  go_wp2_with fail
  go_ret
  exact ⟨by simp, HB⟩

set_option maxRecDepth 100000 in
set_option maxHeartbeats 2000000 in
theorem under_main10 (o0 : Bool) (x0 : Int) (o1 : Bool) (x1 : Int) (o2 : Bool) (x2 l : Int) (h0 : pathB x0 = true) (h1 : pathB x1 = true) (h2 : pathB x2 = true) (hl : ¬ l < 0) (hl2 : ¬ 1073741824 < l) (hm : mayB 0 l = true) (hu : underB o0 x0 o1 x1 = true) (g1 : applyL o0 x0 l ≤ applyL o1 x1 l) (g2 : underB (thenO o0 o2) (thenA x0 o2 x2) (thenO o1 o2) (thenA x1 o2 x2) = true) (g3 : underB (thenO o2 o0) (thenA x2 o0 x0) (thenO o2 o1) (thenA x2 o1 x1) = true) (hv : underB o1 x1 o2 x2 = false) (w : World) :
    Calls Try.prog 6 #[pv o0 x0, pv o1 x1, pv o2 x2, .int .i64 l] w fun e w' => e = .returned (.bool true) ∧ Below w.heap.size w w' := by
  go_enter Try.func6, Try.ntmps6
  go_wp2_with fail
  refine (alive_any _).mono ?_
  rintro e w1 ⟨rfl, hb⟩
  have K0 := Blk.on (g := w.heap.size) (t := 30) (cs := #[.bool o0, .int .i64 x0]) (by repeat (first | exact Blk.at_ _ _ _ (by simp) | refine Blk.alloc ?_ _)) hb
  have K1 := Blk.on (g := w.heap.size + 1) (t := 30) (cs := #[.bool o1, .int .i64 x1]) (by repeat (first | exact Blk.at_ _ _ _ (by simp) | refine Blk.alloc ?_ _)) hb
  have K2 := Blk.on (g := w.heap.size + 1 + 1) (t := 30) (cs := #[.bool o2, .int .i64 x2]) (by repeat (first | exact Blk.at_ _ _ _ (by simp) | refine Blk.alloc ?_ _)) hb
  have HB : Below w.heap.size w w1 := by repeat (first | exact Below.refl _ _ | refine Below.setCell ?_ (by first | omega | (simp; done) | (simp; omega)) _ | refine Below.alloc ?_ (by first | omega | (simp; done) | (simp; omega)) _ | refine Below.drew ?_ | refine below_drewN ?_ _ | refine below_after ?_ (by assumption) (by first | omega | (simp; done) | (simp; omega)))
  have c0 := K0.c
  have z0 := K0.lt
  have c1 := K1.c
  have z1 := K1.lt
  have c2 := K2.c
  have z2 := K2.lt
  clear hb
  go_wp2_with fail
  refine (rpath_any _ _ _).mono ?_
  rintro e w2 ⟨rfl, hb⟩
  have K0 := (K0).on hb
  have K1 := (K1).on hb
  have K2 := (K2).on hb
  have HB := below_after HB hb HB.size
  clear hb
  have c0 := K0.c
  have z0 := K0.lt
  have c1 := K1.c
  have z1 := K1.lt
  have c2 := K2.c
  have z2 := K2.lt
  go_wp2_with fail
  refine (rpath_any _ _ _).mono ?_
  rintro e w3 ⟨rfl, hb⟩
  have K0 := (K0).on hb
  have K1 := (K1).on hb
  have K2 := (K2).on hb
  have HB := below_after HB hb HB.size
  clear hb
  have c0 := K0.c
  have z0 := K0.lt
  have c1 := K1.c
  have z1 := K1.lt
  have c2 := K2.c
  have z2 := K2.lt
  go_wp2_with fail
  refine (rpath_any _ _ _).mono ?_
  rintro e w4 ⟨rfl, hb⟩
  have K0 := (K0).on hb
  have K1 := (K1).on hb
  have K2 := (K2).on hb
  have HB := below_after HB hb HB.size
  clear hb
  have c0 := K0.c
  have z0 := K0.lt
  have c1 := K1.c
  have z1 := K1.lt
  have c2 := K2.c
  have z2 := K2.lt
  go_wp2_with fail
  refine (under_any _ _ _ _ h0 h1 _).mono ?_
  rintro e w5 ⟨rfl, hb⟩
  have K0 := (K0).on hb
  have K1 := (K1).on hb
  have K2 := (K2).on hb
  have HB := below_after HB hb HB.size
  clear hb
  have c0 := K0.c
  have z0 := K0.lt
  have c1 := K1.c
  have z1 := K1.lt
  have c2 := K2.c
  have z2 := K2.lt
  go_wp2_with fail
  refine (under_any _ _ _ _ h1 h2 _).mono ?_
  rintro e w6 ⟨rfl, hb⟩
  have K0 := (K0).on hb
  have K1 := (K1).on hb
  have K2 := (K2).on hb
  have HB := below_after HB hb HB.size
  clear hb
  have c0 := K0.c
  have z0 := K0.lt
  have c1 := K1.c
  have z1 := K1.lt
  have c2 := K2.c
  have z2 := K2.lt
  go_wp2_with fail
  refine (apply_any _ _ _ _ h0 hm _).mono ?_
  rintro e w7 ⟨rfl, hb⟩
  have K0 := (K0).on hb
  have K1 := (K1).on hb
  have K2 := (K2).on hb
  have HB := below_after HB hb HB.size
  clear hb
  have c0 := K0.c
  have z0 := K0.lt
  have c1 := K1.c
  have z1 := K1.lt
  have c2 := K2.c
  have z2 := K2.lt
  go_wp2_with fail
  refine (apply_any _ _ _ _ h1 hm _).mono ?_
  rintro e w8 ⟨rfl, hb⟩
  have K0 := (K0.alloc _).on hb
  have K1 := (K1.alloc _).on hb
  have K2 := (K2.alloc _).on hb
  have K3 := Blk.on (g := w7.heap.size) (t := 23) (cs := #[.int .i64 0, .int .i64 (applyL o0 x0 l)]) (by repeat (first | exact Blk.at_ _ _ _ (by simp) | refine Blk.alloc ?_ _)) hb
  have HB := below_after (HB.alloc HB.size _) hb (HB.alloc HB.size _).size
  clear hb
  have c0 := K0.c
  have z0 := K0.lt
  have c1 := K1.c
  have z1 := K1.lt
  have c2 := K2.c
  have z2 := K2.lt
  have c3 := K3.c
  have z3 := K3.lt
  go_wp2_with fail
  refine (then_any _ _ _ _ h0 h2 _).mono ?_
  rintro e w9 ⟨rfl, hb⟩
  have K0 := (K0.alloc _).on hb
  have K1 := (K1.alloc _).on hb
  have K2 := (K2.alloc _).on hb
  have K3 := (K3.alloc _).on hb
  have K4 := Blk.on (g := w8.heap.size) (t := 23) (cs := #[.int .i64 0, .int .i64 (applyL o1 x1 l)]) (by repeat (first | exact Blk.at_ _ _ _ (by simp) | refine Blk.alloc ?_ _)) hb
  have HB := below_after (HB.alloc HB.size _) hb (HB.alloc HB.size _).size
  clear hb
  have c0 := K0.c
  have z0 := K0.lt
  have c1 := K1.c
  have z1 := K1.lt
  have c2 := K2.c
  have z2 := K2.lt
  have c3 := K3.c
  have z3 := K3.lt
  have c4 := K4.c
  have z4 := K4.lt
  go_wp2_with fail
  refine (then_any _ _ _ _ h1 h2 _).mono ?_
  rintro e w10 ⟨rfl, hb⟩
  have K0 := (K0.alloc _).on hb
  have K1 := (K1.alloc _).on hb
  have K2 := (K2.alloc _).on hb
  have K3 := (K3.alloc _).on hb
  have K4 := (K4.alloc _).on hb
  have K5 := Blk.on (g := w9.heap.size) (t := 30) (cs := #[.bool (thenO o0 o2), .int .i64 (thenA x0 o2 x2)]) (by repeat (first | exact Blk.at_ _ _ _ (by simp) | refine Blk.alloc ?_ _)) hb
  have HB := below_after (HB.alloc HB.size _) hb (HB.alloc HB.size _).size
  clear hb
  have c0 := K0.c
  have z0 := K0.lt
  have c1 := K1.c
  have z1 := K1.lt
  have c2 := K2.c
  have z2 := K2.lt
  have c3 := K3.c
  have z3 := K3.lt
  have c4 := K4.c
  have z4 := K4.lt
  have c5 := K5.c
  have z5 := K5.lt
  go_wp2_with fail
  refine (then_any _ _ _ _ h2 h0 _).mono ?_
  rintro e w11 ⟨rfl, hb⟩
  have K0 := (K0.alloc _).on hb
  have K1 := (K1.alloc _).on hb
  have K2 := (K2.alloc _).on hb
  have K3 := (K3.alloc _).on hb
  have K4 := (K4.alloc _).on hb
  have K5 := (K5.alloc _).on hb
  have K6 := Blk.on (g := w10.heap.size) (t := 30) (cs := #[.bool (thenO o1 o2), .int .i64 (thenA x1 o2 x2)]) (by repeat (first | exact Blk.at_ _ _ _ (by simp) | refine Blk.alloc ?_ _)) hb
  have HB := below_after (HB.alloc HB.size _) hb (HB.alloc HB.size _).size
  clear hb
  have c0 := K0.c
  have z0 := K0.lt
  have c1 := K1.c
  have z1 := K1.lt
  have c2 := K2.c
  have z2 := K2.lt
  have c3 := K3.c
  have z3 := K3.lt
  have c4 := K4.c
  have z4 := K4.lt
  have c5 := K5.c
  have z5 := K5.lt
  have c6 := K6.c
  have z6 := K6.lt
  go_wp2_with fail
  refine (then_any _ _ _ _ h2 h1 _).mono ?_
  rintro e w12 ⟨rfl, hb⟩
  have K0 := (K0.alloc _).on hb
  have K1 := (K1.alloc _).on hb
  have K2 := (K2.alloc _).on hb
  have K3 := (K3.alloc _).on hb
  have K4 := (K4.alloc _).on hb
  have K5 := (K5.alloc _).on hb
  have K6 := (K6.alloc _).on hb
  have K7 := Blk.on (g := w11.heap.size) (t := 30) (cs := #[.bool (thenO o2 o0), .int .i64 (thenA x2 o0 x0)]) (by repeat (first | exact Blk.at_ _ _ _ (by simp) | refine Blk.alloc ?_ _)) hb
  have HB := below_after (HB.alloc HB.size _) hb (HB.alloc HB.size _).size
  clear hb
  have c0 := K0.c
  have z0 := K0.lt
  have c1 := K1.c
  have z1 := K1.lt
  have c2 := K2.c
  have z2 := K2.lt
  have c3 := K3.c
  have z3 := K3.lt
  have c4 := K4.c
  have z4 := K4.lt
  have c5 := K5.c
  have z5 := K5.lt
  have c6 := K6.c
  have z6 := K6.lt
  have c7 := K7.c
  have z7 := K7.lt
  go_wp2_with fail
  refine (under_any _ _ _ _ h0 h1 _).mono ?_
  rintro e w13 ⟨rfl, hb⟩
  have K0 := (K0.alloc _).on hb
  have K1 := (K1.alloc _).on hb
  have K2 := (K2.alloc _).on hb
  have K3 := (K3.alloc _).on hb
  have K4 := (K4.alloc _).on hb
  have K5 := (K5.alloc _).on hb
  have K6 := (K6.alloc _).on hb
  have K7 := (K7.alloc _).on hb
  have K8 := Blk.on (g := w12.heap.size) (t := 30) (cs := #[.bool (thenO o2 o1), .int .i64 (thenA x2 o1 x1)]) (by repeat (first | exact Blk.at_ _ _ _ (by simp) | refine Blk.alloc ?_ _)) hb
  have HB := below_after (HB.alloc HB.size _) hb (HB.alloc HB.size _).size
  clear hb
  have c0 := K0.c
  have z0 := K0.lt
  have c1 := K1.c
  have z1 := K1.lt
  have c2 := K2.c
  have z2 := K2.lt
  have c3 := K3.c
  have z3 := K3.lt
  have c4 := K4.c
  have z4 := K4.lt
  have c5 := K5.c
  have z5 := K5.lt
  have c6 := K6.c
  have z6 := K6.lt
  have c7 := K7.c
  have z7 := K7.lt
  have c8 := K8.c
  have z8 := K8.lt
  go_wp2_with fail
  refine (under_any _ _ _ _ (then_path _ _ _ h0 h2) (then_path _ _ _ h1 h2) _).mono ?_
  rintro e w14 ⟨rfl, hb⟩
  have K0 := (K0).on hb
  have K1 := (K1).on hb
  have K2 := (K2).on hb
  have K3 := (K3).on hb
  have K4 := (K4).on hb
  have K5 := (K5).on hb
  have K6 := (K6).on hb
  have K7 := (K7).on hb
  have K8 := (K8).on hb
  have HB := below_after HB hb HB.size
  clear hb
  have c0 := K0.c
  have z0 := K0.lt
  have c1 := K1.c
  have z1 := K1.lt
  have c2 := K2.c
  have z2 := K2.lt
  have c3 := K3.c
  have z3 := K3.lt
  have c4 := K4.c
  have z4 := K4.lt
  have c5 := K5.c
  have z5 := K5.lt
  have c6 := K6.c
  have z6 := K6.lt
  have c7 := K7.c
  have z7 := K7.lt
  have c8 := K8.c
  have z8 := K8.lt
  go_wp2_with fail
  refine (under_any _ _ _ _ (then_path _ _ _ h2 h0) (then_path _ _ _ h2 h1) _).mono ?_
  rintro e w15 ⟨rfl, hb⟩
  have K0 := (K0).on hb
  have K1 := (K1).on hb
  have K2 := (K2).on hb
  have K3 := (K3).on hb
  have K4 := (K4).on hb
  have K5 := (K5).on hb
  have K6 := (K6).on hb
  have K7 := (K7).on hb
  have K8 := (K8).on hb
  have HB := below_after HB hb HB.size
  clear hb
  have c0 := K0.c
  have z0 := K0.lt
  have c1 := K1.c
  have z1 := K1.lt
  have c2 := K2.c
  have z2 := K2.lt
  have c3 := K3.c
  have z3 := K3.lt
  have c4 := K4.c
  have z4 := K4.lt
  have c5 := K5.c
  have z5 := K5.lt
  have c6 := K6.c
  have z6 := K6.lt
  have c7 := K7.c
  have z7 := K7.lt
  have c8 := K8.c
  have z8 := K8.lt
  go_wp2_with fail
  go_ret
  exact ⟨by simp, HB⟩

set_option maxRecDepth 100000 in
set_option maxHeartbeats 2000000 in
theorem under_main0a (o0 : Bool) (x0 : Int) (o1 : Bool) (x1 : Int) (o2 : Bool) (x2 l : Int) (h0 : pathB x0 = true) (h1 : pathB x1 = true) (h2 : pathB x2 = true) (hl : ¬ l < 0) (hl2 : ¬ 1073741824 < l) (hm : mayB 0 l = true) (hu : underB o0 x0 o1 x1 = false) (g1 : applyL o1 x1 0 < applyL o0 x0 0) (w : World) :
    Calls Try.prog 6 #[pv o0 x0, pv o1 x1, pv o2 x2, .int .i64 l] w fun e w' => e = .returned (.bool true) ∧ Below w.heap.size w w' := by
  go_enter Try.func6, Try.ntmps6
  go_wp2_with fail
  refine (alive_any _).mono ?_
  rintro e w1 ⟨rfl, hb⟩
  have K0 := Blk.on (g := w.heap.size) (t := 30) (cs := #[.bool o0, .int .i64 x0]) (by repeat (first | exact Blk.at_ _ _ _ (by simp) | refine Blk.alloc ?_ _)) hb
  have K1 := Blk.on (g := w.heap.size + 1) (t := 30) (cs := #[.bool o1, .int .i64 x1]) (by repeat (first | exact Blk.at_ _ _ _ (by simp) | refine Blk.alloc ?_ _)) hb
  have K2 := Blk.on (g := w.heap.size + 1 + 1) (t := 30) (cs := #[.bool o2, .int .i64 x2]) (by repeat (first | exact Blk.at_ _ _ _ (by simp) | refine Blk.alloc ?_ _)) hb
  have HB : Below w.heap.size w w1 := by repeat (first | exact Below.refl _ _ | refine Below.setCell ?_ (by first | omega | (simp; done) | (simp; omega)) _ | refine Below.alloc ?_ (by first | omega | (simp; done) | (simp; omega)) _ | refine Below.drew ?_ | refine below_drewN ?_ _ | refine below_after ?_ (by assumption) (by first | omega | (simp; done) | (simp; omega)))
  have c0 := K0.c
  have z0 := K0.lt
  have c1 := K1.c
  have z1 := K1.lt
  have c2 := K2.c
  have z2 := K2.lt
  clear hb
  go_wp2_with fail
  refine (rpath_any _ _ _).mono ?_
  rintro e w2 ⟨rfl, hb⟩
  have K0 := (K0).on hb
  have K1 := (K1).on hb
  have K2 := (K2).on hb
  have HB := below_after HB hb HB.size
  clear hb
  have c0 := K0.c
  have z0 := K0.lt
  have c1 := K1.c
  have z1 := K1.lt
  have c2 := K2.c
  have z2 := K2.lt
  go_wp2_with fail
  refine (rpath_any _ _ _).mono ?_
  rintro e w3 ⟨rfl, hb⟩
  have K0 := (K0).on hb
  have K1 := (K1).on hb
  have K2 := (K2).on hb
  have HB := below_after HB hb HB.size
  clear hb
  have c0 := K0.c
  have z0 := K0.lt
  have c1 := K1.c
  have z1 := K1.lt
  have c2 := K2.c
  have z2 := K2.lt
  go_wp2_with fail
  refine (rpath_any _ _ _).mono ?_
  rintro e w4 ⟨rfl, hb⟩
  have K0 := (K0).on hb
  have K1 := (K1).on hb
  have K2 := (K2).on hb
  have HB := below_after HB hb HB.size
  clear hb
  have c0 := K0.c
  have z0 := K0.lt
  have c1 := K1.c
  have z1 := K1.lt
  have c2 := K2.c
  have z2 := K2.lt
  go_wp2_with fail
  refine (under_any _ _ _ _ h0 h1 _).mono ?_
  rintro e w5 ⟨rfl, hb⟩
  have K0 := (K0).on hb
  have K1 := (K1).on hb
  have K2 := (K2).on hb
  have HB := below_after HB hb HB.size
  clear hb
  have c0 := K0.c
  have z0 := K0.lt
  have c1 := K1.c
  have z1 := K1.lt
  have c2 := K2.c
  have z2 := K2.lt
  go_wp2_with fail
  refine (apply_any _ _ _ _ h0 hm _).mono ?_
  rintro e w6 ⟨rfl, hb⟩
  have K0 := (K0).on hb
  have K1 := (K1).on hb
  have K2 := (K2).on hb
  have HB := below_after HB hb HB.size
  clear hb
  have c0 := K0.c
  have z0 := K0.lt
  have c1 := K1.c
  have z1 := K1.lt
  have c2 := K2.c
  have z2 := K2.lt
  go_wp2_with fail
  refine (apply_any _ _ _ _ h1 hm _).mono ?_
  rintro e w7 ⟨rfl, hb⟩
  have K0 := (K0.alloc _).on hb
  have K1 := (K1.alloc _).on hb
  have K2 := (K2.alloc _).on hb
  have K3 := Blk.on (g := w6.heap.size) (t := 23) (cs := #[.int .i64 0, .int .i64 (applyL o0 x0 l)]) (by repeat (first | exact Blk.at_ _ _ _ (by simp) | refine Blk.alloc ?_ _)) hb
  have HB := below_after (HB.alloc HB.size _) hb (HB.alloc HB.size _).size
  clear hb
  have c0 := K0.c
  have z0 := K0.lt
  have c1 := K1.c
  have z1 := K1.lt
  have c2 := K2.c
  have z2 := K2.lt
  have c3 := K3.c
  have z3 := K3.lt
  go_wp2_with fail
  refine (then_any _ _ _ _ h0 h2 _).mono ?_
  rintro e w8 ⟨rfl, hb⟩
  have K0 := (K0.alloc _).on hb
  have K1 := (K1.alloc _).on hb
  have K2 := (K2.alloc _).on hb
  have K3 := (K3.alloc _).on hb
  have K4 := Blk.on (g := w7.heap.size) (t := 23) (cs := #[.int .i64 0, .int .i64 (applyL o1 x1 l)]) (by repeat (first | exact Blk.at_ _ _ _ (by simp) | refine Blk.alloc ?_ _)) hb
  have HB := below_after (HB.alloc HB.size _) hb (HB.alloc HB.size _).size
  clear hb
  have c0 := K0.c
  have z0 := K0.lt
  have c1 := K1.c
  have z1 := K1.lt
  have c2 := K2.c
  have z2 := K2.lt
  have c3 := K3.c
  have z3 := K3.lt
  have c4 := K4.c
  have z4 := K4.lt
  go_wp2_with fail
  refine (then_any _ _ _ _ h1 h2 _).mono ?_
  rintro e w9 ⟨rfl, hb⟩
  have K0 := (K0.alloc _).on hb
  have K1 := (K1.alloc _).on hb
  have K2 := (K2.alloc _).on hb
  have K3 := (K3.alloc _).on hb
  have K4 := (K4.alloc _).on hb
  have K5 := Blk.on (g := w8.heap.size) (t := 30) (cs := #[.bool (thenO o0 o2), .int .i64 (thenA x0 o2 x2)]) (by repeat (first | exact Blk.at_ _ _ _ (by simp) | refine Blk.alloc ?_ _)) hb
  have HB := below_after (HB.alloc HB.size _) hb (HB.alloc HB.size _).size
  clear hb
  have c0 := K0.c
  have z0 := K0.lt
  have c1 := K1.c
  have z1 := K1.lt
  have c2 := K2.c
  have z2 := K2.lt
  have c3 := K3.c
  have z3 := K3.lt
  have c4 := K4.c
  have z4 := K4.lt
  have c5 := K5.c
  have z5 := K5.lt
  go_wp2_with fail
  refine (then_any _ _ _ _ h2 h0 _).mono ?_
  rintro e w10 ⟨rfl, hb⟩
  have K0 := (K0.alloc _).on hb
  have K1 := (K1.alloc _).on hb
  have K2 := (K2.alloc _).on hb
  have K3 := (K3.alloc _).on hb
  have K4 := (K4.alloc _).on hb
  have K5 := (K5.alloc _).on hb
  have K6 := Blk.on (g := w9.heap.size) (t := 30) (cs := #[.bool (thenO o1 o2), .int .i64 (thenA x1 o2 x2)]) (by repeat (first | exact Blk.at_ _ _ _ (by simp) | refine Blk.alloc ?_ _)) hb
  have HB := below_after (HB.alloc HB.size _) hb (HB.alloc HB.size _).size
  clear hb
  have c0 := K0.c
  have z0 := K0.lt
  have c1 := K1.c
  have z1 := K1.lt
  have c2 := K2.c
  have z2 := K2.lt
  have c3 := K3.c
  have z3 := K3.lt
  have c4 := K4.c
  have z4 := K4.lt
  have c5 := K5.c
  have z5 := K5.lt
  have c6 := K6.c
  have z6 := K6.lt
  go_wp2_with fail
  refine (then_any _ _ _ _ h2 h1 _).mono ?_
  rintro e w11 ⟨rfl, hb⟩
  have K0 := (K0.alloc _).on hb
  have K1 := (K1.alloc _).on hb
  have K2 := (K2.alloc _).on hb
  have K3 := (K3.alloc _).on hb
  have K4 := (K4.alloc _).on hb
  have K5 := (K5.alloc _).on hb
  have K6 := (K6.alloc _).on hb
  have K7 := Blk.on (g := w10.heap.size) (t := 30) (cs := #[.bool (thenO o2 o0), .int .i64 (thenA x2 o0 x0)]) (by repeat (first | exact Blk.at_ _ _ _ (by simp) | refine Blk.alloc ?_ _)) hb
  have HB := below_after (HB.alloc HB.size _) hb (HB.alloc HB.size _).size
  clear hb
  have c0 := K0.c
  have z0 := K0.lt
  have c1 := K1.c
  have z1 := K1.lt
  have c2 := K2.c
  have z2 := K2.lt
  have c3 := K3.c
  have z3 := K3.lt
  have c4 := K4.c
  have z4 := K4.lt
  have c5 := K5.c
  have z5 := K5.lt
  have c6 := K6.c
  have z6 := K6.lt
  have c7 := K7.c
  have z7 := K7.lt
  go_wp2_with fail
  refine (under_any _ _ _ _ h0 h1 _).mono ?_
  rintro e w12 ⟨rfl, hb⟩
  have K0 := (K0.alloc _).on hb
  have K1 := (K1.alloc _).on hb
  have K2 := (K2.alloc _).on hb
  have K3 := (K3.alloc _).on hb
  have K4 := (K4.alloc _).on hb
  have K5 := (K5.alloc _).on hb
  have K6 := (K6.alloc _).on hb
  have K7 := (K7.alloc _).on hb
  have K8 := Blk.on (g := w11.heap.size) (t := 30) (cs := #[.bool (thenO o2 o1), .int .i64 (thenA x2 o1 x1)]) (by repeat (first | exact Blk.at_ _ _ _ (by simp) | refine Blk.alloc ?_ _)) hb
  have HB := below_after (HB.alloc HB.size _) hb (HB.alloc HB.size _).size
  clear hb
  have c0 := K0.c
  have z0 := K0.lt
  have c1 := K1.c
  have z1 := K1.lt
  have c2 := K2.c
  have z2 := K2.lt
  have c3 := K3.c
  have z3 := K3.lt
  have c4 := K4.c
  have z4 := K4.lt
  have c5 := K5.c
  have z5 := K5.lt
  have c6 := K6.c
  have z6 := K6.lt
  have c7 := K7.c
  have z7 := K7.lt
  have c8 := K8.c
  have z8 := K8.lt
  go_wp2_with fail
  refine (apply_any _ _ _ _ h0 rfl _).mono ?_
  rintro e w13 ⟨rfl, hb⟩
  have K0 := (K0).on hb
  have K1 := (K1).on hb
  have K2 := (K2).on hb
  have K3 := (K3).on hb
  have K4 := (K4).on hb
  have K5 := (K5).on hb
  have K6 := (K6).on hb
  have K7 := (K7).on hb
  have K8 := (K8).on hb
  have HB := below_after HB hb HB.size
  clear hb
  have c0 := K0.c
  have z0 := K0.lt
  have c1 := K1.c
  have z1 := K1.lt
  have c2 := K2.c
  have z2 := K2.lt
  have c3 := K3.c
  have z3 := K3.lt
  have c4 := K4.c
  have z4 := K4.lt
  have c5 := K5.c
  have z5 := K5.lt
  have c6 := K6.c
  have z6 := K6.lt
  have c7 := K7.c
  have z7 := K7.lt
  have c8 := K8.c
  have z8 := K8.lt
  go_wp2_with fail
  refine (apply_any _ _ _ _ h1 rfl _).mono ?_
  rintro e w14 ⟨rfl, hb⟩
  have K0 := (K0.alloc _).on hb
  have K1 := (K1.alloc _).on hb
  have K2 := (K2.alloc _).on hb
  have K3 := (K3.alloc _).on hb
  have K4 := (K4.alloc _).on hb
  have K5 := (K5.alloc _).on hb
  have K6 := (K6.alloc _).on hb
  have K7 := (K7.alloc _).on hb
  have K8 := (K8.alloc _).on hb
  have K9 := Blk.on (g := w13.heap.size) (t := 23) (cs := #[.int .i64 0, .int .i64 (applyL o0 x0 0)]) (by repeat (first | exact Blk.at_ _ _ _ (by simp) | refine Blk.alloc ?_ _)) hb
  have HB := below_after (HB.alloc HB.size _) hb (HB.alloc HB.size _).size
  clear hb
  have c0 := K0.c
  have z0 := K0.lt
  have c1 := K1.c
  have z1 := K1.lt
  have c2 := K2.c
  have z2 := K2.lt
  have c3 := K3.c
  have z3 := K3.lt
  have c4 := K4.c
  have z4 := K4.lt
  have c5 := K5.c
  have z5 := K5.lt
  have c6 := K6.c
  have z6 := K6.lt
  have c7 := K7.c
  have z7 := K7.lt
  have c8 := K8.c
  have z8 := K8.lt
  have c9 := K9.c
  have z9 := K9.lt
  go_wp2_with fail
  refine (apply_any _ _ _ _ h0 rfl _).mono ?_
  rintro e w15 ⟨rfl, hb⟩
  have K0 := (K0.alloc _).on hb
  have K1 := (K1.alloc _).on hb
  have K2 := (K2.alloc _).on hb
  have K3 := (K3.alloc _).on hb
  have K4 := (K4.alloc _).on hb
  have K5 := (K5.alloc _).on hb
  have K6 := (K6.alloc _).on hb
  have K7 := (K7.alloc _).on hb
  have K8 := (K8.alloc _).on hb
  have K9 := (K9.alloc _).on hb
  have K10 := Blk.on (g := w14.heap.size) (t := 23) (cs := #[.int .i64 0, .int .i64 (applyL o1 x1 0)]) (by repeat (first | exact Blk.at_ _ _ _ (by simp) | refine Blk.alloc ?_ _)) hb
  have HB := below_after (HB.alloc HB.size _) hb (HB.alloc HB.size _).size
  clear hb
  have c0 := K0.c
  have z0 := K0.lt
  have c1 := K1.c
  have z1 := K1.lt
  have c2 := K2.c
  have z2 := K2.lt
  have c3 := K3.c
  have z3 := K3.lt
  have c4 := K4.c
  have z4 := K4.lt
  have c5 := K5.c
  have z5 := K5.lt
  have c6 := K6.c
  have z6 := K6.lt
  have c7 := K7.c
  have z7 := K7.lt
  have c8 := K8.c
  have z8 := K8.lt
  have c9 := K9.c
  have z9 := K9.lt
  have c10 := K10.c
  have z10 := K10.lt
  go_wp2_with fail
  refine (apply_any _ _ _ _ h1 rfl _).mono ?_
  rintro e w16 ⟨rfl, hb⟩
  have K0 := (K0.alloc _).on hb
  have K1 := (K1.alloc _).on hb
  have K2 := (K2.alloc _).on hb
  have K3 := (K3.alloc _).on hb
  have K4 := (K4.alloc _).on hb
  have K5 := (K5.alloc _).on hb
  have K6 := (K6.alloc _).on hb
  have K7 := (K7.alloc _).on hb
  have K8 := (K8.alloc _).on hb
  have K9 := (K9.alloc _).on hb
  have K10 := (K10.alloc _).on hb
  have K11 := Blk.on (g := w15.heap.size) (t := 23) (cs := #[.int .i64 0, .int .i64 (applyL o0 x0 1073741824)]) (by repeat (first | exact Blk.at_ _ _ _ (by simp) | refine Blk.alloc ?_ _)) hb
  have HB := below_after (HB.alloc HB.size _) hb (HB.alloc HB.size _).size
  clear hb
  have c0 := K0.c
  have z0 := K0.lt
  have c1 := K1.c
  have z1 := K1.lt
  have c2 := K2.c
  have z2 := K2.lt
  have c3 := K3.c
  have z3 := K3.lt
  have c4 := K4.c
  have z4 := K4.lt
  have c5 := K5.c
  have z5 := K5.lt
  have c6 := K6.c
  have z6 := K6.lt
  have c7 := K7.c
  have z7 := K7.lt
  have c8 := K8.c
  have z8 := K8.lt
  have c9 := K9.c
  have z9 := K9.lt
  have c10 := K10.c
  have z10 := K10.lt
  have c11 := K11.c
  have z11 := K11.lt
  go_wp2_with fail
  go_ret
  exact ⟨by simp, (HB.alloc HB.size _)⟩

set_option maxRecDepth 100000 in
set_option maxHeartbeats 2000000 in
theorem under_main0b (o0 : Bool) (x0 : Int) (o1 : Bool) (x1 : Int) (o2 : Bool) (x2 l : Int) (h0 : pathB x0 = true) (h1 : pathB x1 = true) (h2 : pathB x2 = true) (hl : ¬ l < 0) (hl2 : ¬ 1073741824 < l) (hm : mayB 0 l = true) (hu : underB o0 x0 o1 x1 = false) (g0 : ¬ applyL o1 x1 0 < applyL o0 x0 0) (g1 : applyL o1 x1 1073741824 < applyL o0 x0 1073741824) (w : World) :
    Calls Try.prog 6 #[pv o0 x0, pv o1 x1, pv o2 x2, .int .i64 l] w fun e w' => e = .returned (.bool true) ∧ Below w.heap.size w w' := by
  go_enter Try.func6, Try.ntmps6
  go_wp2_with fail
  refine (alive_any _).mono ?_
  rintro e w1 ⟨rfl, hb⟩
  have K0 := Blk.on (g := w.heap.size) (t := 30) (cs := #[.bool o0, .int .i64 x0]) (by repeat (first | exact Blk.at_ _ _ _ (by simp) | refine Blk.alloc ?_ _)) hb
  have K1 := Blk.on (g := w.heap.size + 1) (t := 30) (cs := #[.bool o1, .int .i64 x1]) (by repeat (first | exact Blk.at_ _ _ _ (by simp) | refine Blk.alloc ?_ _)) hb
  have K2 := Blk.on (g := w.heap.size + 1 + 1) (t := 30) (cs := #[.bool o2, .int .i64 x2]) (by repeat (first | exact Blk.at_ _ _ _ (by simp) | refine Blk.alloc ?_ _)) hb
  have HB : Below w.heap.size w w1 := by repeat (first | exact Below.refl _ _ | refine Below.setCell ?_ (by first | omega | (simp; done) | (simp; omega)) _ | refine Below.alloc ?_ (by first | omega | (simp; done) | (simp; omega)) _ | refine Below.drew ?_ | refine below_drewN ?_ _ | refine below_after ?_ (by assumption) (by first | omega | (simp; done) | (simp; omega)))
  have c0 := K0.c
  have z0 := K0.lt
  have c1 := K1.c
  have z1 := K1.lt
  have c2 := K2.c
  have z2 := K2.lt
  clear hb
  go_wp2_with fail
  refine (rpath_any _ _ _).mono ?_
  rintro e w2 ⟨rfl, hb⟩
  have K0 := (K0).on hb
  have K1 := (K1).on hb
  have K2 := (K2).on hb
  have HB := below_after HB hb HB.size
  clear hb
  have c0 := K0.c
  have z0 := K0.lt
  have c1 := K1.c
  have z1 := K1.lt
  have c2 := K2.c
  have z2 := K2.lt
  go_wp2_with fail
  refine (rpath_any _ _ _).mono ?_
  rintro e w3 ⟨rfl, hb⟩
  have K0 := (K0).on hb
  have K1 := (K1).on hb
  have K2 := (K2).on hb
  have HB := below_after HB hb HB.size
  clear hb
  have c0 := K0.c
  have z0 := K0.lt
  have c1 := K1.c
  have z1 := K1.lt
  have c2 := K2.c
  have z2 := K2.lt
  go_wp2_with fail
  refine (rpath_any _ _ _).mono ?_
  rintro e w4 ⟨rfl, hb⟩
  have K0 := (K0).on hb
  have K1 := (K1).on hb
  have K2 := (K2).on hb
  have HB := below_after HB hb HB.size
  clear hb
  have c0 := K0.c
  have z0 := K0.lt
  have c1 := K1.c
  have z1 := K1.lt
  have c2 := K2.c
  have z2 := K2.lt
  go_wp2_with fail
  refine (under_any _ _ _ _ h0 h1 _).mono ?_
  rintro e w5 ⟨rfl, hb⟩
  have K0 := (K0).on hb
  have K1 := (K1).on hb
  have K2 := (K2).on hb
  have HB := below_after HB hb HB.size
  clear hb
  have c0 := K0.c
  have z0 := K0.lt
  have c1 := K1.c
  have z1 := K1.lt
  have c2 := K2.c
  have z2 := K2.lt
  go_wp2_with fail
  refine (apply_any _ _ _ _ h0 hm _).mono ?_
  rintro e w6 ⟨rfl, hb⟩
  have K0 := (K0).on hb
  have K1 := (K1).on hb
  have K2 := (K2).on hb
  have HB := below_after HB hb HB.size
  clear hb
  have c0 := K0.c
  have z0 := K0.lt
  have c1 := K1.c
  have z1 := K1.lt
  have c2 := K2.c
  have z2 := K2.lt
  go_wp2_with fail
  refine (apply_any _ _ _ _ h1 hm _).mono ?_
  rintro e w7 ⟨rfl, hb⟩
  have K0 := (K0.alloc _).on hb
  have K1 := (K1.alloc _).on hb
  have K2 := (K2.alloc _).on hb
  have K3 := Blk.on (g := w6.heap.size) (t := 23) (cs := #[.int .i64 0, .int .i64 (applyL o0 x0 l)]) (by repeat (first | exact Blk.at_ _ _ _ (by simp) | refine Blk.alloc ?_ _)) hb
  have HB := below_after (HB.alloc HB.size _) hb (HB.alloc HB.size _).size
  clear hb
  have c0 := K0.c
  have z0 := K0.lt
  have c1 := K1.c
  have z1 := K1.lt
  have c2 := K2.c
  have z2 := K2.lt
  have c3 := K3.c
  have z3 := K3.lt
  go_wp2_with fail
  refine (then_any _ _ _ _ h0 h2 _).mono ?_
  rintro e w8 ⟨rfl, hb⟩
  have K0 := (K0.alloc _).on hb
  have K1 := (K1.alloc _).on hb
  have K2 := (K2.alloc _).on hb
  have K3 := (K3.alloc _).on hb
  have K4 := Blk.on (g := w7.heap.size) (t := 23) (cs := #[.int .i64 0, .int .i64 (applyL o1 x1 l)]) (by repeat (first | exact Blk.at_ _ _ _ (by simp) | refine Blk.alloc ?_ _)) hb
  have HB := below_after (HB.alloc HB.size _) hb (HB.alloc HB.size _).size
  clear hb
  have c0 := K0.c
  have z0 := K0.lt
  have c1 := K1.c
  have z1 := K1.lt
  have c2 := K2.c
  have z2 := K2.lt
  have c3 := K3.c
  have z3 := K3.lt
  have c4 := K4.c
  have z4 := K4.lt
  go_wp2_with fail
  refine (then_any _ _ _ _ h1 h2 _).mono ?_
  rintro e w9 ⟨rfl, hb⟩
  have K0 := (K0.alloc _).on hb
  have K1 := (K1.alloc _).on hb
  have K2 := (K2.alloc _).on hb
  have K3 := (K3.alloc _).on hb
  have K4 := (K4.alloc _).on hb
  have K5 := Blk.on (g := w8.heap.size) (t := 30) (cs := #[.bool (thenO o0 o2), .int .i64 (thenA x0 o2 x2)]) (by repeat (first | exact Blk.at_ _ _ _ (by simp) | refine Blk.alloc ?_ _)) hb
  have HB := below_after (HB.alloc HB.size _) hb (HB.alloc HB.size _).size
  clear hb
  have c0 := K0.c
  have z0 := K0.lt
  have c1 := K1.c
  have z1 := K1.lt
  have c2 := K2.c
  have z2 := K2.lt
  have c3 := K3.c
  have z3 := K3.lt
  have c4 := K4.c
  have z4 := K4.lt
  have c5 := K5.c
  have z5 := K5.lt
  go_wp2_with fail
  refine (then_any _ _ _ _ h2 h0 _).mono ?_
  rintro e w10 ⟨rfl, hb⟩
  have K0 := (K0.alloc _).on hb
  have K1 := (K1.alloc _).on hb
  have K2 := (K2.alloc _).on hb
  have K3 := (K3.alloc _).on hb
  have K4 := (K4.alloc _).on hb
  have K5 := (K5.alloc _).on hb
  have K6 := Blk.on (g := w9.heap.size) (t := 30) (cs := #[.bool (thenO o1 o2), .int .i64 (thenA x1 o2 x2)]) (by repeat (first | exact Blk.at_ _ _ _ (by simp) | refine Blk.alloc ?_ _)) hb
  have HB := below_after (HB.alloc HB.size _) hb (HB.alloc HB.size _).size
  clear hb
  have c0 := K0.c
  have z0 := K0.lt
  have c1 := K1.c
  have z1 := K1.lt
  have c2 := K2.c
  have z2 := K2.lt
  have c3 := K3.c
  have z3 := K3.lt
  have c4 := K4.c
  have z4 := K4.lt
  have c5 := K5.c
  have z5 := K5.lt
  have c6 := K6.c
  have z6 := K6.lt
  go_wp2_with fail
  refine (then_any _ _ _ _ h2 h1 _).mono ?_
  rintro e w11 ⟨rfl, hb⟩
  have K0 := (K0.alloc _).on hb
  have K1 := (K1.alloc _).on hb
  have K2 := (K2.alloc _).on hb
  have K3 := (K3.alloc _).on hb
  have K4 := (K4.alloc _).on hb
  have K5 := (K5.alloc _).on hb
  have K6 := (K6.alloc _).on hb
  have K7 := Blk.on (g := w10.heap.size) (t := 30) (cs := #[.bool (thenO o2 o0), .int .i64 (thenA x2 o0 x0)]) (by repeat (first | exact Blk.at_ _ _ _ (by simp) | refine Blk.alloc ?_ _)) hb
  have HB := below_after (HB.alloc HB.size _) hb (HB.alloc HB.size _).size
  clear hb
  have c0 := K0.c
  have z0 := K0.lt
  have c1 := K1.c
  have z1 := K1.lt
  have c2 := K2.c
  have z2 := K2.lt
  have c3 := K3.c
  have z3 := K3.lt
  have c4 := K4.c
  have z4 := K4.lt
  have c5 := K5.c
  have z5 := K5.lt
  have c6 := K6.c
  have z6 := K6.lt
  have c7 := K7.c
  have z7 := K7.lt
  go_wp2_with fail
  refine (under_any _ _ _ _ h0 h1 _).mono ?_
  rintro e w12 ⟨rfl, hb⟩
  have K0 := (K0.alloc _).on hb
  have K1 := (K1.alloc _).on hb
  have K2 := (K2.alloc _).on hb
  have K3 := (K3.alloc _).on hb
  have K4 := (K4.alloc _).on hb
  have K5 := (K5.alloc _).on hb
  have K6 := (K6.alloc _).on hb
  have K7 := (K7.alloc _).on hb
  have K8 := Blk.on (g := w11.heap.size) (t := 30) (cs := #[.bool (thenO o2 o1), .int .i64 (thenA x2 o1 x1)]) (by repeat (first | exact Blk.at_ _ _ _ (by simp) | refine Blk.alloc ?_ _)) hb
  have HB := below_after (HB.alloc HB.size _) hb (HB.alloc HB.size _).size
  clear hb
  have c0 := K0.c
  have z0 := K0.lt
  have c1 := K1.c
  have z1 := K1.lt
  have c2 := K2.c
  have z2 := K2.lt
  have c3 := K3.c
  have z3 := K3.lt
  have c4 := K4.c
  have z4 := K4.lt
  have c5 := K5.c
  have z5 := K5.lt
  have c6 := K6.c
  have z6 := K6.lt
  have c7 := K7.c
  have z7 := K7.lt
  have c8 := K8.c
  have z8 := K8.lt
  go_wp2_with fail
  refine (apply_any _ _ _ _ h0 rfl _).mono ?_
  rintro e w13 ⟨rfl, hb⟩
  have K0 := (K0).on hb
  have K1 := (K1).on hb
  have K2 := (K2).on hb
  have K3 := (K3).on hb
  have K4 := (K4).on hb
  have K5 := (K5).on hb
  have K6 := (K6).on hb
  have K7 := (K7).on hb
  have K8 := (K8).on hb
  have HB := below_after HB hb HB.size
  clear hb
  have c0 := K0.c
  have z0 := K0.lt
  have c1 := K1.c
  have z1 := K1.lt
  have c2 := K2.c
  have z2 := K2.lt
  have c3 := K3.c
  have z3 := K3.lt
  have c4 := K4.c
  have z4 := K4.lt
  have c5 := K5.c
  have z5 := K5.lt
  have c6 := K6.c
  have z6 := K6.lt
  have c7 := K7.c
  have z7 := K7.lt
  have c8 := K8.c
  have z8 := K8.lt
  go_wp2_with fail
  refine (apply_any _ _ _ _ h1 rfl _).mono ?_
  rintro e w14 ⟨rfl, hb⟩
  have K0 := (K0.alloc _).on hb
  have K1 := (K1.alloc _).on hb
  have K2 := (K2.alloc _).on hb
  have K3 := (K3.alloc _).on hb
  have K4 := (K4.alloc _).on hb
  have K5 := (K5.alloc _).on hb
  have K6 := (K6.alloc _).on hb
  have K7 := (K7.alloc _).on hb
  have K8 := (K8.alloc _).on hb
  have K9 := Blk.on (g := w13.heap.size) (t := 23) (cs := #[.int .i64 0, .int .i64 (applyL o0 x0 0)]) (by repeat (first | exact Blk.at_ _ _ _ (by simp) | refine Blk.alloc ?_ _)) hb
  have HB := below_after (HB.alloc HB.size _) hb (HB.alloc HB.size _).size
  clear hb
  have c0 := K0.c
  have z0 := K0.lt
  have c1 := K1.c
  have z1 := K1.lt
  have c2 := K2.c
  have z2 := K2.lt
  have c3 := K3.c
  have z3 := K3.lt
  have c4 := K4.c
  have z4 := K4.lt
  have c5 := K5.c
  have z5 := K5.lt
  have c6 := K6.c
  have z6 := K6.lt
  have c7 := K7.c
  have z7 := K7.lt
  have c8 := K8.c
  have z8 := K8.lt
  have c9 := K9.c
  have z9 := K9.lt
  go_wp2_with fail
  refine (apply_any _ _ _ _ h0 rfl _).mono ?_
  rintro e w15 ⟨rfl, hb⟩
  have K0 := (K0.alloc _).on hb
  have K1 := (K1.alloc _).on hb
  have K2 := (K2.alloc _).on hb
  have K3 := (K3.alloc _).on hb
  have K4 := (K4.alloc _).on hb
  have K5 := (K5.alloc _).on hb
  have K6 := (K6.alloc _).on hb
  have K7 := (K7.alloc _).on hb
  have K8 := (K8.alloc _).on hb
  have K9 := (K9.alloc _).on hb
  have K10 := Blk.on (g := w14.heap.size) (t := 23) (cs := #[.int .i64 0, .int .i64 (applyL o1 x1 0)]) (by repeat (first | exact Blk.at_ _ _ _ (by simp) | refine Blk.alloc ?_ _)) hb
  have HB := below_after (HB.alloc HB.size _) hb (HB.alloc HB.size _).size
  clear hb
  have c0 := K0.c
  have z0 := K0.lt
  have c1 := K1.c
  have z1 := K1.lt
  have c2 := K2.c
  have z2 := K2.lt
  have c3 := K3.c
  have z3 := K3.lt
  have c4 := K4.c
  have z4 := K4.lt
  have c5 := K5.c
  have z5 := K5.lt
  have c6 := K6.c
  have z6 := K6.lt
  have c7 := K7.c
  have z7 := K7.lt
  have c8 := K8.c
  have z8 := K8.lt
  have c9 := K9.c
  have z9 := K9.lt
  have c10 := K10.c
  have z10 := K10.lt
  go_wp2_with fail
  refine (apply_any _ _ _ _ h1 rfl _).mono ?_
  rintro e w16 ⟨rfl, hb⟩
  have K0 := (K0.alloc _).on hb
  have K1 := (K1.alloc _).on hb
  have K2 := (K2.alloc _).on hb
  have K3 := (K3.alloc _).on hb
  have K4 := (K4.alloc _).on hb
  have K5 := (K5.alloc _).on hb
  have K6 := (K6.alloc _).on hb
  have K7 := (K7.alloc _).on hb
  have K8 := (K8.alloc _).on hb
  have K9 := (K9.alloc _).on hb
  have K10 := (K10.alloc _).on hb
  have K11 := Blk.on (g := w15.heap.size) (t := 23) (cs := #[.int .i64 0, .int .i64 (applyL o0 x0 1073741824)]) (by repeat (first | exact Blk.at_ _ _ _ (by simp) | refine Blk.alloc ?_ _)) hb
  have HB := below_after (HB.alloc HB.size _) hb (HB.alloc HB.size _).size
  clear hb
  have c0 := K0.c
  have z0 := K0.lt
  have c1 := K1.c
  have z1 := K1.lt
  have c2 := K2.c
  have z2 := K2.lt
  have c3 := K3.c
  have z3 := K3.lt
  have c4 := K4.c
  have z4 := K4.lt
  have c5 := K5.c
  have z5 := K5.lt
  have c6 := K6.c
  have z6 := K6.lt
  have c7 := K7.c
  have z7 := K7.lt
  have c8 := K8.c
  have z8 := K8.lt
  have c9 := K9.c
  have z9 := K9.lt
  have c10 := K10.c
  have z10 := K10.lt
  have c11 := K11.c
  have z11 := K11.lt
  go_wp2_with fail
  go_ret
  exact ⟨by simp, (HB.alloc HB.size _)⟩

theorem timeUnder_walk (o0 : Bool) (x0 : Int) (o1 : Bool) (x1 : Int) (o2 : Bool) (x2 l : Int) (w : World) :
    Calls Try.prog 6 #[pv o0 x0, pv o1 x1, pv o2 x2, .int .i64 l] w fun e w' => e = .returned (.bool true) ∧ Below w.heap.size w w' := by
  cases h0 : pathB x0
  · exact under_early0 o0 x0 o1 x1 o2 x2 l h0 w
  cases h1 : pathB x1
  · exact under_early1 o0 x0 o1 x1 o2 x2 l h0 h1 w
  cases h2 : pathB x2
  · exact under_early2 o0 x0 o1 x1 o2 x2 l h0 h1 h2 w
  by_cases hl : l < 0
  · exact under_early3 o0 x0 o1 x1 o2 x2 l h0 h1 h2 hl w
  by_cases hl2 : 1073741824 < l
  · exact under_early4 o0 x0 o1 x1 o2 x2 l h0 h1 h2 hl hl2 w
  have hm : mayB 0 l = true := by simp [mayB]; omega
  cases hu : underB o0 x0 o1 x1
  · by_cases g0 : applyL o1 x1 0 < applyL o0 x0 0
    · exact under_main0a o0 x0 o1 x1 o2 x2 l h0 h1 h2 hl hl2 hm hu g0 w
    · exact under_main0b o0 x0 o1 x1 o2 x2 l h0 h1 h2 hl hl2 hm hu g0 ((not_under o0 x0 o1 x1 h0 h1 hu).resolve_left g0) w
  · have g1 := under_le o0 x0 o1 x1 l h0 h1 (by omega) (by omega) hu
    have g2 := under_then o0 x0 o1 x1 o2 x2 h0 h1 h2 hu
    have g3 := then_under o0 x0 o1 x1 o2 x2 h0 h1 h2 hu
    cases hv : underB o1 x1 o2 x2
    · exact under_main10 o0 x0 o1 x1 o2 x2 l h0 h1 h2 hl hl2 hm hu g1 g2 g3 hv w
    · exact under_main11 o0 x0 o1 x1 o2 x2 l h0 h1 h2 hl hl2 hm hu g1 g2 g3 hv (under_trans o0 x0 o1 x1 o2 x2 h0 h1 h2 hu hv) w


namespace timeUnder
set_option maxRecDepth 100000 in
theorem contract (H : Type) (enc : TypeId × Value → H) (W : World) (base : Nat) (args : Array Value) (ds gs : List (DataW H)) (before : List MemPlace)
    (hval : ∀ (j : Nat) t v, Try.f6.params[j]? = some t → args[j]? = some v → Value.okWide Try.prog W .any base t v)
    (hW : DataW.Whole enc Try.prog Try.f6.params.toList Rows.timeUnderSpec.vars false W args.toList ds gs before) :
    Calls Try.prog 6 args W fun e W' => ∃ v, e = .returned v ∧ Rows.timeUnderSpec.post enc Try.prog Try.f6 false true false false W args v W' := by
  have hWc := hW
  obtain ⟨p, q, hA0, hV, _, _, _⟩ := hW
  have hA : DataW.TrodAll enc Try.prog W 0 (fun _ => true) true Try.f6.params.toList args.toList ds p := hA0
  clear hA0
  rw [Try.params6] at hA hval
  obtain ⟨v0, vs0, d0, ds0, p0, q0, hargs, rfl, rfl, h0, r0⟩ := trodAll_cons hA
  obtain ⟨v1, vs1, d1, ds1, p1, q1, rfl, rfl, rfl, h1, r1⟩ := trodAll_cons r0
  obtain ⟨v2, vs2, d2, ds2, p2, q2, rfl, rfl, rfl, h2, r2⟩ := trodAll_cons r1
  obtain ⟨v3, vs3, d3, ds3, p3, q3, rfl, rfl, rfl, h3, r3⟩ := trodAll_cons r2
  obtain ⟨rfl, rfl, rfl⟩ := trodAll_nil r3
  obtain rfl : args = #[v0, v1, v2, v3] := by cases args; simp_all
  obtain ⟨c0, c0', y0, y0', m0, rfl, rfl, rfl, hy0, hy0'⟩ := open_agg2 Try.underlying30 (by kernel_rfl) (by kernel_rfl : Try.prog.cellsOf 30 = 2) (hval 0 30 v0 rfl rfl) h0
  obtain ⟨a0, e0, rfl⟩ := DataW.trod_bool Try.underlying4 hy0
  obtain ⟨b0, e0', rfl, wb0⟩ := DataW.trod_int Try.underlying3 hy0'
  simp at e0 e0'
  subst e0 e0'
  obtain ⟨c1, c1', y1, y1', m1, rfl, rfl, rfl, hy1, hy1'⟩ := open_agg2 Try.underlying30 (by kernel_rfl) (by kernel_rfl : Try.prog.cellsOf 30 = 2) (hval 1 30 v1 rfl rfl) h1
  obtain ⟨a1, e1, rfl⟩ := DataW.trod_bool Try.underlying4 hy1
  obtain ⟨b1, e1', rfl, wb1⟩ := DataW.trod_int Try.underlying3 hy1'
  simp at e1 e1'
  subst e1 e1'
  obtain ⟨c2, c2', y2, y2', m2, rfl, rfl, rfl, hy2, hy2'⟩ := open_agg2 Try.underlying30 (by kernel_rfl) (by kernel_rfl : Try.prog.cellsOf 30 = 2) (hval 2 30 v2 rfl rfl) h2
  obtain ⟨a2, e2, rfl⟩ := DataW.trod_bool Try.underlying4 hy2
  obtain ⟨b2, e2', rfl, wb2⟩ := DataW.trod_int Try.underlying3 hy2'
  simp at e2 e2'
  subst e2 e2'
  obtain ⟨a3, rfl, rfl, rfl, wa3⟩ := open_int Try.underlying3 (hval 3 3 v3 rfl rfl) h3
  refine (timeUnder_walk a0 b0 a1 b1 a2 b2 a3 W).mono fun e W' ⟨he, hb⟩ => ⟨_, he, ?_⟩
  exact post_true hWc rfl hb laidOut (readables (by kernel_rfl)) rfl Try.underlying4 (fun h => by subst h; rfl)

set_option maxRecDepth 100000 in
theorem lifted (os : Os) (started : os.Started) (H : Type) (enc : TypeId × Value → H) :
    ReturnsInHanded {} Try.checked os 6 .any (Rows.timeUnderSpec.pre6 enc Try.prog Try.f6 Rows.timeUnderRow.domain false) (Rows.timeUnderSpec.post enc Try.prog Try.f6 false true false false) := by
  refine returnsInHanded_of_change (C := Try.checked) own started (by kernel_rfl) Try.func6
    (ChangeSpec.witness6 (enc := enc) (C := Try.checked) false ⟨#[], #[.agg #[.bool false, .int .i64 0], .agg #[.bool false, .int .i64 0], .agg #[.bool false, .int .i64 0], .int .i64 0], []⟩ 8 (by kernel_rfl) (by kernel_rfl) (by kernel_rfl) (by kernel_rfl)) ?_
  intro W base args ds gs before hval hW _ _
  exact contract H enc W base args ds gs before hval hW

theorem proved : Rows.TimeUnderSaid :=
  OpenClaim.holds_of_wide 6 Try.f6 rfl rfl rfl rfl rfl rfl rfl ⟨rfl, rfl, rfl, rfl, rfl⟩ rfl rfl rfl rfl rfl (by kernel_rfl) Try.func6 (by kernel_rfl)
    (of_decide_eq_true (by kernel_rfl)) (by unfold Func.isWrapper; first | (rw [if_pos (by decide +kernel)]; kernel_rfl) | (rw [if_neg (by decide +kernel)]; exact ⟨rfl, rfl⟩))
    (fun os started H enc _ => lifted os started H enc)
end timeUnder
end Go.Proofs.Ytpmkbhmmdfkhpaa
