/-
  TimeJoins: joins and meets hang on no order and no brackets, and undo each other, for all three times; the call returns true and changes nothing that was in memory.
-/
import Derived.Test.YtpmkbhmmdfkhpaaPtime2
import Derived.Test.YtpmkbhmmdfkhpaaRow
namespace Go.Proofs.Ytpmkbhmmdfkhpaa
open Go.ChangeShapes Go.WideShapes Go.ChangeAt Go.RowKit Go.Joins

set_option maxHeartbeats 1000000 in
theorem timeJoins_walk (a0 b0 a1 b1 a2 b2 : Int) (w : World) :
    Calls Try.prog 3 #[tv a0 b0, tv a1 b1, tv a2 b2] w fun e w' => e = .returned (.bool true) ∧ Below w.heap.size w w' := by
  have x1 : max a1 a0 = max a0 a1 := by omega
  have x2 : max b1 b0 = max b0 b1 := by omega
  have x3 : max (max a0 a1) a2 = max a0 (max a1 a2) := by omega
  have x4 : max (max b0 b1) b2 = max b0 (max b1 b2) := by omega
  have y1 : min a1 a0 = min a0 a1 := by omega
  have y2 : min b1 b0 = min b0 b1 := by omega
  have y3 : min (min a0 a1) a2 = min a0 (min a1 a2) := by omega
  have y4 : min (min b0 b1) b2 = min b0 (min b1 b2) := by omega
  have z1 : max a0 (min a0 a1) = a0 := by omega
  have z2 : max b0 (min b0 b1) = b0 := by omega
  have z3 : min a0 (max a0 a1) = a0 := by omega
  have z4 : min b0 (max b0 b1) = b0 := by omega
  go_enter Try.func3, Try.ntmps3
  go_wp2_with fail
  refine (alive_any _).mono ?_
  rintro e w1 ⟨rfl, hb⟩
  have K0 := Blk.on (g := w.heap.size) (t := 23) (cs := #[.int .i64 a0, .int .i64 b0]) (by repeat (first | exact Blk.at_ _ _ _ (by simp) | refine Blk.alloc ?_ _)) hb
  have K1 := Blk.on (g := w.heap.size + 1) (t := 23) (cs := #[.int .i64 a1, .int .i64 b1]) (by repeat (first | exact Blk.at_ _ _ _ (by simp) | refine Blk.alloc ?_ _)) hb
  have K2 := Blk.on (g := w.heap.size + 1 + 1) (t := 23) (cs := #[.int .i64 a2, .int .i64 b2]) (by repeat (first | exact Blk.at_ _ _ _ (by simp) | refine Blk.alloc ?_ _)) hb
  have c0 := K0.c
  have c1 := K1.c
  have c2 := K2.c
  have HB : Below w.heap.size w w1 := by repeat (first | exact Below.refl _ _ | refine Below.setCell ?_ (by first | omega | (simp; done) | (simp; omega)) _ | refine Below.alloc ?_ (by first | omega | (simp; done) | (simp; omega)) _ | refine Below.drew ?_ | refine below_drewN ?_ _ | refine below_after ?_ (by assumption) (by first | omega | (simp; done) | (simp; omega)))
  clear hb
  go_wp2_with fail
  go_region_held3 (fun W => Below w.heap.size w W ∧ Blk W (w.heap.size) 23 #[.int .i64 a0, .int .i64 b0] ∧ Blk W (w.heap.size + 1) 23 #[.int .i64 a1, .int .i64 b1] ∧ Blk W (w.heap.size + 1 + 1) 23 #[.int .i64 a2, .int .i64 b2] ∧ (∀ i, W.cell? ⟨w.heap.size, i, none⟩ = #[.int .i64 a0, .int .i64 b0][i]?) ∧ (∀ i, W.cell? ⟨w.heap.size + 1, i, none⟩ = #[.int .i64 a1, .int .i64 b1][i]?) ∧ (∀ i, W.cell? ⟨w.heap.size + 1 + 1, i, none⟩ = #[.int .i64 a2, .int .i64 b2][i]?)) (first | exact ⟨HB.drew, K0, K1, K2, c0, c1, c2⟩ | exact keep3 (by assumption) hb (Nat.le_refl _)) (first | (go_at_call 8; refine (join_any _ _ _ _ _).mono ?_; rintro e w1 ⟨rfl, hb⟩) | (go_at_call 9; refine (meet_any _ _ _ _ _).mono ?_; rintro e w1 ⟨rfl, hb⟩))
  obtain ⟨HB, K0, K1, K2, c0, c1, c2⟩ := (by assumption : (fun W => Below w.heap.size w W ∧ Blk W (w.heap.size) 23 #[.int .i64 a0, .int .i64 b0] ∧ Blk W (w.heap.size + 1) 23 #[.int .i64 a1, .int .i64 b1] ∧ Blk W (w.heap.size + 1 + 1) 23 #[.int .i64 a2, .int .i64 b2] ∧ (∀ i, W.cell? ⟨w.heap.size, i, none⟩ = #[.int .i64 a0, .int .i64 b0][i]?) ∧ (∀ i, W.cell? ⟨w.heap.size + 1, i, none⟩ = #[.int .i64 a1, .int .i64 b1][i]?) ∧ (∀ i, W.cell? ⟨w.heap.size + 1 + 1, i, none⟩ = #[.int .i64 a2, .int .i64 b2][i]?)) w1)
  clear hb
  go_wp2_with fail
  go_region_held3 (fun W => Below w.heap.size w W ∧ Blk W (w.heap.size) 23 #[.int .i64 a0, .int .i64 b0] ∧ Blk W (w.heap.size + 1) 23 #[.int .i64 a1, .int .i64 b1] ∧ Blk W (w.heap.size + 1 + 1) 23 #[.int .i64 a2, .int .i64 b2] ∧ (∀ i, W.cell? ⟨w.heap.size, i, none⟩ = #[.int .i64 a0, .int .i64 b0][i]?) ∧ (∀ i, W.cell? ⟨w.heap.size + 1, i, none⟩ = #[.int .i64 a1, .int .i64 b1][i]?) ∧ (∀ i, W.cell? ⟨w.heap.size + 1 + 1, i, none⟩ = #[.int .i64 a2, .int .i64 b2][i]?)) (first | exact ⟨HB.drew, K0, K1, K2, c0, c1, c2⟩ | exact keep3 (by assumption) hb (Nat.le_refl _)) (first | (go_at_call 8; refine (join_any _ _ _ _ _).mono ?_; rintro e w1 ⟨rfl, hb⟩) | (go_at_call 9; refine (meet_any _ _ _ _ _).mono ?_; rintro e w1 ⟨rfl, hb⟩))
  obtain ⟨HB, K0, K1, K2, c0, c1, c2⟩ := (by assumption : (fun W => Below w.heap.size w W ∧ Blk W (w.heap.size) 23 #[.int .i64 a0, .int .i64 b0] ∧ Blk W (w.heap.size + 1) 23 #[.int .i64 a1, .int .i64 b1] ∧ Blk W (w.heap.size + 1 + 1) 23 #[.int .i64 a2, .int .i64 b2] ∧ (∀ i, W.cell? ⟨w.heap.size, i, none⟩ = #[.int .i64 a0, .int .i64 b0][i]?) ∧ (∀ i, W.cell? ⟨w.heap.size + 1, i, none⟩ = #[.int .i64 a1, .int .i64 b1][i]?) ∧ (∀ i, W.cell? ⟨w.heap.size + 1 + 1, i, none⟩ = #[.int .i64 a2, .int .i64 b2][i]?)) w1)
  clear hb
  go_wp2_with fail
  go_region_held3 (fun W => Below w.heap.size w W ∧ Blk W (w.heap.size) 23 #[.int .i64 a0, .int .i64 b0] ∧ Blk W (w.heap.size + 1) 23 #[.int .i64 a1, .int .i64 b1] ∧ Blk W (w.heap.size + 1 + 1) 23 #[.int .i64 a2, .int .i64 b2] ∧ (∀ i, W.cell? ⟨w.heap.size, i, none⟩ = #[.int .i64 a0, .int .i64 b0][i]?) ∧ (∀ i, W.cell? ⟨w.heap.size + 1, i, none⟩ = #[.int .i64 a1, .int .i64 b1][i]?) ∧ (∀ i, W.cell? ⟨w.heap.size + 1 + 1, i, none⟩ = #[.int .i64 a2, .int .i64 b2][i]?)) (first | exact ⟨HB.drew, K0, K1, K2, c0, c1, c2⟩ | exact keep3 (by assumption) hb (Nat.le_refl _)) (first | (go_at_call 8; refine (join_any _ _ _ _ _).mono ?_; rintro e w1 ⟨rfl, hb⟩) | (go_at_call 9; refine (meet_any _ _ _ _ _).mono ?_; rintro e w1 ⟨rfl, hb⟩))
  obtain ⟨HB, K0, K1, K2, c0, c1, c2⟩ := (by assumption : (fun W => Below w.heap.size w W ∧ Blk W (w.heap.size) 23 #[.int .i64 a0, .int .i64 b0] ∧ Blk W (w.heap.size + 1) 23 #[.int .i64 a1, .int .i64 b1] ∧ Blk W (w.heap.size + 1 + 1) 23 #[.int .i64 a2, .int .i64 b2] ∧ (∀ i, W.cell? ⟨w.heap.size, i, none⟩ = #[.int .i64 a0, .int .i64 b0][i]?) ∧ (∀ i, W.cell? ⟨w.heap.size + 1, i, none⟩ = #[.int .i64 a1, .int .i64 b1][i]?) ∧ (∀ i, W.cell? ⟨w.heap.size + 1 + 1, i, none⟩ = #[.int .i64 a2, .int .i64 b2][i]?)) w1)
  go_wp2_with fail
  go_ret
  exact ⟨rfl, HB⟩


namespace timeJoins
set_option maxRecDepth 100000 in
theorem contract (H : Type) (enc : TypeId × Value → H) (W : World) (base : Nat) (args : Array Value) (ds gs : List (DataW H)) (before : List MemPlace)
    (hval : ∀ (j : Nat) t v, Try.f3.params[j]? = some t → args[j]? = some v → Value.okWide Try.prog W .any base t v)
    (hW : DataW.Whole enc Try.prog Try.f3.params.toList Rows.timeJoinsSpec.vars false W args.toList ds gs before) :
    Calls Try.prog 3 args W fun e W' => ∃ v, e = .returned v ∧ Rows.timeJoinsSpec.post enc Try.prog Try.f3 false true false false W args v W' := by
  have hWc := hW
  obtain ⟨p, q, hA0, hV, _, _, _⟩ := hW
  have hA : DataW.TrodAll enc Try.prog W 0 (fun _ => true) true Try.f3.params.toList args.toList ds p := hA0
  clear hA0
  rw [Try.params3] at hA hval
  obtain ⟨v0, vs0, d0, ds0, p0, q0, hargs, rfl, rfl, h0, r0⟩ := trodAll_cons hA
  obtain ⟨v1, vs1, d1, ds1, p1, q1, rfl, rfl, rfl, h1, r1⟩ := trodAll_cons r0
  obtain ⟨v2, vs2, d2, ds2, p2, q2, rfl, rfl, rfl, h2, r2⟩ := trodAll_cons r1
  obtain ⟨rfl, rfl, rfl⟩ := trodAll_nil r2
  obtain rfl : args = #[v0, v1, v2] := by cases args; simp_all
  obtain ⟨c0, c0', y0, y0', m0, rfl, rfl, rfl, hy0, hy0'⟩ := open_agg2 Try.underlying23 (by kernel_rfl) (by kernel_rfl : Try.prog.cellsOf 23 = 2) (hval 0 23 v0 rfl rfl) h0
  obtain ⟨a0, e0, rfl, wa0⟩ := DataW.trod_int Try.underlying3 hy0
  obtain ⟨b0, e0', rfl, wb0⟩ := DataW.trod_int Try.underlying3 hy0'
  simp at e0 e0'
  subst e0 e0'
  obtain ⟨c1, c1', y1, y1', m1, rfl, rfl, rfl, hy1, hy1'⟩ := open_agg2 Try.underlying23 (by kernel_rfl) (by kernel_rfl : Try.prog.cellsOf 23 = 2) (hval 1 23 v1 rfl rfl) h1
  obtain ⟨a1, e1, rfl, wa1⟩ := DataW.trod_int Try.underlying3 hy1
  obtain ⟨b1, e1', rfl, wb1⟩ := DataW.trod_int Try.underlying3 hy1'
  simp at e1 e1'
  subst e1 e1'
  obtain ⟨c2, c2', y2, y2', m2, rfl, rfl, rfl, hy2, hy2'⟩ := open_agg2 Try.underlying23 (by kernel_rfl) (by kernel_rfl : Try.prog.cellsOf 23 = 2) (hval 2 23 v2 rfl rfl) h2
  obtain ⟨a2, e2, rfl, wa2⟩ := DataW.trod_int Try.underlying3 hy2
  obtain ⟨b2, e2', rfl, wb2⟩ := DataW.trod_int Try.underlying3 hy2'
  simp at e2 e2'
  subst e2 e2'
  refine (timeJoins_walk a0 b0 a1 b1 a2 b2 W).mono fun e W' ⟨he, hb⟩ => ⟨_, he, ?_⟩
  exact post_true hWc rfl hb laidOut (readables (by kernel_rfl)) rfl Try.underlying4 (fun h => by subst h; rfl)

set_option maxRecDepth 100000 in
theorem lifted (os : Os) (started : os.Started) (H : Type) (enc : TypeId × Value → H) :
    ReturnsInHanded {} Try.checked os 3 .any (Rows.timeJoinsSpec.pre6 enc Try.prog Try.f3 Rows.timeJoinsRow.domain false) (Rows.timeJoinsSpec.post enc Try.prog Try.f3 false true false false) := by
  refine returnsInHanded_of_change (C := Try.checked) own started (by kernel_rfl) Try.func3
    (ChangeSpec.witness6 (enc := enc) (C := Try.checked) false ⟨#[], #[.agg #[.int .i64 0, .int .i64 0], .agg #[.int .i64 0, .int .i64 0], .agg #[.int .i64 0, .int .i64 0]], []⟩ 8 (by kernel_rfl) (by kernel_rfl) (by kernel_rfl) (by kernel_rfl)) ?_
  intro W base args ds gs before hval hW _ _
  exact contract H enc W base args ds gs before hval hW

theorem proved : Rows.TimeJoinsSaid :=
  OpenClaim.holds_of_wide 3 Try.f3 rfl rfl rfl rfl rfl rfl rfl ⟨rfl, rfl, rfl, rfl, rfl⟩ rfl rfl rfl rfl rfl (by kernel_rfl) Try.func3 (by kernel_rfl)
    (of_decide_eq_true (by kernel_rfl)) (by unfold Func.isWrapper; first | (rw [if_pos (by decide +kernel)]; kernel_rfl) | (rw [if_neg (by decide +kernel)]; exact ⟨rfl, rfl⟩))
    (fun os started H enc _ => lifted os started H enc)
end timeJoins
end Go.Proofs.Ytpmkbhmmdfkhpaa
