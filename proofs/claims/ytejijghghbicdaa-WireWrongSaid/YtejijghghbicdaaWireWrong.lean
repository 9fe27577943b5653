/-
  WireWrong: which requests have no bytes; the call returns true and changes nothing that was in memory.
-/
import Derived.Test.YtejijghghbicdaaWireLaw
import Derived.Outline
import Derived.Test.YtejijghghbicdaaOpen
namespace Go.Proofs.Ytejijghghbicdaa
open Go.ChangeShapes Go.WideShapes Go.ChangeAt Go.RowKit Go.Joins
set_option linter.unusedSimpArgs false
set_option linter.unusedVariables false

theorem quiet_n {P : Program} {f : FuncId} {args : Array Value} {w : World} {n : Nat} {v : Value}
    (h : Calls P f args (w.drewN n) fun e w' => e = .returned v ∧ w.drewN n = w') : Calls P f args (w.drewN n) fun e w'' => e = .returned v ∧ ∃ m, w'' = w.drewN m :=
  h.mono fun _ _ ⟨he, hm⟩ => ⟨he, n, hm.symm⟩
set_option maxRecDepth 100000 in
set_option maxHeartbeats 1000000 in
theorem wrong_early {x : Int} (w : World) (h : x < 0 ∨ 17 ≤ x) :
    Calls Try.prog 8 #[.int .i64 x] w fun e w' => e = .returned (.bool true) ∧ Below w.heap.size w w' := by
  by_cases h1 : x < 0
  · clear h
    go_enter Try.func8, Try.ntmps8
    go_wp2_with fail
    refine (alive2_any _).mono ?_
    rintro e w1 ⟨rfl, hb⟩
    go_wp2_with fail
    go_ret
    exact ⟨rfl, (hb.alloc hb.size _).alloc (by have := hb.size; simp; omega) _⟩
  · have h2 : 17 ≤ x := by omega
    clear h
    go_enter Try.func8, Try.ntmps8
    go_wp2_with fail
    refine (alive2_any _).mono ?_
    rintro e w1 ⟨rfl, hb⟩
    go_wp2_with fail
    go_ret
    exact ⟨rfl, (hb.alloc hb.size _).alloc (by have := hb.size; simp; omega) _⟩

set_option maxRecDepth 100000 in
set_option maxHeartbeats 8000000 in
theorem wrong_main {x : Int} (w : World) (h0 : ¬ x < 0) (h17 : ¬ 17 ≤ x) : Calls Try.prog 8 #[.int .i64 x] w fun e w' => e = .returned (.bool true) ∧ Below w.heap.size w w' := by
  go_enter Try.func8, Try.ntmps8
  go_wp2_with fail
  refine (alive2_any _).mono ?_
  rintro e w1 ⟨rfl, hb1⟩
  go_upto_region 6 with (fail)
  have K0 : Blk ((w1.alloc (.cells #[.int .i64 0, .int .i64 0, .int .i64 0, .int .i64 0, .int .i64 0, .int .i64 0, .int .i64 5, .int .i64 0, .int .i64 0, .int .i64 0, .int .i64 0, .int .i64 0, .int .i64 1, .int .i64 (-1), .int .i64 0, .int .i64 0, .int .i64 0, .int .i64 0, .int .i64 1, .int .i64 0, .int .i64 (-1), .int .i64 0, .int .i64 0, .int .i64 0, .int .i64 2, .int .i64 0, .int .i64 0, .int .i64 65536, .int .i64 0, .int .i64 0, .int .i64 1, .int .i64 0, .int .i64 0, .int .i64 0, .int .i64 0, .int .i64 1, .int .i64 3, .int .i64 0, .int .i64 0, .int .i64 0, .int .i64 0, .int .i64 0, .int .i64 3, .int .i64 0, .int .i64 0, .int .i64 0, .int .i64 5, .int .i64 0, .int .i64 3, .int .i64 0, .int .i64 0, .int .i64 0, .int .i64 1, .int .i64 (-1), .int .i64 3, .int .i64 0, .int .i64 0, .int .i64 0, .int .i64 2, .int .i64 1, .int .i64 3, .int .i64 0, .int .i64 0, .int .i64 0, .int .i64 3, .int .i64 1, .int .i64 3, .int .i64 0, .int .i64 0, .int .i64 1, .int .i64 1, .int .i64 0, .int .i64 4, .int .i64 0, .int .i64 0, .int .i64 0, .int .i64 0, .int .i64 (-1), .int .i64 4, .int .i64 0, .int .i64 0, .int .i64 0, .int .i64 1, .int .i64 0, .int .i64 4, .int .i64 0, .int .i64 1, .int .i64 0, .int .i64 0, .int .i64 0, .int .i64 4, .int .i64 0, .int .i64 0, .int .i64 0, .int .i64 0, .int .i64 9223372036854775807, .int .i64 3, .int .i64 0, .int .i64 0, .int .i64 0, .int .i64 4, .int .i64 9223372036854775807] 50)).alloc (.cells #[.int .i64 1, .int .i64 1, .int .i64 1, .int .i64 1, .int .i64 1, .int .i64 1, .int .i64 1, .int .i64 1, .int .i64 1, .int .i64 1, .int .i64 1, .int .i64 1, .int .i64 1, .int .i64 1, .int .i64 1, .int .i64 0, .int .i64 0] 3)) (w1.heap.size) 50 #[.int .i64 0, .int .i64 0, .int .i64 0, .int .i64 0, .int .i64 0, .int .i64 0, .int .i64 5, .int .i64 0, .int .i64 0, .int .i64 0, .int .i64 0, .int .i64 0, .int .i64 1, .int .i64 (-1), .int .i64 0, .int .i64 0, .int .i64 0, .int .i64 0, .int .i64 1, .int .i64 0, .int .i64 (-1), .int .i64 0, .int .i64 0, .int .i64 0, .int .i64 2, .int .i64 0, .int .i64 0, .int .i64 65536, .int .i64 0, .int .i64 0, .int .i64 1, .int .i64 0, .int .i64 0, .int .i64 0, .int .i64 0, .int .i64 1, .int .i64 3, .int .i64 0, .int .i64 0, .int .i64 0, .int .i64 0, .int .i64 0, .int .i64 3, .int .i64 0, .int .i64 0, .int .i64 0, .int .i64 5, .int .i64 0, .int .i64 3, .int .i64 0, .int .i64 0, .int .i64 0, .int .i64 1, .int .i64 (-1), .int .i64 3, .int .i64 0, .int .i64 0, .int .i64 0, .int .i64 2, .int .i64 1, .int .i64 3, .int .i64 0, .int .i64 0, .int .i64 0, .int .i64 3, .int .i64 1, .int .i64 3, .int .i64 0, .int .i64 0, .int .i64 1, .int .i64 1, .int .i64 0, .int .i64 4, .int .i64 0, .int .i64 0, .int .i64 0, .int .i64 0, .int .i64 (-1), .int .i64 4, .int .i64 0, .int .i64 0, .int .i64 0, .int .i64 1, .int .i64 0, .int .i64 4, .int .i64 0, .int .i64 1, .int .i64 0, .int .i64 0, .int .i64 0, .int .i64 4, .int .i64 0, .int .i64 0, .int .i64 0, .int .i64 0, .int .i64 9223372036854775807, .int .i64 3, .int .i64 0, .int .i64 0, .int .i64 0, .int .i64 4, .int .i64 9223372036854775807] := (Blk.new w1 50 #[.int .i64 0, .int .i64 0, .int .i64 0, .int .i64 0, .int .i64 0, .int .i64 0, .int .i64 5, .int .i64 0, .int .i64 0, .int .i64 0, .int .i64 0, .int .i64 0, .int .i64 1, .int .i64 (-1), .int .i64 0, .int .i64 0, .int .i64 0, .int .i64 0, .int .i64 1, .int .i64 0, .int .i64 (-1), .int .i64 0, .int .i64 0, .int .i64 0, .int .i64 2, .int .i64 0, .int .i64 0, .int .i64 65536, .int .i64 0, .int .i64 0, .int .i64 1, .int .i64 0, .int .i64 0, .int .i64 0, .int .i64 0, .int .i64 1, .int .i64 3, .int .i64 0, .int .i64 0, .int .i64 0, .int .i64 0, .int .i64 0, .int .i64 3, .int .i64 0, .int .i64 0, .int .i64 0, .int .i64 5, .int .i64 0, .int .i64 3, .int .i64 0, .int .i64 0, .int .i64 0, .int .i64 1, .int .i64 (-1), .int .i64 3, .int .i64 0, .int .i64 0, .int .i64 0, .int .i64 2, .int .i64 1, .int .i64 3, .int .i64 0, .int .i64 0, .int .i64 0, .int .i64 3, .int .i64 1, .int .i64 3, .int .i64 0, .int .i64 0, .int .i64 1, .int .i64 1, .int .i64 0, .int .i64 4, .int .i64 0, .int .i64 0, .int .i64 0, .int .i64 0, .int .i64 (-1), .int .i64 4, .int .i64 0, .int .i64 0, .int .i64 0, .int .i64 1, .int .i64 0, .int .i64 4, .int .i64 0, .int .i64 1, .int .i64 0, .int .i64 0, .int .i64 0, .int .i64 4, .int .i64 0, .int .i64 0, .int .i64 0, .int .i64 0, .int .i64 9223372036854775807, .int .i64 3, .int .i64 0, .int .i64 0, .int .i64 0, .int .i64 4, .int .i64 9223372036854775807]).alloc _
  have K : Blk ((w1.alloc (.cells #[.int .i64 0, .int .i64 0, .int .i64 0, .int .i64 0, .int .i64 0, .int .i64 0, .int .i64 5, .int .i64 0, .int .i64 0, .int .i64 0, .int .i64 0, .int .i64 0, .int .i64 1, .int .i64 (-1), .int .i64 0, .int .i64 0, .int .i64 0, .int .i64 0, .int .i64 1, .int .i64 0, .int .i64 (-1), .int .i64 0, .int .i64 0, .int .i64 0, .int .i64 2, .int .i64 0, .int .i64 0, .int .i64 65536, .int .i64 0, .int .i64 0, .int .i64 1, .int .i64 0, .int .i64 0, .int .i64 0, .int .i64 0, .int .i64 1, .int .i64 3, .int .i64 0, .int .i64 0, .int .i64 0, .int .i64 0, .int .i64 0, .int .i64 3, .int .i64 0, .int .i64 0, .int .i64 0, .int .i64 5, .int .i64 0, .int .i64 3, .int .i64 0, .int .i64 0, .int .i64 0, .int .i64 1, .int .i64 (-1), .int .i64 3, .int .i64 0, .int .i64 0, .int .i64 0, .int .i64 2, .int .i64 1, .int .i64 3, .int .i64 0, .int .i64 0, .int .i64 0, .int .i64 3, .int .i64 1, .int .i64 3, .int .i64 0, .int .i64 0, .int .i64 1, .int .i64 1, .int .i64 0, .int .i64 4, .int .i64 0, .int .i64 0, .int .i64 0, .int .i64 0, .int .i64 (-1), .int .i64 4, .int .i64 0, .int .i64 0, .int .i64 0, .int .i64 1, .int .i64 0, .int .i64 4, .int .i64 0, .int .i64 1, .int .i64 0, .int .i64 0, .int .i64 0, .int .i64 4, .int .i64 0, .int .i64 0, .int .i64 0, .int .i64 0, .int .i64 9223372036854775807, .int .i64 3, .int .i64 0, .int .i64 0, .int .i64 0, .int .i64 4, .int .i64 9223372036854775807] 50)).alloc (.cells #[.int .i64 1, .int .i64 1, .int .i64 1, .int .i64 1, .int .i64 1, .int .i64 1, .int .i64 1, .int .i64 1, .int .i64 1, .int .i64 1, .int .i64 1, .int .i64 1, .int .i64 1, .int .i64 1, .int .i64 1, .int .i64 0, .int .i64 0] 3)) (w1.heap.size + 1) 3 #[.int .i64 1, .int .i64 1, .int .i64 1, .int .i64 1, .int .i64 1, .int .i64 1, .int .i64 1, .int .i64 1, .int .i64 1, .int .i64 1, .int .i64 1, .int .i64 1, .int .i64 1, .int .i64 1, .int .i64 1, .int .i64 0, .int .i64 0] := Blk.at_ _ _ _ (by simp)
  have HB : Below w.heap.size w ((w1.alloc (.cells #[.int .i64 0, .int .i64 0, .int .i64 0, .int .i64 0, .int .i64 0, .int .i64 0, .int .i64 5, .int .i64 0, .int .i64 0, .int .i64 0, .int .i64 0, .int .i64 0, .int .i64 1, .int .i64 (-1), .int .i64 0, .int .i64 0, .int .i64 0, .int .i64 0, .int .i64 1, .int .i64 0, .int .i64 (-1), .int .i64 0, .int .i64 0, .int .i64 0, .int .i64 2, .int .i64 0, .int .i64 0, .int .i64 65536, .int .i64 0, .int .i64 0, .int .i64 1, .int .i64 0, .int .i64 0, .int .i64 0, .int .i64 0, .int .i64 1, .int .i64 3, .int .i64 0, .int .i64 0, .int .i64 0, .int .i64 0, .int .i64 0, .int .i64 3, .int .i64 0, .int .i64 0, .int .i64 0, .int .i64 5, .int .i64 0, .int .i64 3, .int .i64 0, .int .i64 0, .int .i64 0, .int .i64 1, .int .i64 (-1), .int .i64 3, .int .i64 0, .int .i64 0, .int .i64 0, .int .i64 2, .int .i64 1, .int .i64 3, .int .i64 0, .int .i64 0, .int .i64 0, .int .i64 3, .int .i64 1, .int .i64 3, .int .i64 0, .int .i64 0, .int .i64 1, .int .i64 1, .int .i64 0, .int .i64 4, .int .i64 0, .int .i64 0, .int .i64 0, .int .i64 0, .int .i64 (-1), .int .i64 4, .int .i64 0, .int .i64 0, .int .i64 0, .int .i64 1, .int .i64 0, .int .i64 4, .int .i64 0, .int .i64 1, .int .i64 0, .int .i64 0, .int .i64 0, .int .i64 4, .int .i64 0, .int .i64 0, .int .i64 0, .int .i64 0, .int .i64 9223372036854775807, .int .i64 3, .int .i64 0, .int .i64 0, .int .i64 0, .int .i64 4, .int .i64 9223372036854775807] 50)).alloc (.cells #[.int .i64 1, .int .i64 1, .int .i64 1, .int .i64 1, .int .i64 1, .int .i64 1, .int .i64 1, .int .i64 1, .int .i64 1, .int .i64 1, .int .i64 1, .int .i64 1, .int .i64 1, .int .i64 1, .int .i64 1, .int .i64 0, .int .i64 0] 3)) := (hb1.alloc hb1.size _).alloc (by have := hb1.size; simp; omega) _
  obtain ⟨W, hW⟩ : ∃ W, W = (w1.alloc (.cells #[.int .i64 0, .int .i64 0, .int .i64 0, .int .i64 0, .int .i64 0, .int .i64 0, .int .i64 5, .int .i64 0, .int .i64 0, .int .i64 0, .int .i64 0, .int .i64 0, .int .i64 1, .int .i64 (-1), .int .i64 0, .int .i64 0, .int .i64 0, .int .i64 0, .int .i64 1, .int .i64 0, .int .i64 (-1), .int .i64 0, .int .i64 0, .int .i64 0, .int .i64 2, .int .i64 0, .int .i64 0, .int .i64 65536, .int .i64 0, .int .i64 0, .int .i64 1, .int .i64 0, .int .i64 0, .int .i64 0, .int .i64 0, .int .i64 1, .int .i64 3, .int .i64 0, .int .i64 0, .int .i64 0, .int .i64 0, .int .i64 0, .int .i64 3, .int .i64 0, .int .i64 0, .int .i64 0, .int .i64 5, .int .i64 0, .int .i64 3, .int .i64 0, .int .i64 0, .int .i64 0, .int .i64 1, .int .i64 (-1), .int .i64 3, .int .i64 0, .int .i64 0, .int .i64 0, .int .i64 2, .int .i64 1, .int .i64 3, .int .i64 0, .int .i64 0, .int .i64 0, .int .i64 3, .int .i64 1, .int .i64 3, .int .i64 0, .int .i64 0, .int .i64 1, .int .i64 1, .int .i64 0, .int .i64 4, .int .i64 0, .int .i64 0, .int .i64 0, .int .i64 0, .int .i64 (-1), .int .i64 4, .int .i64 0, .int .i64 0, .int .i64 0, .int .i64 1, .int .i64 0, .int .i64 4, .int .i64 0, .int .i64 1, .int .i64 0, .int .i64 0, .int .i64 0, .int .i64 4, .int .i64 0, .int .i64 0, .int .i64 0, .int .i64 0, .int .i64 9223372036854775807, .int .i64 3, .int .i64 0, .int .i64 0, .int .i64 0, .int .i64 4, .int .i64 9223372036854775807] 50)).alloc (.cells #[.int .i64 1, .int .i64 1, .int .i64 1, .int .i64 1, .int .i64 1, .int .i64 1, .int .i64 1, .int .i64 1, .int .i64 1, .int .i64 1, .int .i64 1, .int .i64 1, .int .i64 1, .int .i64 1, .int .i64 1, .int .i64 0, .int .i64 0] 3) := ⟨_, rfl⟩
  rw [← hW] at K0 K HB ⊢
  have cL := K0.c
  clear hW hb1
  have hx : x = 0 ∨ x = 1 ∨ x = 2 ∨ x = 3 ∨ x = 4 ∨ x = 5 ∨ x = 6 ∨ x = 7 ∨ x = 8 ∨ x = 9 ∨ x = 10 ∨ x = 11 ∨ x = 12 ∨ x = 13 ∨ x = 14 ∨ x = 15 ∨ x = 16 := by omega
  clear h0 h17
  rcases hx with rfl | rfl | rfl | rfl | rfl | rfl | rfl | rfl | rfl | rfl | rfl | rfl | rfl | rfl | rfl | rfl | rfl
  · go_wp2_with fail
    refine (req_no ⟨0, 0, 0, 0, 0, 0⟩ (by decide) _).mono ?_
    rintro e w2 ⟨rfl, hb⟩
    have K := K.on hb
    have HB := below_after HB hb HB.size
    have c0 := K.c
    have hz := K.lt
    clear hb
    go_wp2_with fail
    go_quiet ((go_at_call 35; exact quiet_n (wnum_any _ _)))
    go_wp2_with fail
    go_ret
    exact ⟨rfl, below_drewN HB _⟩
  · go_wp2_with fail
    refine (req_no ⟨5, 0, 0, 0, 0, 0⟩ (by decide) _).mono ?_
    rintro e w2 ⟨rfl, hb⟩
    have K := K.on hb
    have HB := below_after HB hb HB.size
    have c0 := K.c
    have hz := K.lt
    clear hb
    go_wp2_with fail
    go_quiet ((go_at_call 35; exact quiet_n (wnum_any _ _)))
    go_wp2_with fail
    go_ret
    exact ⟨rfl, below_drewN HB _⟩
  · go_wp2_with fail
    refine (req_no ⟨1, (-1), 0, 0, 0, 0⟩ (by decide) _).mono ?_
    rintro e w2 ⟨rfl, hb⟩
    have K := K.on hb
    have HB := below_after HB hb HB.size
    have c0 := K.c
    have hz := K.lt
    clear hb
    go_wp2_with fail
    go_quiet ((go_at_call 35; exact quiet_n (wnum_any _ _)))
    go_wp2_with fail
    go_ret
    exact ⟨rfl, below_drewN HB _⟩
  · go_wp2_with fail
    refine (req_no ⟨1, 0, (-1), 0, 0, 0⟩ (by decide) _).mono ?_
    rintro e w2 ⟨rfl, hb⟩
    have K := K.on hb
    have HB := below_after HB hb HB.size
    have c0 := K.c
    have hz := K.lt
    clear hb
    go_wp2_with fail
    go_quiet ((go_at_call 35; exact quiet_n (wnum_any _ _)))
    go_wp2_with fail
    go_ret
    exact ⟨rfl, below_drewN HB _⟩
  · go_wp2_with fail
    refine (req_no ⟨2, 0, 0, 65536, 0, 0⟩ (by decide) _).mono ?_
    rintro e w2 ⟨rfl, hb⟩
    have K := K.on hb
    have HB := below_after HB hb HB.size
    have c0 := K.c
    have hz := K.lt
    clear hb
    go_wp2_with fail
    go_quiet ((go_at_call 35; exact quiet_n (wnum_any _ _)))
    go_wp2_with fail
    go_ret
    exact ⟨rfl, below_drewN HB _⟩
  · go_wp2_with fail
    refine (req_no ⟨1, 0, 0, 0, 0, 1⟩ (by decide) _).mono ?_
    rintro e w2 ⟨rfl, hb⟩
    have K := K.on hb
    have HB := below_after HB hb HB.size
    have c0 := K.c
    have hz := K.lt
    clear hb
    go_wp2_with fail
    go_quiet ((go_at_call 35; exact quiet_n (wnum_any _ _)))
    go_wp2_with fail
    go_ret
    exact ⟨rfl, below_drewN HB _⟩
  · go_wp2_with fail
    refine (req_no ⟨3, 0, 0, 0, 0, 0⟩ (by decide) _).mono ?_
    rintro e w2 ⟨rfl, hb⟩
    have K := K.on hb
    have HB := below_after HB hb HB.size
    have c0 := K.c
    have hz := K.lt
    clear hb
    go_wp2_with fail
    go_quiet ((go_at_call 35; exact quiet_n (wnum_any _ _)))
    go_wp2_with fail
    go_ret
    exact ⟨rfl, below_drewN HB _⟩
  · go_wp2_with fail
    refine (req_no ⟨3, 0, 0, 0, 5, 0⟩ (by decide) _).mono ?_
    rintro e w2 ⟨rfl, hb⟩
    have K := K.on hb
    have HB := below_after HB hb HB.size
    have c0 := K.c
    have hz := K.lt
    clear hb
    go_wp2_with fail
    go_quiet ((go_at_call 35; exact quiet_n (wnum_any _ _)))
    go_wp2_with fail
    go_ret
    exact ⟨rfl, below_drewN HB _⟩
  · go_wp2_with fail
    refine (req_no ⟨3, 0, 0, 0, 1, (-1)⟩ (by decide) _).mono ?_
    rintro e w2 ⟨rfl, hb⟩
    have K := K.on hb
    have HB := below_after HB hb HB.size
    have c0 := K.c
    have hz := K.lt
    clear hb
    go_wp2_with fail
    go_quiet ((go_at_call 35; exact quiet_n (wnum_any _ _)))
    go_wp2_with fail
    go_ret
    exact ⟨rfl, below_drewN HB _⟩
  · go_wp2_with fail
    refine (req_no ⟨3, 0, 0, 0, 2, 1⟩ (by decide) _).mono ?_
    rintro e w2 ⟨rfl, hb⟩
    have K := K.on hb
    have HB := below_after HB hb HB.size
    have c0 := K.c
    have hz := K.lt
    clear hb
    go_wp2_with fail
    go_quiet ((go_at_call 35; exact quiet_n (wnum_any _ _)))
    go_wp2_with fail
    go_ret
    exact ⟨rfl, below_drewN HB _⟩
  · go_wp2_with fail
    refine (req_no ⟨3, 0, 0, 0, 3, 1⟩ (by decide) _).mono ?_
    rintro e w2 ⟨rfl, hb⟩
    have K := K.on hb
    have HB := below_after HB hb HB.size
    have c0 := K.c
    have hz := K.lt
    clear hb
    go_wp2_with fail
    go_quiet ((go_at_call 35; exact quiet_n (wnum_any _ _)))
    go_wp2_with fail
    go_ret
    exact ⟨rfl, below_drewN HB _⟩
  · go_wp2_with fail
    refine (req_no ⟨3, 0, 0, 1, 1, 0⟩ (by decide) _).mono ?_
    rintro e w2 ⟨rfl, hb⟩
    have K := K.on hb
    have HB := below_after HB hb HB.size
    have c0 := K.c
    have hz := K.lt
    clear hb
    go_wp2_with fail
    go_quiet ((go_at_call 35; exact quiet_n (wnum_any _ _)))
    go_wp2_with fail
    go_ret
    exact ⟨rfl, below_drewN HB _⟩
  · go_wp2_with fail
    refine (req_no ⟨4, 0, 0, 0, 0, (-1)⟩ (by decide) _).mono ?_
    rintro e w2 ⟨rfl, hb⟩
    have K := K.on hb
    have HB := below_after HB hb HB.size
    have c0 := K.c
    have hz := K.lt
    clear hb
    go_wp2_with fail
    go_quiet ((go_at_call 35; exact quiet_n (wnum_any _ _)))
    go_wp2_with fail
    go_ret
    exact ⟨rfl, below_drewN HB _⟩
  · go_wp2_with fail
    refine (req_no ⟨4, 0, 0, 0, 1, 0⟩ (by decide) _).mono ?_
    rintro e w2 ⟨rfl, hb⟩
    have K := K.on hb
    have HB := below_after HB hb HB.size
    have c0 := K.c
    have hz := K.lt
    clear hb
    go_wp2_with fail
    go_quiet ((go_at_call 35; exact quiet_n (wnum_any _ _)))
    go_wp2_with fail
    go_ret
    exact ⟨rfl, below_drewN HB _⟩
  · go_wp2_with fail
    refine (req_no ⟨4, 0, 1, 0, 0, 0⟩ (by decide) _).mono ?_
    rintro e w2 ⟨rfl, hb⟩
    have K := K.on hb
    have HB := below_after HB hb HB.size
    have c0 := K.c
    have hz := K.lt
    clear hb
    go_wp2_with fail
    go_quiet ((go_at_call 35; exact quiet_n (wnum_any _ _)))
    go_wp2_with fail
    go_ret
    exact ⟨rfl, below_drewN HB _⟩
  · go_wp2_with fail
    refine (req_yes ⟨4, 0, 0, 0, 0, 9223372036854775807⟩ (by unfold Req.ok IN64; simp only; omega) (by decide) _).mono ?_
    rintro e w2 ⟨v, rfl, hown, hb⟩
    have hpos := bytes_pos ⟨4, 0, 0, 0, 0, 9223372036854775807⟩
    obtain ⟨t, ht⟩ : ∃ t, t = (Req.bytes ⟨4, 0, 0, 0, 0, 9223372036854775807⟩).length := ⟨_, rfl⟩
    rw [← ht] at hown hpos
    obtain ⟨A, c, rfl⟩ := own_form hown
    clear ht hown
    have K := K.on hb
    have HB := below_after HB hb HB.size
    have c0 := K.c
    have hz := K.lt
    clear hb
    go_wp2_with fail
    go_quiet ((go_at_call 35; exact quiet_n (wnum_any _ _)))
    go_wp2_with fail
    go_ret
    exact ⟨rfl, below_drewN HB _⟩
  · go_wp2_with fail
    refine (req_yes ⟨3, 0, 0, 0, 4, 9223372036854775807⟩ (by unfold Req.ok IN64; simp only; omega) (by decide) _).mono ?_
    rintro e w2 ⟨v, rfl, hown, hb⟩
    have hpos := bytes_pos ⟨3, 0, 0, 0, 4, 9223372036854775807⟩
    obtain ⟨t, ht⟩ : ∃ t, t = (Req.bytes ⟨3, 0, 0, 0, 4, 9223372036854775807⟩).length := ⟨_, rfl⟩
    rw [← ht] at hown hpos
    obtain ⟨A, c, rfl⟩ := own_form hown
    clear ht hown
    have K := K.on hb
    have HB := below_after HB hb HB.size
    have c0 := K.c
    have hz := K.lt
    clear hb
    go_wp2_with fail
    go_quiet ((go_at_call 35; exact quiet_n (wnum_any _ _)))
    go_wp2_with fail
    go_ret
    exact ⟨rfl, below_drewN HB _⟩

theorem wireWrong_walk (x : Int) (w : World) (_ : (Lit.int .i64 x).wf = true) : Calls Try.prog 8 #[.int .i64 x] w fun e w' => e = .returned (.bool true) ∧ Below w.heap.size w w' := by
  by_cases h : x < 0 ∨ 17 ≤ x
  · exact wrong_early w h
  · exact wrong_main w (by omega) (by omega)


namespace wireWrong
set_option maxRecDepth 100000 in
theorem contract (H : Type) (enc : TypeId × Value → H) (W : World) (base : Nat) (args : Array Value) (ds gs : List (DataW H)) (before : List MemPlace)
    (hval : ∀ (j : Nat) t v, Try.f8.params[j]? = some t → args[j]? = some v → Value.okWide Try.prog W .any base t v)
    (hW : DataW.Whole enc Try.prog Try.f8.params.toList Rows.wireWrongSpec.vars false W args.toList ds gs before) :
    Calls Try.prog 8 args W fun e W' => ∃ v, e = .returned v ∧ Rows.wireWrongSpec.post enc Try.prog Try.f8 false true false false W args v W' := by
  have hWc := hW
  obtain ⟨p, q, hA0, hV, _, _, _⟩ := hW
  have hA : DataW.TrodAll enc Try.prog W 0 (fun _ => true) true Try.f8.params.toList args.toList ds p := hA0
  clear hA0
  rw [Try.params8] at hA hval
  obtain ⟨v0, vs0, d0, ds0, p0, q0, hargs, rfl, rfl, h0, r0⟩ := trodAll_cons hA
  obtain ⟨rfl, rfl, rfl⟩ := trodAll_nil r0
  obtain rfl : args = #[v0] := by cases args; simp_all
  obtain ⟨a0, rfl, rfl, rfl, wa0⟩ := open_int Try.underlying3 (hval 0 3 v0 rfl rfl) h0
  refine (wireWrong_walk a0 W wa0).mono fun e W' ⟨he, hb⟩ => ⟨_, he, ?_⟩
  exact post_true hWc rfl hb laidOut (readables (by kernel_rfl)) rfl Try.underlying4 (fun h => by subst h; rfl)

set_option maxRecDepth 100000 in
theorem lifted (os : Os) (started : os.Started) (H : Type) (enc : TypeId × Value → H) :
    ReturnsInHanded {} Try.checked os 8 .any (Rows.wireWrongSpec.pre6 enc Try.prog Try.f8 Rows.wireWrongRow.domain false) (Rows.wireWrongSpec.post enc Try.prog Try.f8 false true false false) := by
  refine returnsInHanded_of_change (C := Try.checked) own started (by kernel_rfl) Try.func8
    (ChangeSpec.witness6 (enc := enc) (C := Try.checked) false ⟨#[], #[.int .i64 0], []⟩ 8 (by kernel_rfl) (by kernel_rfl) (by kernel_rfl) (by kernel_rfl)) ?_
  intro W base args ds gs before hval hW _ _
  exact contract H enc W base args ds gs before hval hW

theorem proved : Rows.WireWrongSaid :=
  OpenClaim.holds_of_wide 8 Try.f8 rfl rfl rfl rfl rfl rfl rfl ⟨rfl, rfl, rfl, rfl, rfl⟩ rfl rfl rfl rfl rfl (by kernel_rfl) Try.func8 (by kernel_rfl)
    (of_decide_eq_true (by kernel_rfl)) (by unfold Func.isWrapper; first | (rw [if_pos (by decide +kernel)]; kernel_rfl) | (rw [if_neg (by decide +kernel)]; exact ⟨rfl, rfl⟩))
    (fun os started H enc _ => lifted os started H enc)
end wireWrong
end Go.Proofs.Ytejijghghbicdaa
