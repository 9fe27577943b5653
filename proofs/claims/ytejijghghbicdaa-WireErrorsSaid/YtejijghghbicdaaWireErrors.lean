/-
  WireErrors: which replies there are none of: errors with something beside them, numbers that can't be; the call returns true and changes nothing that was in memory.
-/
import Derived.Test.YtejijghghbicdaaWireReply
import Derived.Test.YtejijghghbicdaaWireReadPairs
import Derived.Test.YtejijghghbicdaaOpen
import Derived.Outline
namespace Go.Proofs.Ytejijghghbicdaa
open Go.ChangeShapes Go.WideShapes Go.ChangeAt Go.RowKit Go.Joins
set_option linter.unusedSimpArgs false
set_option linter.unusedVariables false

/-- The pairs of the vertices below k, each with 0. -/
def firsts (k : Nat) : List Pr := (List.range k).map fun i : Nat => ⟨(i : Int), 0⟩
theorem firsts_succ (k : Nat) : firsts (k + 1) = firsts k ++ [⟨(k : Int), 0⟩] := by simp [firsts, List.range_succ]
theorem firsts_len (k : Nat) : (firsts k).length = k := by simp [firsts]
theorem firsts_at {k i : Nat} (h : i < k) : Pr.at_ (firsts k) i = i := by simp [Pr.at_, firsts, h]
theorem firsts_rise {k : Nat} (h : k ≤ 20) : riseB (firsts k) = true := by
  refine rise_yes fun i hi => ?_
  rw [firsts_len] at hi
  unfold okAt
  rw [firsts_at hi]
  by_cases h0 : i = 0
  · subst h0; simp
  · rw [firsts_at (show i - 1 < k by omega)]; simp; omega
theorem firsts_ok {k : Nat} (h : k ≤ 20) : ∀ p ∈ firsts k, p.ok := by
  intro p hp
  obtain ⟨i, hi, rfl⟩ := List.mem_map.1 hp
  have : i < k := by simpa using hi
  exact ⟨by unfold IN64; simp only; omega, by unfold W64; simp⟩

set_option maxHeartbeats 400000 in
theorem errs_early {id e n : Int} {d : Bool} (w : World) (h : n < 0 ∨ 20 < n) : Calls Try.prog 10 #[.int .i64 id, .int .i64 e, .bool d, .int .i64 n] w fun e w' => e = .returned (.bool true) ∧ Below w.heap.size w w' := by
  by_cases h1 : n < 0
  · clear h
    go_enter Try.func10, Try.ntmps10
    go_wp2_with fail
    refine (alive2_any _).mono ?_
    rintro e w1 ⟨rfl, hb⟩
    go_wp2_with fail
    go_ret
    exact ⟨rfl, hb⟩
  · have h2 : 20 < n := by omega
    clear h
    go_enter Try.func10, Try.ntmps10
    go_wp2_with fail
    refine (alive2_any _).mono ?_
    rintro e w1 ⟨rfl, hb⟩
    go_wp2_with fail
    go_ret
    exact ⟨rfl, hb⟩

theorem okb {id e : Int} {d : Bool} {n : Nat} (hn : n ≤ 20) : repB id e d (firsts n) = (decide (0 ≤ id) && decide (0 ≤ e ∧ e ≤ 255) && (decide (e = 0) || (!d && decide (n = 0)))) := by
  unfold repB
  rw [firsts_rise hn, Bool.and_true]
  congr 2
  cases n <;> simp [firsts, List.range_succ]

theorem rep_len_pos (id e : Int) (d : Bool) (l : List Pr) : 0 < (repBytes id e d l).length := by
  unfold repBytes
  simp only [List.map_cons, encs_cons, List.length_append]
  have := enc_pos (nat0 id); omega
set_option maxRecDepth 100000 in
set_option maxHeartbeats 4000000 in
theorem errs_main {id e : Int} {d : Bool} {n : Nat} (w : World) (hid : IN64 id) (h20 : n ≤ 20) : Calls Try.prog 10 #[.int .i64 id, .int .i64 e, .bool d, .int .i64 n] w fun e w' => e = .returned (.bool true) ∧ Below w.heap.size w w' := by
  have HID := Lib.hid hid
  have hn0 : ¬ (n : Int) < 0 := by omega
  have hn2 : ¬ 20 < (n : Int) := by omega
  obtain ⟨i0, hi0, hz0, hz1, hz2⟩ := info_parts infoPair
  clear hid
  go_enter Try.func10, Try.ntmps10
  go_wp2_with fail
  refine (alive2_any _).mono ?_
  rintro en w1 ⟨rfl, HB⟩
  go_wp2_with fail
  have hg0 : w.heap.size ≤ w1.heap.size := HB.size
  go_loopw [11] (fun i wr => ∃ (k : Nat) (v : Value), k ≤ n ∧ i = .int .i64 k ∧ Below w.heap.size w wr ∧ Blk wr w1.heap.size 59 #[.int .i64 id, .int .i64 e, .bool d, v] ∧ wr.ownsRow (w1.heap.size + 1) 64 2 v k (prCells (firsts k))) (fun i _ => n - (intOf i).toNat)
  case atStart => exact ⟨0, .slice none 0 0, Nat.zero_le _, rfl, HB.alloc HB.size _, Blk.at_ _ _ _ rfl, World.ownsRow_nil _ _ _ _⟩
  case round =>
    obtain ⟨k, v, hk, rfl, HBk, K, hown⟩ := hrel
    obtain ⟨A, c, rfl⟩ := own_form hown
    have c0 := K.c
    have f0 := K.f
    have z0 := K.lt
    by_cases hlt : k < n
    · go_wp2_with (at_builtin; refine wpList_append_own _ rfl _ _ 57 rfl (w1.heap.size + 1) 64 i0 (.agg #[.int .i64 0, .int .u64 0]) 2 16 Try.underlying57 hi0 hz0 hz1 hz2 rfl (by decide) _ _ _ rfl (hown.alloc _) ⟨wr.heap.size, 0, none⟩ 1 1 [.int .i64 (k : Nat), .int .u64 0] rfl rfl ?c1 ?c2 ?c3 ?c4 ?c5 ?_)
      case c1 => intro i u hu; exact (reads_new wr [.int .i64 (k : Nat), .int .u64 0] 64 2 rfl).2 (by omega) |>.elim fun ad h => by obtain ⟨e, _, hc⟩ := h; injection e with e; subst e; exact hc i u hu
      case c2 => intro u hu; simp at hu; rcases hu with rfl | rfl <;> rfl
      case c3 => unfold maxLen; omega
      case c4 => omega
      case c5 => simp; omega
      intro v2 w2 hown2 hg2 _
      obtain ⟨A2, c2, rfl⟩ := own_form hown2
      have hr2 : ∀ r, some r = (Value.slice A k c).ownBlock → w1.heap.size + 1 ≤ r := fun r hr => (hown.lt r hr.symm).1
      have HBk2 : Below w.heap.size w w2 := (HBk.alloc HBk.size _).grown hg2 (by have := HBk.size; simp; omega) (fun r hr => by have := hr2 r hr.symm; omega)
      have K2 := (K.alloc (.cells #[.int .i64 (k : Nat), .int .u64 0] 64)).grown hg2 (fun e => by have := hr2 _ e; omega)
      have hown3 : w2.ownsRow (w1.heap.size + 1) 64 2 (.slice A2 (k + 1) c2) (k + 1) (prCells (firsts (k + 1))) := by
        rw [firsts_succ]
        have := own_pair (p := ⟨(k : Int), 0⟩) hown2 (by rw [firsts_len])
        simpa [firsts_len] using this
      have c0 := K2.c
      have f0 := K2.f
      have z0 := K2.lt
      have K3 : Blk (w2.setCell ⟨w1.heap.size, 3, none⟩ (.slice A2 (k + 1) c2)) w1.heap.size 59 #[.int .i64 id, .int .i64 e, .bool d, .slice A2 (k + 1) c2] := by have := K2.set_ 3 (.slice A2 (k + 1) c2); simpa using this
      have hown4 := own_kept hown3 (grown_set (i := 3) (grown_self w2 (some w1.heap.size)) (.slice A2 (k + 1) c2)) (Nat.lt_succ_self _)
      have HBk3 := HBk2.setCell (p := ⟨w1.heap.size, 3, none⟩) hg0 (.slice A2 (k + 1) c2)
      have HH := Lib.hid (And.intro HBk3 (And.intro K3 hown4))
      clear hr2 HBk2 hg2 hown2 hown3 K2 K3 hown4 HBk3 HBk K hown
      go_wp2_with fail
      refine ⟨⟨k + 1, .slice A2 (k + 1) c2, by omega, by go_num, HH.out.1, HH.out.2.1, HH.out.2.2⟩, ?_⟩
      simp [intOf]; omega
    · obtain rfl : n = k := by omega
      have HR := Lib.hid (Reads.of_own hown)
      have HF := Lib.hid (firsts_ok h20)
      have hob := okb (id := id) (e := e) (d := d) h20
      clear hown K
      by_cases a0 : id < 0
      · have q0 : decide (0 ≤ id) = false := by simpa using a0
        have HM := Lib.hid (show repB id e d (firsts n) = false by rw [hob]; rw [q0]; rfl)
        clear hob
        go_wp2_with fail
        refine (rep_no (l := firsts n) _ _ _ _ HR.out (Nat.le_refl _) (by omega) HM.out).mono ?_
        rintro en w2 ⟨rfl, hb⟩
        have HB2 := below_after HBk hb HBk.size
        clear hb c0 f0 z0
        go_wp2_with fail
        refine (wnum_any _ _).mono ?_
        rintro en w3 ⟨rfl, rfl⟩
        go_wp2_with fail
        go_ret
        exact ⟨rfl, HB2⟩
      have q0 : decide (0 ≤ id) = true := by simpa using a0
      by_cases a1 : e < 0
      · have q1 : decide (0 ≤ e) = false := by simpa using a1
        have HM := Lib.hid (show repB id e d (firsts n) = false by rw [hob]; rw [show decide (0 ≤ e ∧ e ≤ 255) = false by simp; omega]; simp)
        clear hob
        go_wp2_with fail
        refine (rep_no (l := firsts n) _ _ _ _ HR.out (Nat.le_refl _) (by omega) HM.out).mono ?_
        rintro en w2 ⟨rfl, hb⟩
        have HB2 := below_after HBk hb HBk.size
        clear hb c0 f0 z0
        go_wp2_with fail
        refine (wnum_any _ _).mono ?_
        rintro en w3 ⟨rfl, rfl⟩
        go_wp2_with fail
        go_ret
        exact ⟨rfl, HB2⟩
      have q1 : decide (0 ≤ e) = true := by simpa using a1
      by_cases a2 : 255 < e
      · have q2 : decide (e ≤ 255) = false := by simpa using a2
        have HM := Lib.hid (show repB id e d (firsts n) = false by rw [hob]; rw [show decide (0 ≤ e ∧ e ≤ 255) = false by simp; omega]; simp)
        clear hob
        go_wp2_with fail
        refine (rep_no (l := firsts n) _ _ _ _ HR.out (Nat.le_refl _) (by omega) HM.out).mono ?_
        rintro en w2 ⟨rfl, hb⟩
        have HB2 := below_after HBk hb HBk.size
        clear hb c0 f0 z0
        go_wp2_with fail
        refine (wnum_any _ _).mono ?_
        rintro en w3 ⟨rfl, rfl⟩
        go_wp2_with fail
        go_ret
        exact ⟨rfl, HB2⟩
      have q2 : decide (e ≤ 255) = true := by simpa using a2
      have q12 : decide (0 ≤ e ∧ e ≤ 255) = true := by simp; omega
      rw [q0, q12] at hob
      by_cases a3 : e = 0
      · have q3 : (e == 0) = true := by simpa using a3
        have q3' : decide (e = 0) = true := by simpa using a3
        rw [q3'] at hob
        clear a3 q3' q12
        have HM := Lib.hid (show repB id e d (firsts n) = true by rw [hob]; rfl)
        clear hob
        go_wp2_with fail
        refine (rep_yes (l := firsts n) _ _ _ _ HR.out (Nat.le_refl _) (by omega) HID.out HF.out HM.out).mono ?_
        rintro en w2 ⟨x, rfl, hown, hb⟩
        have HB2 := below_after HBk hb HBk.size
        have hpos := rep_len_pos id e d (firsts n)
        obtain ⟨t, ht⟩ : ∃ t, t = (repBytes id e d (firsts n)).length := ⟨_, rfl⟩
        rw [← ht] at hown hpos
        obtain ⟨A7, c7, rfl⟩ := own_form hown
        clear hb c0 f0 z0 ht hown
        go_wp2_with fail
        refine (wnum_any _ _).mono ?_
        rintro en w3 ⟨rfl, rfl⟩
        go_wp2_with fail
        go_ret
        exact ⟨rfl, HB2⟩
      have q3 : (e == 0) = false := by simpa using a3
      have q3' : decide (e = 0) = false := by simpa using a3
      rw [q3'] at hob
      clear q3' q12
      cases d
      · by_cases a4 : n = 0
        · have q4 : ((n : Int) == 0) = true := by simp; omega
          rw [show decide (n = 0) = true by simpa using a4] at hob
          clear a4
          have HM := Lib.hid (show repB id e false (firsts n) = true by rw [hob]; rfl)
          clear hob
          go_wp2_with fail
          refine (rep_yes (l := firsts n) _ _ _ _ HR.out (Nat.le_refl _) (by omega) HID.out HF.out HM.out).mono ?_
          rintro en w2 ⟨x, rfl, hown, hb⟩
          have HB2 := below_after HBk hb HBk.size
          have hpos := rep_len_pos id e false (firsts n)
          obtain ⟨t, ht⟩ : ∃ t, t = (repBytes id e false (firsts n)).length := ⟨_, rfl⟩
          rw [← ht] at hown hpos
          obtain ⟨A7, c7, rfl⟩ := own_form hown
          clear hb c0 f0 z0 ht hown
          go_wp2_with fail
          refine (wnum_any _ _).mono ?_
          rintro en w3 ⟨rfl, rfl⟩
          go_wp2_with fail
          go_ret
          exact ⟨rfl, HB2⟩
        · have q4 : ((n : Int) == 0) = false := by simp; omega
          rw [show decide (n = 0) = false by simpa using a4] at hob
          have HM := Lib.hid (show repB id e false (firsts n) = false by rw [hob]; rfl)
          clear hob
          go_wp2_with fail
          refine (rep_no (l := firsts n) _ _ _ _ HR.out (Nat.le_refl _) (by omega) HM.out).mono ?_
          rintro en w2 ⟨rfl, hb⟩
          have HB2 := below_after HBk hb HBk.size
          clear hb c0 f0 z0
          go_wp2_with fail
          refine (wnum_any _ _).mono ?_
          rintro en w3 ⟨rfl, rfl⟩
          go_wp2_with fail
          go_ret
          exact ⟨rfl, HB2⟩
      · have HM := Lib.hid (show repB id e true (firsts n) = false by rw [hob]; rfl)
        clear hob
        go_wp2_with fail
        refine (rep_no (l := firsts n) _ _ _ _ HR.out (Nat.le_refl _) (by omega) HM.out).mono ?_
        rintro en w2 ⟨rfl, hb⟩
        have HB2 := below_after HBk hb HBk.size
        clear hb c0 f0 z0
        go_wp2_with fail
        refine (wnum_any _ _).mono ?_
        rintro en w3 ⟨rfl, rfl⟩
        go_wp2_with fail
        go_ret
        exact ⟨rfl, HB2⟩
theorem wireErrors_walk (id e : Int) (d : Bool) (n : Int) (w : World) (h1 : (Lit.int .i64 id).wf = true) (h2 : (Lit.int .i64 e).wf = true) (h3 : (Lit.int .i64 n).wf = true) : Calls Try.prog 10 #[.int .i64 id, .int .i64 e, .bool d, .int .i64 n] w fun e w' => e = .returned (.bool true) ∧ Below w.heap.size w w' := by
  have b := bounds_i64 h1
  by_cases h : n < 0 ∨ 20 < n
  · exact errs_early w h
  · obtain ⟨k, rfl⟩ : ∃ k : Nat, n = k := ⟨n.toNat, by omega⟩
    exact errs_main w ⟨b.2, b.1⟩ (by omega)


namespace wireErrors
set_option maxRecDepth 100000 in
theorem contract (H : Type) (enc : TypeId × Value → H) (W : World) (base : Nat) (args : Array Value) (ds gs : List (DataW H)) (before : List MemPlace)
    (hval : ∀ (j : Nat) t v, Try.f10.params[j]? = some t → args[j]? = some v → Value.okWide Try.prog W .any base t v)
    (hW : DataW.Whole enc Try.prog Try.f10.params.toList Rows.wireErrorsSpec.vars false W args.toList ds gs before) :
    Calls Try.prog 10 args W fun e W' => ∃ v, e = .returned v ∧ Rows.wireErrorsSpec.post enc Try.prog Try.f10 false true false false W args v W' := by
  have hWc := hW
  obtain ⟨p, q, hA0, hV, _, _, _⟩ := hW
  have hA : DataW.TrodAll enc Try.prog W 0 (fun _ => true) true Try.f10.params.toList args.toList ds p := hA0
  clear hA0
  rw [Try.params10] at hA hval
  obtain ⟨v0, vs0, d0, ds0, p0, q0, hargs, rfl, rfl, h0, r0⟩ := trodAll_cons hA
  obtain ⟨v1, vs1, d1, ds1, p1, q1, rfl, rfl, rfl, h1, r1⟩ := trodAll_cons r0
  obtain ⟨v2, vs2, d2, ds2, p2, q2, rfl, rfl, rfl, h2, r2⟩ := trodAll_cons r1
  obtain ⟨v3, vs3, d3, ds3, p3, q3, rfl, rfl, rfl, h3, r3⟩ := trodAll_cons r2
  obtain ⟨rfl, rfl, rfl⟩ := trodAll_nil r3
  obtain rfl : args = #[v0, v1, v2, v3] := by cases args; simp_all
  obtain ⟨a0, rfl, rfl, rfl, wa0⟩ := open_int Try.underlying3 (hval 0 3 v0 rfl rfl) h0
  obtain ⟨a1, rfl, rfl, rfl, wa1⟩ := open_int Try.underlying3 (hval 1 3 v1 rfl rfl) h1
  obtain ⟨a2, rfl, rfl, rfl⟩ := open_bool Try.underlying4 (hval 2 4 v2 rfl rfl) h2
  obtain ⟨a3, rfl, rfl, rfl, wa3⟩ := open_int Try.underlying3 (hval 3 3 v3 rfl rfl) h3
  refine (wireErrors_walk a0 a1 a2 a3 W wa0 wa1 wa3).mono fun e W' ⟨he, hb⟩ => ⟨_, he, ?_⟩
  exact post_true hWc rfl hb laidOut (readables (by kernel_rfl)) rfl Try.underlying4 (fun h => by subst h; rfl)

set_option maxRecDepth 100000 in
theorem lifted (os : Os) (started : os.Started) (H : Type) (enc : TypeId × Value → H) :
    ReturnsInHanded {} Try.checked os 10 .any (Rows.wireErrorsSpec.pre6 enc Try.prog Try.f10 Rows.wireErrorsRow.domain false) (Rows.wireErrorsSpec.post enc Try.prog Try.f10 false true false false) := by
  refine returnsInHanded_of_change (C := Try.checked) own started (by kernel_rfl) Try.func10
    (ChangeSpec.witness6 (enc := enc) (C := Try.checked) false ⟨#[], #[.int .i64 0, .int .i64 0, .bool false, .int .i64 0], []⟩ 8 (by kernel_rfl) (by kernel_rfl) (by kernel_rfl) (by kernel_rfl)) ?_
  intro W base args ds gs before hval hW _ _
  exact contract H enc W base args ds gs before hval hW

theorem proved : Rows.WireErrorsSaid :=
  OpenClaim.holds_of_wide 10 Try.f10 rfl rfl rfl rfl rfl rfl rfl ⟨rfl, rfl, rfl, rfl, rfl⟩ rfl rfl rfl rfl rfl (by kernel_rfl) Try.func10 (by kernel_rfl)
    (of_decide_eq_true (by kernel_rfl)) (by unfold Func.isWrapper; first | (rw [if_pos (by decide +kernel)]; kernel_rfl) | (rw [if_neg (by decide +kernel)]; exact ⟨rfl, rfl⟩))
    (fun os started H enc _ => lifted os started H enc)
end wireErrors
end Go.Proofs.Ytejijghghbicdaa
