/-
  PackReads: what any bytes are read as, whatever is wanted of them: the cursor and the reference's read the same, and tell the same; the call returns true and changes nothing that was in memory.
-/
import Derived.Test.YtejijghghbicdaaRCursor2
import Derived.Test.YtejijghghbicdaaOpen
namespace Go.Proofs.Ytejijghghbicdaa
open Go.ChangeShapes Go.WideShapes Go.ChangeAt Go.RowKit Go.Joins
set_option linter.unusedSimpArgs false
set_option linter.unusedVariables false

theorem PC.far {w w' : World} {g g' : Nat} {l : List Nat} {bad : Bool} (h : PC w g l bad) (hg : w.grownBy w' (some g')) (hlt : g < g') : PC w' g l bad := by
  obtain ⟨A, n, c, hB, hR, hn, hc⟩ := h
  exact ⟨A, n, c, hB.grown hg (by simp; omega), hR.grown hg (Nat.le_of_lt hB.lt) (fun k hk => by injection hk with e; omega), hn, hc⟩
theorem RC.far {w w' : World} {B g g' : Nat} {l : List Nat} {bad : Bool} (h : RC w B g l bad) (hg : w.grownBy w' (some g')) (hB' : B ≤ g') (hne : g ≠ g') : RC w' B g l bad := by
  obtain ⟨A, n, c, a, all, hB, hR, hBg, ha, hn, h1, h2⟩ := h
  exact ⟨A, n, c, a, all, hB.grown hg (by simp; omega), hR.grown hg (Nat.le_trans hBg (Nat.le_of_lt hB.lt)) (fun k hk => by injection hk with e; omega), hBg, ha, hn, h1, h2⟩
theorem PC.lt {w : World} {g : Nat} {l : List Nat} {bad : Bool} (h : PC w g l bad) : g < w.heap.size := by
  obtain ⟨A, n, c, hB, hR, hn, hc⟩ := h; exact hB.lt
theorem PC.alloc {w : World} {g : Nat} {l : List Nat} {bad : Bool} (h : PC w g l bad) (o : Obj) : PC (w.alloc o) g l bad := by
  obtain ⟨A, n, c, hB, hR, hn, hc⟩ := h
  exact ⟨A, n, c, hB.alloc o, hR.alloc (Nat.le_of_lt hB.lt) o, hn, hc⟩
/-- A fresh cursor of the reference's. -/
theorem RC.new {w : World} {B n c : Nat} {A : Option Addr} {xs : List Nat} (hR : Reads w B 1 A n (u8s xs)) (hB : B ≤ w.heap.size) (hn : n ≤ 1000000000) :
    RC (w.alloc (.cells #[.slice A n c, .int .i64 0, .bool false] 43)) B w.heap.size xs false :=
  ⟨A, n, c, 0, xs, Blk.new _ _ _, hR.alloc hB _, hB, Nat.zero_le _, hn, fun h => (by cases h), fun _ => rfl⟩
theorem RC.cell {w : World} {B g : Nat} {l : List Nat} {bad : Bool} (h : RC w B g l bad) : w.cell? ⟨g, 2, none⟩ = some (.bool bad) := by
  obtain ⟨A, n, c, a, all, hB, _⟩ := h
  rw [hB.c]; rfl
theorem quiet_s {P : Program} {f : FuncId} {args : Array Value} {w : World} {n : Nat} {v : Value}
    (h : Calls P f args (w.drewN n) fun e w' => e = .returned v ∧ w.drewN n = w') : Calls P f args (w.drewN n) fun e w'' => e = .returned v ∧ ∃ m, w'' = w.drewN m :=
  h.mono fun _ _ ⟨he, hm⟩ => ⟨he, n, hm.symm⟩
theorem PC.drewN {w : World} {g : Nat} {l : List Nat} {bad : Bool} (h : PC w g l bad) (n : Nat) : PC (w.drewN n) g l bad := h

section
variable {w : World} {B g r : Nat} {l : List Nat} {bad q : Bool}
theorem cleft_q (hr : l.length = r) (h : PC w g l bad) (n : Nat) : Calls Try.prog 25 #[.pointer (some ⟨g, 0, none⟩)] (w.drewN n) fun e w'' => e = .returned (.int .i64 (r : Nat)) ∧ ∃ m, w'' = w.drewN m := by
  subst hr; exact quiet_s (cleft_any _ (h.drewN n))
theorem rcleft_q (hr : l.length = r) (h : RC w B g l bad) (n : Nat) : Calls Try.prog 31 #[.pointer (some ⟨g, 0, none⟩)] (w.drewN n) fun e w'' => e = .returned (.int .i64 (r : Nat)) ∧ ∃ m, w'' = w.drewN m := by
  subst hr; exact Calls.quiet_of (rcleft_any _ (h.drewN n))
theorem cbad_q (h : PC w g l bad) (n : Nat) : Calls Try.prog 27 #[.pointer (some ⟨g, 0, none⟩)] (w.drewN n) fun e w'' => e = .returned (.bool bad) ∧ ∃ m, w'' = w.drewN m :=
  quiet_s (cbad_any _ (h.drewN n))
theorem cend_q (hq : (!bad && l.isEmpty) = q) (h : PC w g l bad) (n : Nat) : Calls Try.prog 26 #[.pointer (some ⟨g, 0, none⟩)] (w.drewN n) fun e w'' => e = .returned (.bool q) ∧ ∃ m, w'' = w.drewN m := by
  subst hq; exact quiet_s (cend_any _ (h.drewN n))
theorem rcend_q (hq : (!bad && l.isEmpty) = q) (h : RC w B g l bad) (n : Nat) : Calls Try.prog 32 #[.pointer (some ⟨g, 0, none⟩)] (w.drewN n) fun e w'' => e = .returned (.bool q) ∧ ∃ m, w'' = w.drewN m := by
  subst hq; exact Calls.quiet_of (rcend_any _ (h.drewN n))
end

set_option maxHeartbeats 400000 in
theorem reads_early {A A2 : Option Addr} {n c m c2 : Nat} (w : World) (hn : n ≤ maxLen) (hm : m ≤ maxLen) (h : 2000 < n ∨ 200 < m) :
    Calls Try.prog 7 #[.slice A n c, .slice A2 m c2] w fun e w' => e = .returned (.bool true) ∧ Below w.heap.size w w' := by
  unfold maxLen at hn hm
  by_cases h1 : 2000 < n
  · clear h
    go_enter Try.func7, Try.ntmps7
    go_wp2_with fail
    refine (alive1_any _).mono ?_
    rintro e w1 ⟨rfl, hb⟩
    go_wp2_with fail
    go_ret
    exact ⟨rfl, hb⟩
  · have h2 : 200 < m := by omega
    clear h
    go_enter Try.func7, Try.ntmps7
    go_wp2_with fail
    refine (alive1_any _).mono ?_
    rintro e w1 ⟨rfl, hb⟩
    go_wp2_with fail
    go_ret
    exact ⟨rfl, hb⟩

set_option maxRecDepth 100000 in
set_option maxHeartbeats 2000000 in
theorem reads_main {A A2 : Option Addr} {n c m c2 : Nat} {xs : List Nat} {bs : List Bool} (w : World) (hx : Reads w w.heap.size 1 A n (u8s xs)) (hy : Reads w w.heap.size 1 A2 m (boos bs)) (hxs : ∀ x ∈ xs, x < 256) (h1 : ¬ 2000 < n) (h2 : ¬ 200 < m) :
    Calls Try.prog 7 #[.slice A n c, .slice A2 m c2] w fun e w' => e = .returned (.bool true) ∧ Below w.heap.size w w' := by
  have HX := Lib.hid hxs
  clear hxs
  go_enter Try.func7, Try.ntmps7
  go_wp2_with fail
  refine (alive1_any _).mono ?_
  rintro e w1 ⟨rfl, hb1⟩
  go_wp2_with fail
  refine (new_any (B := w1.heap.size) _ ((hx.below hb1).more hb1.size) (Nat.le_refl _) (by omega)).mono ?_
  rintro e w2 ⟨gc, rfl, hgc, hp, hb2⟩
  have HB2 : Below w.heap.size w w2 := below_after hb1 hb2 hb1.size
  have hwg : w.heap.size ≤ gc := Nat.le_trans hb1.size hgc
  have hr := RC.new (c := c) (hx.below HB2) HB2.size (by omega)
  have hp2 := hp.alloc (.cells #[.slice A n c, .int .i64 0, .bool false] 43)
  have hlt := hp.lt
  have HB3 := HB2.alloc HB2.size (.cells #[.slice A n c, .int .i64 0, .bool false] 43)
  obtain ⟨gd, hgd⟩ : ∃ gd, gd = w2.heap.size := ⟨_, rfl⟩
  rw [← hgd] at hlt hr
  have HP := Lib.hid hp2
  have HR := Lib.hid hr
  have HGD := Lib.hid hgd
  clear hb1 hb2 hgc hp hp2 hr hgd
  go_wp2_with fail
  rw [← HGD.out]
  go_loopw [8] (fun i wr => ∃ (k : Nat) (l : List Nat) (bad : Bool), k ≤ m ∧ i = .int .i64 k ∧ PC wr gc l bad ∧ RC wr w.heap.size gd l bad ∧ Below w.heap.size w wr ∧ Hid (∀ d ∈ l, d < 256)) (fun i _ => m - (intOf i).toNat)
  case atStart => exact ⟨0, xs, false, Nat.zero_le _, rfl, HP.out, HR.out, HB3, HX⟩
  case round =>
    obtain ⟨k, l, bad, hk, rfl, hp, hr, hb, HL⟩ := hrel
    by_cases hlt2 : k < m
    · obtain ⟨ad, v, rfl, _, hu, hc⟩ := (hy.below hb).at_ hlt2
      have hkl : k < bs.length := by have := hy.1; simp at this; omega
      have eu : v = .bool bs[k] := by
        simp [boos, hkl] at hu; exact hu.symm
      subst eu
      clear hu
      generalize bs[k] = b at hc
      have HP := Lib.hid hp
      have HR := Lib.hid hr
      clear hp hr hkl
      cases b
      · go_wp2_with fail
        refine (cword_any _ HP.out HL.out).mono ?_
        rintro e w4 ⟨rfl, hp, hg⟩
        have HB4 := hb.grown hg hb.size (fun g' e => by injection e with e; omega)
        have hr2 := HR.out.far hg hwg (by omega)
        clear hc
        go_wp2_with fail
        refine (rcword_any _ hr2 HL.out).mono ?_
        rintro e w5 ⟨rfl, hr, hg2⟩
        have HB5 := HB4.grown hg2 HB4.size (fun g' e => by injection e with e; omega)
        have HP5 := Lib.hid (hp.far hg2 hlt)
        have HR5 := Lib.hid hr
        have HC := hr.cell
        have HL2 := Lib.hid (rdL_byte (top := topW) HL.out)
        clear hr2 hp hr hg hg2 HB4 HP HR HL hb
        generalize rdV topW l = v
        generalize rdL topW l = l' at HP5 HR5 HC HL2
        generalize rdB topW l bad = bad' at HP5 HR5 HC
        generalize hq : (!bad' && l'.isEmpty) = q
        have HQ := Lib.hid hq
        generalize hrr : l'.length = r
        have HRR := Lib.hid hrr
        clear hq hrr
        go_wp2_with fail
        go_quiet (first | (go_at_call 25; exact cleft_q HRR.out HP5.out _) | (go_at_call 31; exact rcleft_q HRR.out HR5.out _) | (go_at_call 27; exact cbad_q HP5.out _) | (go_at_call 26; exact cend_q HQ.out HP5.out _) | (go_at_call 32; exact rcend_q HQ.out HR5.out _))
        go_wp2_with fail
        go_roundw
        case rel => exact ⟨k + 1, l', bad', by omega, by go_num, HP5.out.drewN _, HR5.out.drewN _, below_drewN HB5 _, HL2⟩
        case measure => simp [intOf]; omega
      · go_wp2_with fail
        refine (cint_any _ HP.out HL.out).mono ?_
        rintro e w4 ⟨rfl, hp, hg⟩
        have HB4 := hb.grown hg hb.size (fun g' e => by injection e with e; omega)
        have hr2 := HR.out.far hg hwg (by omega)
        clear hc
        go_wp2_with fail
        refine (rcint_any _ hr2 HL.out).mono ?_
        rintro e w5 ⟨rfl, hr, hg2⟩
        have HB5 := HB4.grown hg2 HB4.size (fun g' e => by injection e with e; omega)
        have HP5 := Lib.hid (hp.far hg2 hlt)
        have HR5 := Lib.hid hr
        have HC := hr.cell
        have HL2 := Lib.hid (rdL_byte (top := topI) HL.out)
        clear hr2 hp hr hg hg2 HB4 HP HR HL hb
        generalize rdV topI l = v
        generalize rdL topI l = l' at HP5 HR5 HC HL2
        generalize rdB topI l bad = bad' at HP5 HR5 HC
        generalize hq : (!bad' && l'.isEmpty) = q
        have HQ := Lib.hid hq
        generalize hrr : l'.length = r
        have HRR := Lib.hid hrr
        clear hq hrr
        go_wp2_with fail
        go_quiet (first | (go_at_call 25; exact cleft_q HRR.out HP5.out _) | (go_at_call 31; exact rcleft_q HRR.out HR5.out _) | (go_at_call 27; exact cbad_q HP5.out _) | (go_at_call 26; exact cend_q HQ.out HP5.out _) | (go_at_call 32; exact rcend_q HQ.out HR5.out _))
        go_wp2_with fail
        go_roundw
        case rel => exact ⟨k + 1, l', bad', by omega, by go_num, HP5.out.drewN _, HR5.out.drewN _, below_drewN HB5 _, HL2⟩
        case measure => simp [intOf]; omega
    · go_wp2_with fail
      go_ret
      exact ⟨rfl, hb⟩

theorem packReads_walk {A A2 : Option Addr} {n c m c2 : Nat} {xs : List Nat} {bs : List Bool} (w : World) (hx : Reads w w.heap.size 1 A n (u8s xs)) (hy : Reads w w.heap.size 1 A2 m (boos bs)) (hxs : ∀ x ∈ xs, x < 256) (hn : n ≤ maxLen) (hm : m ≤ maxLen) :
    Calls Try.prog 7 #[.slice A n c, .slice A2 m c2] w fun e w' => e = .returned (.bool true) ∧ Below w.heap.size w w' := by
  by_cases h : 2000 < n ∨ 200 < m
  · exact reads_early w hn hm h
  · exact reads_main w hx hy hxs (by omega) (by omega)


namespace packReads
set_option maxRecDepth 100000 in
theorem contract (H : Type) (enc : TypeId × Value → H) (W : World) (base : Nat) (args : Array Value) (ds gs : List (DataW H)) (before : List MemPlace)
    (hval : ∀ (j : Nat) t v, Try.f7.params[j]? = some t → args[j]? = some v → Value.okWide Try.prog W .any base t v)
    (hW : DataW.Whole enc Try.prog Try.f7.params.toList Rows.packReadsSpec.vars false W args.toList ds gs before) :
    Calls Try.prog 7 args W fun e W' => ∃ v, e = .returned v ∧ Rows.packReadsSpec.post enc Try.prog Try.f7 false true false false W args v W' := by
  have hWc := hW
  obtain ⟨p, q, hA0, hV, _, _, _⟩ := hW
  have hA : DataW.TrodAll enc Try.prog W 0 (fun _ => true) true Try.f7.params.toList args.toList ds p := hA0
  clear hA0
  rw [Try.params7] at hA hval
  obtain ⟨v0, vs0, d0, ds0, p0, q0, hargs, rfl, rfl, h0, r0⟩ := trodAll_cons hA
  obtain ⟨v1, vs1, d1, ds1, p1, q1, rfl, rfl, rfl, h1, r1⟩ := trodAll_cons r0
  obtain ⟨rfl, rfl, rfl⟩ := trodAll_nil r1
  obtain rfl : args = #[v0, v1] := by cases args; simp_all
  obtain ⟨A0, n0, c0, l0, rfl, hr0, hw0, hn0, hc0⟩ := open_u8s Try.underlying22 Try.underlying5 (by kernel_rfl) (hval 0 22 v0 rfl rfl) h0
  obtain ⟨A1, n1, c1, l1, rfl, hr1, hn1, hc1⟩ := open_boos Try.underlying40 Try.underlying4 (by kernel_rfl) (hval 1 40 v1 rfl rfl) h1
  refine (packReads_walk  W hr0 hr1 hw0 (Nat.le_trans hn0 hc0) (Nat.le_trans hn1 hc1)).mono fun e W' ⟨he, hb⟩ => ⟨_, he, ?_⟩
  exact post_true hWc rfl hb laidOut (readables (by kernel_rfl)) rfl Try.underlying4 (fun h => by subst h; rfl)

set_option maxRecDepth 100000 in
theorem lifted (os : Os) (started : os.Started) (H : Type) (enc : TypeId × Value → H) :
    ReturnsInHanded {} Try.checked os 7 .any (Rows.packReadsSpec.pre6 enc Try.prog Try.f7 Rows.packReadsRow.domain false) (Rows.packReadsSpec.post enc Try.prog Try.f7 false true false false) := by
  refine returnsInHanded_of_change (C := Try.checked) own started (by kernel_rfl) Try.func7
    (ChangeSpec.witness6 (enc := enc) (C := Try.checked) false ⟨#[], #[.slice none 0 0, .slice none 0 0], []⟩ 8 (by kernel_rfl) (by kernel_rfl) (by kernel_rfl) (by kernel_rfl)) ?_
  intro W base args ds gs before hval hW _ _
  exact contract H enc W base args ds gs before hval hW

theorem proved : Rows.PackReadsSaid :=
  OpenClaim.holds_of_wide 7 Try.f7 rfl rfl rfl rfl rfl rfl rfl ⟨rfl, rfl, rfl, rfl, rfl⟩ rfl rfl rfl rfl rfl (by kernel_rfl) Try.func7 (by kernel_rfl)
    (of_decide_eq_true (by kernel_rfl)) (by unfold Func.isWrapper; first | (rw [if_pos (by decide +kernel)]; kernel_rfl) | (rw [if_neg (by decide +kernel)]; exact ⟨rfl, rfl⟩))
    (fun os started H enc _ => lifted os started H enc)
end packReads
end Go.Proofs.Ytejijghghbicdaa
