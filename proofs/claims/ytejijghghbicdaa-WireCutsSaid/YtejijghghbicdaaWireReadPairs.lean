/-
  Reading pairs: as a plain function, and both programs', by contracts.
-/
import Derived.Test.YtejijghghbicdaaWirePairs
import Derived.Test.YtejijghghbicdaaWireParse
import Derived.Test.YtejijghghbicdaaRCursor2
import Derived.Outline
namespace Go.Proofs.Ytejijghghbicdaa
open Go.RowKit
set_option linter.unusedSimpArgs false
set_option linter.unusedVariables false

theorem infoPair : (Try.prog.info? 64).map (fun i => (i.zero, i.size, i.bytes)) = some (some (.agg #[.int .i64 0, .int .u64 0]), 2, 16) := by kernel_rfl
/-- The pairs that a cursor reads when it wants n, and how it stands behind them. -/
def rdPairs : Nat → Cur → List Pr × Cur
  | 0, c => ([], c)
  | n + 1, c => if c.b then ([], c) else (⟨c.i, c.ni.w⟩ :: (rdPairs n c.ni.nw).1, (rdPairs n c.ni.nw).2)
def rdPrs (c : Cur) : List Pr × Cur := rdPairs (rdV topI c.l) c.ni
theorem rdPairs_bad {n : Nat} {c : Cur} (h : c.b = true) : rdPairs n c = ([], c) := by
  cases n with
  | zero => rfl
  | succ n => simp [rdPairs, h]
theorem rdPairs_succ {n : Nat} {c : Cur} (h : c.b = false) : rdPairs (n + 1) c = (⟨c.i, c.ni.w⟩ :: (rdPairs n c.ni.nw).1, (rdPairs n c.ni.nw).2) := by simp [rdPairs, h]
theorem rd_shorter {top : Nat} {l l' : List Nat} {y : Nat} (h : rd top l = some (y, l')) : l'.length + 1 ≤ l.length := by
  unfold rd at h
  split at h
  · rename_i y' j hs
    split at h
    · simp only [Option.some.injEq, Prod.mk.injEq] at h
      obtain ⟨rfl, rfl⟩ := h
      have : 0 < j ∧ 0 < l.length := by
        cases l with
        | nil => cases hs
        | cons d l =>
          refine ⟨?_, by simp⟩
          have key : ∀ (l : List Nat) (k x y j : Nat), scan k x l = some (y, j) → k < j := by
            intro l
            induction l with
            | nil => intro k x y j h; cases h
            | cons d l ih =>
              intro k x y j h
              unfold scan at h
              split at h
              · cases h
              · split at h
                · have := ih _ _ _ _ h; omega
                · split at h
                  · cases h
                  · simp only [Option.some.injEq, Prod.mk.injEq] at h; omega
          exact key _ _ _ _ _ hs
      simp; omega
    · cases h
  · cases h
theorem ni_len (c : Cur) : c.ni.l.length + (if c.ni.b then 0 else 1) ≤ c.l.length := by
  unfold Cur.ni rdL rdB
  cases h : rd topI c.l with
  | none => simp
  | some r =>
    have := rd_shorter (y := r.1) (l' := r.2) h
    cases c.b <;> simp <;> omega
theorem nw_len (c : Cur) : c.nw.l.length + (if c.nw.b then 0 else 1) ≤ c.l.length := by
  unfold Cur.nw rdL rdB
  cases h : rd topW c.l with
  | none => simp
  | some r =>
    have := rd_shorter (y := r.1) (l' := r.2) h
    cases c.b <;> simp <;> omega
theorem bad_ni {c : Cur} (h : c.b = true) : c.ni.b = true := by unfold Cur.ni rdB; simp [h]
theorem bad_nw {c : Cur} (h : c.b = true) : c.nw.b = true := by unfold Cur.nw rdB; simp [h]
/-- What a loop that reads pairs keeps: a good cursor has at most as many pairs behind it as bytes. -/
def PLen (L : Nat) (acc : List Pr) (s : Cur) : Prop := acc.length + s.l.length ≤ L + (if s.b then 1 else 0)
theorem plen_step {L : Nat} {acc : List Pr} {s : Cur} {p : Pr} (h : PLen L acc s) (hb : s.b = false) : PLen L (acc ++ [p]) s.ni.nw := by
  unfold PLen at *
  have h1 := ni_len s
  have h2 := nw_len s.ni
  rw [hb] at h
  simp at h ⊢
  cases h3 : s.ni.b
  · rw [h3] at h1
    cases h4 : s.ni.nw.b
    · rw [h4] at h2; simp at *; omega
    · rw [h4] at h2; simp at *; omega
  · have h4 := bad_nw h3
    rw [h4] at h2 ⊢; simp at *; omega
theorem own_pair {w : World} {b e m : Nat} {v : Value} {l : List Pr} {p : Pr} (h : w.ownsRow b e 2 v m (prCells l ++ [.int .i64 p.v, .int .u64 (p.x : Nat)])) (hm : m = l.length + 1) : w.ownsRow b e 2 v (l ++ [p]).length (prCells (l ++ [p])) := by
  subst hm
  rw [prCells_append]
  simpa [prCells] using h
theorem grown_trans {w w1 w2 : World} {g : Nat} (h : w.grownBy w1 (some g)) (h2 : w1.grownBy w2 (some g)) : w.grownBy w2 (some g) :=
  ⟨h2.os.trans h.os, h2.tape.trans h.tape, h2.output.trans h.output, Nat.le_trans h.size h2.size, fun k hk hne => (h2.block k (Nat.lt_of_lt_of_le hk h.size) hne).trans (h.block k hk hne)⟩
theorem grown_new {w w1 w2 : World} {g : Nat} {row : Option Nat} (h : w.grownBy w1 (some g)) (h2 : w1.grownBy w2 row) (hr : ∀ r, row = some r → w.heap.size ≤ r) : w.grownBy w2 (some g) :=
  ⟨h2.os.trans h.os, h2.tape.trans h.tape, h2.output.trans h.output, Nat.le_trans h.size h2.size, fun k hk hne => (h2.block k (Nat.lt_of_lt_of_le hk h.size) (fun e => by have := hr k e.symm; omega)).trans (h.block k hk hne)⟩
theorem grown_alloc {w w1 : World} {g : Nat} (h : w.grownBy w1 (some g)) (o : Obj) : w.grownBy (w1.alloc o) (some g) := grown_new h (World.grownBy_alloc w1 o none) (by simp)
theorem own_kept {w w' : World} {base e size n g : Nat} {v : Value} {xs : List Value} (h : w.ownsRow base e size v n xs) (hg : w.grownBy w' (some g)) (hb : g < base) : w'.ownsRow base e size v n xs := by
  refine ⟨h.1, h.2.elim Or.inl fun ⟨r, cap, cur, hv, hr, hh, rest⟩ => Or.inr ⟨r, cap, cur, hv, hr, ?_, rest⟩⟩
  have hlt := (h.lt r (by subst hv; rfl)).2
  rw [hg.block r hlt (by simp; omega)]; exact hh
theorem PC.new_ {w w' : World} {g : Nat} {l : List Nat} {bad : Bool} {row : Option Nat} (h : PC w g l bad) (hg : w.grownBy w' row) (hr : ∀ r, row = some r → g < r) : PC w' g l bad := by
  obtain ⟨A, n, c, hB, hR, hn, hc⟩ := h
  exact ⟨A, n, c, hB.grown hg (fun e => by have := hr _ e.symm; omega), hR.grown hg (Nat.le_of_lt hB.lt) (fun k hk => by have := hr _ hk; omega), hn, hc⟩
theorem cint_c {g : Nat} {c : Cur} (w : World) (h : PC w g c.l c.b) (hl : ∀ d ∈ c.l, d < 256) :
    Calls Try.prog 28 #[.pointer (some ⟨g, 0, none⟩)] w fun e w' => e = .returned (.int .i64 c.i) ∧ PC w' g c.ni.l c.ni.b ∧ w.grownBy w' (some g) := cint_any w h hl
theorem cword_c {g : Nat} {c : Cur} (w : World) (h : PC w g c.l c.b) (hl : ∀ d ∈ c.l, d < 256) :
    Calls Try.prog 24 #[.pointer (some ⟨g, 0, none⟩)] w fun e w' => e = .returned (.int .u64 (c.w : Nat)) ∧ PC w' g c.nw.l c.nw.b ∧ w.grownBy w' (some g) := cword_any w h hl
theorem ni_byte_ {c : Cur} (h : ∀ d ∈ c.l, d < 256) : ∀ d ∈ c.ni.l, d < 256 := rdL_byte (top := topI) h
theorem nw_byte_ {c : Cur} (h : ∀ d ∈ c.l, d < 256) : ∀ d ∈ c.nw.l, d < 256 := rdL_byte (top := topW) h

set_option maxRecDepth 100000 in
set_option maxHeartbeats 2000000 in
theorem readps_any {g : Nat} {c : Cur} (w : World) (hp : PC w g c.l c.b) (hl : ∀ d ∈ c.l, d < 256) (hlen : c.l.length ≤ 1000000) :
    Calls Try.prog 62 #[rdr g] w fun e w' => ∃ v, e = .returned v ∧ w'.ownsRow (w.heap.size + 1) 64 2 v (rdPrs c).1.length (prCells (rdPrs c).1) ∧ PC w' g (rdPrs c).2.l (rdPrs c).2.b ∧ w.grownBy w' (some g) := by
  have HL := Lib.hid hl
  have HLEN := Lib.hid hlen
  have hgl := hp.lt
  have HP := Lib.hid (hp.alloc (.cells #[.pointer (some ⟨g, 0, none⟩), .func (Fn.func 28) #[.pointer (some ⟨g, 0, none⟩)] #[]] 103))
  obtain ⟨i0, hi0, hz0, hz1, hz2⟩ := info_parts infoPair
  clear hl hp hlen
  unfold rdr
  go_enter Try.func62, Try.ntmps62
  go_wp2_with fail
  refine (cint_c _ HP.out HL.out).mono ?_
  rintro e w1 ⟨rfl, hp1, hg1⟩
  have KB := (Blk.new w 103 #[.pointer (some ⟨g, 0, none⟩), .func (Fn.func 28) #[.pointer (some ⟨g, 0, none⟩)] #[]]).grown hg1 (by simp; omega)
  have HG := grown_trans (grown_alloc (grown_self w (some g)) (.cells #[.pointer (some ⟨g, 0, none⟩), .func (Fn.func 28) #[.pointer (some ⟨g, 0, none⟩)] #[]] 103)) hg1
  have hib : ((rdV topI c.l : Nat) : Int) ≤ 9223372036854775807 := by have := rdV_le topI c.l; have := topI_cast; omega
  have hci : c.i = (rdV topI c.l : Nat) := rfl
  rw [hci]
  have HRD := Lib.hid (show rdPrs c = rdPairs (rdV topI c.l) c.ni from rfl)
  have HPL := Lib.hid (show PLen c.l.length [] c.ni by have := ni_len c; unfold PLen; cases h : c.ni.b <;> simp [h] at this ⊢ <;> omega)
  obtain ⟨N, hN⟩ : ∃ N, N = rdV topI c.l := ⟨_, rfl⟩
  rw [← hN] at HRD hib ⊢
  have c0 := KB.c
  have z0 := KB.lt
  clear hci hN hg1
  go_wp2_with fail
  clear c0 z0
  go_loopw [3, 4] (fun v n wr => ∃ (j : Nat) (acc : List Pr) (s : Cur), j ≤ N ∧ n = .int .i64 (j : Nat) ∧ wr.ownsRow (w.heap.size + 1) 64 2 v acc.length (prCells acc) ∧ PC wr g s.l s.b ∧ w.grownBy wr (some g) ∧ Blk wr w.heap.size 103 #[.pointer (some ⟨g, 0, none⟩), .func (Fn.func 28) #[.pointer (some ⟨g, 0, none⟩)] #[]] ∧ Hid (∀ d ∈ s.l, d < 256) ∧ Hid (rdPairs N c.ni = (acc ++ (rdPairs j s).1, (rdPairs j s).2)) ∧ Hid (PLen c.l.length acc s)) (fun _ n _ => (intOf n).toNat)
  case atStart => exact ⟨N, [], c.ni, Nat.le_refl _, rfl, World.ownsRow_nil _ _ _ _, hp1, HG, KB, Lib.hid (ni_byte_ HL.out), Lib.hid rfl, HPL⟩
  case round =>
    obtain ⟨j, acc, s, hjN, rfl, hown, hp, hg, KB, HS, HE, HPL⟩ := hrel
    have c0 := KB.c
    have z0 := KB.lt
    have HPP := Lib.hid hp
    cases j with
    | zero =>
      have HF := Lib.hid (show rdPrs c = (acc, s) by rw [HRD.out, HE.out]; simp [rdPairs])
      clear hp
      go_wp2_with fail
      go_ret
      rw [HF.out]
      exact ⟨_, rfl, hown, HPP.out, hg⟩
    | succ j =>
      cases hsb : s.b
      · have HB := Lib.hid hsb
        have hpos : 0 < (j : Int) + 1 := by omega
        clear hp hsb
        go_wp2_with fail
        refine (cbad_any _ HPP.out).mono ?_
        rw [HB.out]
        rintro e w2 ⟨rfl, rfl⟩
        go_wp2_with fail
        refine (cint_c _ HPP.out HS.out).mono ?_
        rintro e w2 ⟨rfl, hp2, hg2⟩
        have KB2 := KB.grown hg2 (by simp; omega)
        have hown2 := own_kept hown hg2 (by omega)
        have HG2 := grown_trans hg hg2
        have hp2' := Lib.hid hp2
        have c0 := KB2.c
        have z0 := KB2.lt
        clear hp2 hown hg hg2 KB
        go_wp2_with fail
        refine (cword_c _ hp2'.out (ni_byte_ HS.out)).mono ?_
        rintro e w3 ⟨rfl, hp3, hg3⟩
        have KB3 := KB2.grown hg3 (by simp; omega)
        have hown3 := own_kept hown2 hg3 (by omega)
        have HG3 := grown_trans HG2 hg3
        have HP3 := Lib.hid hp3
        have HPL2 := Lib.hid (plen_step (p := ⟨s.i, s.ni.w⟩) HPL.out HB.out)
        have HACC := Lib.hid (show acc.length ≤ 1000001 by have h2 := HLEN.out; have := HPL.out; unfold PLen at this; split at this <;> omega)
        clear hp3 hown2 HG2 hg3 KB2 c0
        go_wp2_with (at_builtin; refine wpList_append_own _ rfl _ _ 57 rfl (w.heap.size + 1) 64 i0 (.agg #[.int .i64 0, .int .u64 0]) 2 16 Try.underlying57 hi0 hz0 hz1 hz2 rfl (by decide) _ _ _ rfl (hown3.alloc _) ⟨w3.heap.size, 0, none⟩ 1 1 [.int .i64 s.i, .int .u64 (s.ni.w : Nat)] rfl rfl ?c1 ?c2 ?c3 ?c4 ?c5 ?_)
        case c1 => intro i u hu; exact (reads_new w3 [.int .i64 s.i, .int .u64 (s.ni.w : Nat)] 64 2 rfl).2 (by omega) |>.elim fun ad h => by obtain ⟨e, _, hc⟩ := h; injection e with e; subst e; exact hc i u hu
        case c2 => intro u hu; simp at hu; rcases hu with rfl | rfl <;> rfl
        case c3 => have := HACC.out; unfold maxLen; omega
        case c4 => have := HACC.out; omega
        case c5 => have := HG3.size; simp; omega
        intro v4 w4 hown4 hg4 _
        have hown5 := own_pair (p := ⟨s.i, s.ni.w⟩) hown4 rfl
        have HG5 := grown_new (grown_alloc HG3 (.cells #[.int .i64 s.i, .int .u64 (s.ni.w : Nat)] 64)) hg4 (fun r hr => by have := (hown3.lt r hr).1; omega)
        have KB5 := (KB3.alloc (.cells #[.int .i64 s.i, .int .u64 (s.ni.w : Nat)] 64)).grown hg4 (fun e => by have := (hown3.lt _ e.symm).1; omega)
        have HP5 := Lib.hid ((HP3.out.alloc (.cells #[.int .i64 s.i, .int .u64 (s.ni.w : Nat)] 64)).new_ hg4 (fun r hr => by have := (hown3.lt r hr).1; omega))
        have HE5 := Lib.hid (show rdPairs N c.ni = ((acc ++ [⟨s.i, s.ni.w⟩]) ++ (rdPairs j s.ni.nw).1, (rdPairs j s.ni.nw).2) by rw [HE.out, rdPairs_succ HB.out]; simp)
        clear hown4 hg4 hown3 HG3 KB3
        go_wp2_with fail
        go_roundw
        case rel => exact ⟨j, acc ++ [⟨s.i, s.ni.w⟩], s.ni.nw, by omega, by go_num, hown5, HP5.out, HG5, KB5, Lib.hid (nw_byte_ (ni_byte_ HS.out)), HE5, HPL2⟩
        case measure => simp [intOf]
      · have HB := Lib.hid hsb
        have hpos : 0 < (j : Int) + 1 := by omega
        have HF := Lib.hid (show rdPrs c = (acc, s) by rw [HRD.out, HE.out, rdPairs_bad hsb]; simp)
        clear hp hsb
        go_wp2_with fail
        refine (cbad_any _ HPP.out).mono ?_
        rw [HB.out]
        rintro e w2 ⟨rfl, rfl⟩
        go_wp2_with fail
        go_ret
        rw [HF.out]
        exact ⟨_, rfl, hown, HPP.out, hg⟩
theorem RC.kept {w w' : World} {B g : Nat} {l : List Nat} {bad : Bool} {row : Option Nat} (h : RC w B g l bad) (hg : w.grownBy w' row) (hr : ∀ r, row = some r → g < r) : RC w' B g l bad := by
  obtain ⟨A, n, c, a, all, hK, hR, hBg, h⟩ := h
  exact ⟨A, n, c, a, all, hK.grown hg (fun e => by have := hr _ e.symm; omega), hR.grown hg (Nat.le_trans hBg (Nat.le_of_lt hK.lt)) (fun k hk => by have := hr _ hk; omega), hBg, h⟩
theorem RC.alloc_ {w : World} {B g : Nat} {l : List Nat} {bad : Bool} (h : RC w B g l bad) (o : Obj) : RC (w.alloc o) B g l bad := h.kept (World.grownBy_alloc w o none) (by simp)
theorem RC.lt_ {w : World} {B g : Nat} {l : List Nat} {bad : Bool} (h : RC w B g l bad) : g < w.heap.size := by
  obtain ⟨A, n, c, a, all, hB, _⟩ := h; exact hB.lt
theorem RC.cell_ {w : World} {B g : Nat} {l : List Nat} {bad : Bool} (h : RC w B g l bad) : w.cell? ⟨g, 2, none⟩ = some (.bool bad) := by
  obtain ⟨A, n, c, a, all, hB, _⟩ := h
  rw [hB.c]; rfl
theorem rcint_c {B g : Nat} {c : Cur} (w : World) (h : RC w B g c.l c.b) (hl : ∀ d ∈ c.l, d < 256) :
    Calls Try.prog 29 #[.pointer (some ⟨g, 0, none⟩)] w fun e w' => e = .returned (.int .i64 c.i) ∧ RC w' B g c.ni.l c.ni.b ∧ w.grownBy w' (some g) := rcint_any w h hl
theorem rcword_c {B g : Nat} {c : Cur} (w : World) (h : RC w B g c.l c.b) (hl : ∀ d ∈ c.l, d < 256) :
    Calls Try.prog 30 #[.pointer (some ⟨g, 0, none⟩)] w fun e w' => e = .returned (.int .u64 (c.w : Nat)) ∧ RC w' B g c.nw.l c.nw.b ∧ w.grownBy w' (some g) := rcword_any w h hl

set_option maxRecDepth 100000 in
set_option maxHeartbeats 2000000 in
theorem rreadps_any {B g : Nat} {c : Cur} (w : World) (hp : RC w B g c.l c.b) (hl : ∀ d ∈ c.l, d < 256) (hlen : c.l.length ≤ 1000000) :
    Calls Try.prog 64 #[.pointer (some ⟨g, 0, none⟩)] w fun e w' => ∃ v, e = .returned v ∧ w'.ownsRow (w.heap.size) 64 2 v (rdPrs c).1.length (prCells (rdPrs c).1) ∧ RC w' B g (rdPrs c).2.l (rdPrs c).2.b ∧ w.grownBy w' (some g) := by
  have HL := Lib.hid hl
  have HLEN := Lib.hid hlen
  have hgl := hp.lt_
  have HP := Lib.hid hp
  obtain ⟨i0, hi0, hz0, hz1, hz2⟩ := info_parts infoPair
  clear hl hp hlen
  go_enter Try.func64, Try.ntmps64
  go_wp2_with fail
  refine (rcint_c _ HP.out HL.out).mono ?_
  rintro e w1 ⟨rfl, hp1, hg1⟩
  have HG := hg1
  have hib : ((rdV topI c.l : Nat) : Int) ≤ 9223372036854775807 := by have := rdV_le topI c.l; have := topI_cast; omega
  have hci : c.i = (rdV topI c.l : Nat) := rfl
  rw [hci]
  have HRD := Lib.hid (show rdPrs c = rdPairs (rdV topI c.l) c.ni from rfl)
  have HPL := Lib.hid (show PLen c.l.length [] c.ni by have := ni_len c; unfold PLen; cases h : c.ni.b <;> simp [h] at this ⊢ <;> omega)
  obtain ⟨N, hN⟩ : ∃ N, N = rdV topI c.l := ⟨_, rfl⟩
  rw [← hN] at HRD hib ⊢
  clear hci hN hg1
  go_wp2_with fail
  go_loopw [4, 5] (fun v n wr => ∃ (k : Nat) (acc : List Pr) (s : Cur), k ≤ N ∧ n = .int .i64 (k : Nat) ∧ wr.ownsRow w.heap.size 64 2 v acc.length (prCells acc) ∧ RC wr B g s.l s.b ∧ w.grownBy wr (some g) ∧ Hid (∀ d ∈ s.l, d < 256) ∧ Hid (rdPairs N c.ni = (acc ++ (rdPairs (N - k) s).1, (rdPairs (N - k) s).2)) ∧ Hid (PLen c.l.length acc s)) (fun _ n _ => N - (intOf n).toNat)
  case atStart => exact ⟨0, [], c.ni, Nat.zero_le _, rfl, World.ownsRow_nil _ _ _ _, hp1, HG, Lib.hid (ni_byte_ HL.out), Lib.hid rfl, HPL⟩
  case round =>
    obtain ⟨k, acc, s, hkN, rfl, hown, hp, hg, HS, HE, HPL⟩ := hrel
    have HPP := Lib.hid hp
    have hc2 := hp.cell_
    by_cases hlt : k < N
    · cases hsb : s.b
      · have HB := Lib.hid hsb
        rw [hsb] at hc2
        clear hp hsb
        go_wp2_with fail
        refine (rcint_c _ HPP.out HS.out).mono ?_
        rintro e w2 ⟨rfl, hp2, hg2⟩
        have hown2 := own_kept hown hg2 (by omega)
        have HG2 := grown_trans hg hg2
        have hp2' := Lib.hid hp2
        clear hp2 hown hg hg2 hc2
        go_wp2_with fail
        refine (rcword_c _ hp2'.out (ni_byte_ HS.out)).mono ?_
        rintro e w3 ⟨rfl, hp3, hg3⟩
        have hown3 := own_kept hown2 hg3 (by omega)
        have HG3 := grown_trans HG2 hg3
        have HP3 := Lib.hid hp3
        have HPL2 := Lib.hid (plen_step (p := ⟨s.i, s.ni.w⟩) HPL.out HB.out)
        have HACC := Lib.hid (show acc.length ≤ 1000001 by have h2 := HLEN.out; have := HPL.out; unfold PLen at this; split at this <;> omega)
        clear hp3 hown2 HG2 hg3
        go_wp2_with (at_builtin; refine wpList_append_own _ rfl _ _ 57 rfl w.heap.size 64 i0 (.agg #[.int .i64 0, .int .u64 0]) 2 16 Try.underlying57 hi0 hz0 hz1 hz2 rfl (by decide) _ _ _ rfl (hown3.alloc _) ⟨w3.heap.size, 0, none⟩ 1 1 [.int .i64 s.i, .int .u64 (s.ni.w : Nat)] rfl rfl ?c1 ?c2 ?c3 ?c4 ?c5 ?_)
        case c1 => intro i u hu; exact (reads_new w3 [.int .i64 s.i, .int .u64 (s.ni.w : Nat)] 64 2 rfl).2 (by omega) |>.elim fun ad h => by obtain ⟨e, _, hc⟩ := h; injection e with e; subst e; exact hc i u hu
        case c2 => intro u hu; simp at hu; rcases hu with rfl | rfl <;> rfl
        case c3 => have := HACC.out; unfold maxLen; omega
        case c4 => have := HACC.out; omega
        case c5 => have := HG3.size; simp; omega
        intro v4 w4 hown4 hg4 _
        have hown5 := own_pair (p := ⟨s.i, s.ni.w⟩) hown4 rfl
        have HG5 := grown_new (grown_alloc HG3 (.cells #[.int .i64 s.i, .int .u64 (s.ni.w : Nat)] 64)) hg4 (fun r hr => by have := (hown3.lt r hr).1; omega)
        have HP5 := Lib.hid ((HP3.out.alloc_ (.cells #[.int .i64 s.i, .int .u64 (s.ni.w : Nat)] 64)).kept hg4 (fun r hr => by have := (hown3.lt r hr).1; omega))
        have HE5 := Lib.hid (show rdPairs N c.ni = ((acc ++ [⟨s.i, s.ni.w⟩]) ++ (rdPairs (N - (k + 1)) s.ni.nw).1, (rdPairs (N - (k + 1)) s.ni.nw).2) by rw [HE.out, show N - k = (N - (k + 1)) + 1 by omega, rdPairs_succ HB.out]; simp)
        clear hown4 hg4 hown3 HG3
        go_wp2_with fail
        go_roundw
        case rel => exact ⟨k + 1, acc ++ [⟨s.i, s.ni.w⟩], s.ni.nw, by omega, by go_num, hown5, HP5.out, HG5, Lib.hid (nw_byte_ (ni_byte_ HS.out)), HE5, HPL2⟩
        case measure => simp [intOf]; omega
      · have HB := Lib.hid hsb
        rw [hsb] at hc2
        have HF := Lib.hid (show rdPrs c = (acc, s) by rw [HRD.out, HE.out, rdPairs_bad hsb]; simp)
        clear hp hsb
        go_wp2_with fail
        go_ret
        rw [HF.out]
        exact ⟨_, rfl, hown, HPP.out, hg⟩
    · have HF := Lib.hid (show rdPrs c = (acc, s) by rw [HRD.out, HE.out, show N - k = 0 by omega]; simp [rdPairs])
      clear hp
      go_wp2_with fail
      go_ret
      rw [HF.out]
      exact ⟨_, rfl, hown, HPP.out, hg⟩
end Go.Proofs.Ytejijghghbicdaa
