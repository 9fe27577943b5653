/-
  Counts: Times and Front, by contracts.
-/
import Derived.Test.YtifoonjhcjmehaaColl
import Derived.Test.YtifoonjhcjmehaaCounts2
import Derived.Test.YtifoonjhcjmehaaDelOn
import Derived.Test.YtifoonjhcjmehaaAntiOpen
namespace Go.Proofs.Ytifoonjhcjmehaa
open Go.RowKit Go.Maps
set_option linter.unusedSimpArgs false
set_option linter.unusedVariables false

/-- Counts in memory. -/
structure CtAt (w : World) (g : Nat) (m : Option Nat) (N : Nat) (L : Cnt) : Prop where
  box : Blk w g 26 #[.map m]
  map : MV w m N L
  canon : Canon L
  bnd : Bnd L
  ok : OkL L
theorem CtAt.on {w w' : World} {g N : Nat} {m : Option Nat} {L : Cnt} (h : CtAt w g m N L) (hb : Below w.heap.size w w') : CtAt w' g m N L := ⟨h.box.on hb, h.map.on hb, h.canon, h.bnd, h.ok⟩
theorem CtAt.touch {w w' : World} {g N : Nat} {m : Option Nat} {L : Cnt} {gs : List Nat} (h : CtAt w g m N L) (ht : Touch gs w w') (hg : g ∉ gs) (hm : ∀ b, m = some b → b ∉ gs) : CtAt w' g m N L := ⟨h.box.touch ht hg, h.map.touch ht hm, h.canon, h.bnd, h.ok⟩

set_option maxRecDepth 100000 in
set_option maxHeartbeats 2000000 in
theorem sortedf_T (f : Nat) (lb : Array Value) (eg : ∀ args w, (callFunc f args).run Try.prog w = .ok (.enter f args) w)
    (S : List Tm → Prop) (N : Nat) (hN : N ≤ 1000000) (w : World) (hseq : SeqGives Fence.wide 3 Try.prog f lb vT S N w) (hS : ∀ ss, S ss → ss.Nodup ∧ ss.length ≤ 1000000) :
    Calls Try.prog 33 #[.func (.func f) #[] lb, .func (.func 35) #[] #[]] w fun e w' => ∃ (A : Option Addr) (n c : Nat) (ss ts : List Tm), e = .returned (.slice A n c) ∧ S ss ∧ ts.Perm ss ∧ ts.Pairwise Tm.lt_ ∧ w'.ownsRow w.heap.size 33 2 (.slice A n c) n (tmCells ts) ∧ Below w.heap.size w w' := by
  have hc := Lib.hid (collect_T 4 (by omega) f lb eg S N hN w hseq)
  clear hseq
  go_enter Try.func33, Try.ntmps33
  go_wp2_with fail
  refine hc.out.mono ?_
  rintro e w1 ⟨v, ss, rfl, hs, hown, hb⟩
  obtain ⟨hnd, hlen⟩ := hS ss hs
  obtain ⟨A, c, rfl⟩ := own_slice hown
  have hs1 := Lib.hid (sortf_any w1 hown hnd hlen)
  have HS := Lib.hid hs
  have HB := Lib.hid hb
  have hlt := Lib.hid hown.lt
  generalize ss.length = n at hs1 hlt
  clear hs hb hown hnd hlen
  go_wp2_with fail
  refine hs1.out.mono ?_
  rintro e w2 ⟨rfl, ts, hp, hr, hown2, hg2⟩
  have hb2 : Below w.heap.size w1 w2 := (Touch.grown hg2).below (fun y hy => (hlt.out y (by simpa using hy)).1) HB.out.size
  have HO := Lib.hid hown2
  have HB2 := Lib.hid (HB.out.trans hb2)
  clear hown2 hg2 hb2
  go_wp2_with fail
  go_ret
  exact ⟨A, n, c, ss, ts, rfl, HS.out, hp, hr, HO.out, HB2.out⟩
theorem nodup_rise {l : List Tm} (h : l.Pairwise Tm.lt_) : l.Nodup := h.imp fun {a b} hab e => by rw [e] at hab; exact Tm.lt_irrefl _ hab
theorem k1_enters (args : Array Value) (w : World) : (callFunc 50 args).run Try.prog w = .ok (.enter 50 args) w := by kernel_rfl
theorem sorted_is {L : Cnt} {ss ts : List Tm} (hc : Canon L) (hm : ∀ t, t ∈ ss ↔ t ∈ tmsL L) (hp : ts.Perm ss) (hr : ts.Pairwise Tm.lt_) : ts = tmsL L :=
  lt_eq _ _ hr (tmsL_rise hc) fun x => (hp.mem_iff).trans (hm x)

/-- The iterator over the keys, made in w. -/
theorem seq_T {w : World} {m : Option Nat} {N : Nat} {L : Cnt} (h : MV w m N L) (hc : Canon L) (hok : OkL L) (hN : N ≤ 1000000) (hlen : L.length ≤ 1000000) :
    ∃ (S : List Tm → Prop) (n : Nat), n ≤ 1000000 ∧ SeqGives Fence.wide 3 Try.prog 50 #[.pointer (some ⟨w.heap.size, 0, none⟩)] vT S n (w.alloc (.cells #[.map m] 24)) ∧ ∀ ss, S ss → (ss.Nodup ∧ ss.length ≤ 1000000) ∧ ∀ t, t ∈ ss ↔ t ∈ tmsL L := by
  rcases h with ⟨rfl, rfl⟩ | ⟨b, rfl, D, ho, hr⟩
  · exact ⟨_, 0, Nat.zero_le _, keys_gives_nil_T Fence.wide 3 trivial rfl w.heap.size _ (by simp) (by simp), fun ss hs => by subst hs; exact ⟨⟨List.nodup_nil, Nat.zero_le _⟩, fun t => by simp [tmsL]⟩⟩
  · refine ⟨_, Maps.size D, Nat.le_trans ho.size_le hN, keys_gives_T Fence.wide 3 trivial rfl (by omega) w.heap.size b N D _ (by simp) (by simp) (ho.alloc _), ?_⟩
    rintro ss ⟨left, hC, hl⟩
    obtain ⟨h1, h2⟩ := hC.end_ hl hr hc hok
    refine ⟨⟨h1, ?_⟩, h2⟩
    have hp : ss.Perm (tmsL L) := (List.perm_ext_iff_of_nodup h1 (nodup_rise (tmsL_rise hc))).2 h2
    rw [hp.length_eq, tmsL_len]; exact hlen

set_option maxRecDepth 100000 in
set_option maxHeartbeats 2000000 in
theorem times_any {g N : Nat} {m : Option Nat} {L : Cnt} (w : World) (h : CtAt w g m N L) (hN : N ≤ 1000000) (hlen : L.length ≤ 1000000) :
    Calls Try.prog 19 #[.pointer (some ⟨g, 0, none⟩)] w fun e w' => ∃ (A : Option Addr) (n c : Nat), e = .returned (.slice A n c) ∧ L.length = n ∧ w'.ownsRow w.heap.size 33 2 (.slice A n c) n (tmCells (tmsL L)) ∧ Below w.heap.size w w' := by
  obtain ⟨S, n, hn, hseq, hS⟩ := seq_T h.map h.canon h.ok hN hlen
  have hck := Lib.hid (callsIn_wide.1 (keys_T Fence.wide 3 trivial rfl m w))
  have hcs := Lib.hid (sortedf_T 50 #[.pointer (some ⟨w.heap.size, 0, none⟩)] k1_enters S n hn _ hseq (fun ss hs => (hS ss hs).1))
  have cg := h.box.c 0
  have HH := Lib.hid h
  have HS := Lib.hid hS
  simp only [List.getElem?_toArray, List.getElem?_cons_zero] at cg
  clear h hseq hS
  go_enter Try.func19, Try.ntmps19
  go_wp2_with fail
  refine hck.out.mono ?_
  rintro e w1 ⟨rfl, hw1⟩
  have hw1' := Lib.hid hw1
  rw [← hw1] at hcs
  clear hw1
  go_wp2_with fail
  refine hcs.out.mono ?_
  rintro e w2 ⟨A, k, c, ss, ts, rfl, hs, hp, hr, hown, hb⟩
  have e1 := sorted_is HH.out.canon (HS.out ss hs).2 hp hr
  subst e1
  have hlk : L.length = k := by have := hown.1; simp [tmsL_len] at this; omega
  have hz : w.heap.size ≤ w1.heap.size := by rw [hw1'.out]; simp
  have hb1 : Below w.heap.size w w1 := by rw [hw1'.out]; exact (Below.refl _ w).alloc (Nat.le_refl _) _
  have HO := Lib.hid (own_base hown hz)
  have HB := Lib.hid (below_after hb1 hb hz)
  clear hown hb hb1
  go_wp2_with fail
  go_ret
  exact ⟨A, k, c, rfl, hlk, HO.out, HB.out⟩

theorem f1_enters (args : Array Value) (w : World) : (callFunc 31 args).run Try.prog w = .ok (.enter 31 args) w := by kernel_rfl
set_option maxRecDepth 100000 in
set_option maxHeartbeats 2000000 in
theorem f1_any {g N bx : Nat} {m : Option Nat} {L : Cnt} {gs : List Nat} (w : World) (h : CtAt w g m N L) (hx : Blk w bx 49 #[.pointer (some ⟨g, 0, none⟩)]) (hg : g ∉ gs) (hm : ∀ b, m = some b → b ∉ gs) (hb : bx ∉ gs) :
    PredOn Tm.ok 31 #[.pointer (some ⟨bx, 0, none⟩)] gs (fun t => decide (ofL L t < 0)) w := fun W t ht hT => by
  have hC := h.touch hT hg hm
  have hX := hx.touch hT hb
  have KT := Blk.new W 33 #[.int .i64 t.e, .int .i64 t.l]
  have KC := hC.box.alloc (.cells #[.int .i64 t.e, .int .i64 t.l] 33)
  have KX := hX.alloc (.cells #[.int .i64 t.e, .int .i64 t.l] 33)
  have HB := (Below.refl W.heap.size W).alloc (Nat.le_refl _) (.cells #[.int .i64 t.e, .int .i64 t.l] 33)
  have ct := KT.c
  have cc := KC.c
  have cx := KX.c
  have hM := hC.map.on HB
  obtain ⟨r, hr⟩ : ∃ r, ofL L t = r := ⟨_, rfl⟩
  have hl : ∀ q, (Instr.lookup 24 (.map m) (.agg #[.int .i64 t.e, .int .i64 t.l]) false).run Try.prog ((W.alloc (.cells #[.int .i64 t.e, .int .i64 t.l] 33)).drewN q) = .ok (.int .i64 r) ((W.alloc (.cells #[.int .i64 t.e, .int .i64 t.l] 33)).drewN q) := fun q => by
    have := (hM.drewN q).look ht
    rw [hr] at this
    exact this
  have HR := Lib.hid hr
  have HBH := Lib.hid HB
  clear h hx hC hX KT KC KX HB hM hr
  show Calls Try.prog 31 #[tmv t, .pointer (some ⟨bx, 0, none⟩)] W _
  go_enter Try.func31, Try.ntmps31
  go_wp2_with fail
  go_quiet (fail)
  go_wp2_with fail
  go_ret
  exact ⟨by rw [HR.out]; rfl, below_drewN HBH.out _⟩
theorem del_zero_on {A : Option Addr} {c f : Nat} {lb : Array Value} (w : World) (ef : ∀ args w, (callFunc f args).run Try.prog w = .ok (.enter f args) w) :
    Calls Try.prog 30 #[.slice A 0 c, .func (.func f) #[] lb] w fun e w' => e = .returned (.slice A 0 c) ∧ Below w.heap.size w w' := by
  have hT : Tms w w.heap.size A 0 [] := ⟨by simp [tmCells], fun h => absurd h (by omega)⟩
  have HIX := Lib.hid (idxf_on (Q := fun _ => False) (gs := []) (p := fun _ => false) (lb := lb) (c := c) w hT (Nat.le_refl _) (by omega) (fun _ h => (by cases h)) (fun _ _ h => h.elim) ef)
  clear hT
  go_enter Try.func30, Try.ntmps30
  go_wp2_with fail
  refine HIX.out.mono ?_
  rintro e w1 ⟨r, rfl, hb, hi⟩
  have hr : r = -1 := by
    rcases hi with ⟨h, _⟩ | ⟨j, _, h, _⟩
    · exact h
    · omega
  subst hr
  go_wp2_with fail
  go_ret
  exact ⟨rfl, hb⟩

set_option maxRecDepth 100000 in
set_option maxHeartbeats 4000000 in
theorem front_any {g N : Nat} {m : Option Nat} {L : Cnt} (w : World) (h : CtAt w g m N L) (hN : N ≤ 1000000) (hlen : L.length ≤ 1000) :
    Calls Try.prog 17 #[.pointer (some ⟨g, 0, none⟩)] w fun e w' => ∃ (A : Option Addr) (M c : Nat) (f : List Tm), e = .returned (.slice A M c) ∧ IsMin (aboveL L) f ∧ M ≤ L.length ∧ w'.ownsRow w.heap.size 33 2 (.slice A M c) M (tmCells f) ∧ Below w.heap.size w w' := by
  have hzg := h.box.lt
  have hzm := h.map.lt
  have HB0 := (Below.refl w.heap.size w).alloc (Nat.le_refl _) (.cells #[.pointer (some ⟨g, 0, none⟩)] 49)
  have hC0 := h.on HB0
  have KX0 := Blk.new w 49 #[.pointer (some ⟨g, 0, none⟩)]
  have HT := Lib.hid (times_any _ hC0 hN (by omega))
  have HC0 := Lib.hid hC0
  have HX0 := Lib.hid KX0
  clear h hC0 KX0
  go_enter Try.func17, Try.ntmps17
  go_wp2_with fail
  refine HT.out.mono ?_
  rintro e w1 ⟨A, n, c, rfl, hn, hown, hb⟩
  have HC1 := Lib.hid (HC0.out.on hb)
  have HX1 := Lib.hid (HX0.out.on hb)
  have HB1 := Lib.hid (below_after HB0 hb HB0.size)
  rcases Nat.eq_zero_or_pos n with h0 | h0
  · subst h0
    have hL : L = [] := List.eq_nil_of_length_eq_zero hn
    have HL := Lib.hid hL
    clear hown hb hn hL
    go_wp2_with fail
    refine (del_zero_on _ f1_enters).mono ?_
    rintro e w2 ⟨rfl, hb2⟩
    have HB2 := Lib.hid (below_after HB1.out hb2 HB1.out.size)
    clear hb2
    go_wp2_with fail
    refine (min_s (l := []) _ (⟨by simp [tmCells], fun h => absurd h (by omega)⟩ : Tms w2 w2.heap.size A 0 []) (Nat.le_refl _) (by omega)).mono ?_
    rintro e w3 ⟨A3, M3, c3, f, rfl, hm, hM, _, hb3, hO3⟩
    have hT := own_base hO3 HB2.out.size
    have HB3 := Lib.hid (below_after HB2.out hb3 HB2.out.size)
    go_wp2_with fail
    go_ret
    exact ⟨A3, M3, c3, f, rfl, by rw [HL.out]; exact hm, by omega, hT, HB3.out⟩
  · obtain ⟨g2, c2, hv, hg2, hc2, K⟩ := tblk_of_own hown h0
    injection hv with e1 e2 e3
    subst e1 e3
    have hlt1 : (tmsL L).length = n := by rw [tmsL_len]; exact hn
    have hz0 : w.heap.size < g2 := by have hh := hg2; simp at hh; omega
    have hp := f1_any (gs := [g2]) w1 HC1.out HX1.out (by simp; omega) (fun b hb => by have := hzm b hb; simp; omega) (by simp; omega)
    have hd := Lib.hid (del_on (c := c) w1 K hlt1 hc2 (by omega) (fun x hx => by
      obtain ⟨q, hq, rfl⟩ := List.mem_map.1 hx
      exact HC1.out.ok q hq) hp f1_enters)
    have HLN := Lib.hid hn
    clear hown hb hn K hp hlt1
    go_wp2_with fail
    refine hd.out.mono ?_
    rintro e w2 ⟨k, rfl, hk, hkn, K2, T2⟩
    rw [filter_tmsL HC1.out.canon] at hk K2
    have HB2 := Lib.hid (HB1.out.trans (T2.below (by simp; omega) HB1.out.size))
    have hTm := K2.tms (N := k) (by omega)
    rw [List.take_of_length_le (by omega)] at hTm
    have HTM := Lib.hid hTm
    have hz2 := K2.lt
    clear hk K2 T2 hTm
    go_wp2_with fail
    refine (min_s _ HTM.out (by omega) (by have := HLN.out; omega)).mono ?_
    rintro e w3 ⟨A3, M3, c3, f, rfl, hm, hM, _, hb3, hO3⟩
    have hT := own_base hO3 HB2.out.size
    have HB3 := Lib.hid (below_after HB2.out hb3 HB2.out.size)
    go_wp2_with fail
    go_ret
    exact ⟨A3, M3, c3, f, rfl, hm, by have := HLN.out; omega, hT, HB3.out⟩
end Go.Proofs.Ytifoonjhcjmehaa
