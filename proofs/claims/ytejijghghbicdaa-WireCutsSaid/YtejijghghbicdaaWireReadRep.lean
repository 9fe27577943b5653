/-
  wire.ReadReply and wire.ReadBatch, by contracts: the reply, the batch of bytes.
-/
import Derived.Test.YtejijghghbicdaaWireRepLaw
import Derived.Outline
namespace Go.Proofs.Ytejijghghbicdaa
open Go.RowKit
set_option linter.unusedSimpArgs false
set_option linter.unusedVariables false

theorem str_eq {xs ys : List Nat} {b : Bool} (hxs : ∀ d ∈ xs, d < 256) (hys : ∀ d ∈ ys, d < 256) (hb : b = true ↔ xs = ys) : ((strOf xs).toList == (strOf ys).toList) = b := by
  cases b
  · refine beq_eq_false_iff_ne.2 fun h => ?_
    have := hb.2 (strOf_inj hxs hys h)
    cases this
  · rw [hb.1 rfl]; simp
set_option maxHeartbeats 400000 in
theorem equal_any {B n c m c2 : Nat} {A A2 : Option Addr} {xs ys : List Nat} {b : Bool} (w : World) (hx : Reads w B 1 A n (u8s xs)) (hy : Reads w B 1 A2 m (u8s ys)) (hxs : ∀ d ∈ xs, d < 256) (hys : ∀ d ∈ ys, d < 256) (hb : b = true ↔ xs = ys) :
    Calls Try.prog 63 #[.slice A n c, .slice A2 m c2] w fun e w' => e = .returned (.bool b) ∧ w = w' := by
  have h1 := run_str w 22 9 5 (c := c) Try.underlying22 Try.underlying5 Try.underlying9 hx
  have h2 := run_str w 22 9 5 (c := c2) Try.underlying22 Try.underlying5 Try.underlying9 hy
  have HB := Lib.hid (str_eq hxs hys hb)
  clear hb hx hy
  go_enter Try.func63, Try.ntmps63
  go_wp2_with fail
  go_ret
  exact ⟨by rw [← HB.out]; rfl, rfl⟩
/-- What a call that reads a reply leaves. -/
def RepPost (w : World) (xs : List Nat) (e : Ending) (w' : World) : Prop :=
  Below w.heap.size w w' ∧ ((readRep xs = none ∧ e = .returned (.tuple #[.agg #[.int .i64 0, .int .i64 0, .bool false, .slice none 0 0], .int .i64 4])) ∨
    ∃ r A n c, readRep xs = some r ∧ e = .returned (.tuple #[.agg #[.int .i64 r.id, .int .i64 r.e, .bool r.d, .slice A n c], .int .i64 0]) ∧ Reads w' w'.heap.size 2 A n (prCells r.ps))
def BatPost (w : World) (xs : List Nat) (e : Ending) (w' : World) : Prop :=
  Below w.heap.size w w' ∧ ((readBat xs = none ∧ e = .returned (.tuple #[.agg #[.int .i64 0, .int .i64 0, .slice none 0 0], .int .i64 4])) ∨
    ∃ r A n c, readBat xs = some r ∧ e = .returned (.tuple #[.agg #[.int .i64 r.r, .int .i64 r.s, .slice A n c], .int .i64 0]) ∧ Reads w' w'.heap.size 2 A n (prCells r.ps))
theorem own_set {w : World} {base e size n g i : Nat} {v u : Value} {xs : List Value} (h : w.ownsRow base e size v n xs) (hb : g < base) : (w.setCell ⟨g, i, none⟩ u).ownsRow base e size v n xs :=
  own_kept h (grown_set (grown_self _ _) _) hb
theorem own_below {w w' : World} {base e size n : Nat} {v : Value} {xs : List Value} (h : w.ownsRow base e size v n xs) (hb : Below w.heap.size w w') : w'.ownsRow base e size v n xs := by
  refine ⟨h.1, h.2.elim Or.inl fun ⟨r, cap, cur, hv, hr, hh, rest⟩ => Or.inr ⟨r, cap, cur, hv, hr, ?_, rest⟩⟩
  have hlt := (h.lt r (by subst hv; rfl)).2
  rw [hb.block r hlt]; exact hh
theorem cint_e {g : Nat} {c c' : Cur} {v : Int} (w : World) (h : PC w g c.l c.b) (hl : ∀ d ∈ c.l, d < 256) (hv : c.i = v) (hc : c.ni = c') :
    Calls Try.prog 28 #[.pointer (some ⟨g, 0, none⟩)] w fun e w' => e = .returned (.int .i64 v) ∧ PC w' g c'.l c'.b ∧ w.grownBy w' (some g) := by
  subst hv hc; exact cint_c w h hl
theorem readps_e {g : Nat} {c c' : Cur} {ps : List Pr} (w : World) (hp : PC w g c.l c.b) (hl : ∀ d ∈ c.l, d < 256) (hlen : c.l.length ≤ 1000000) (he : rdPrs c = (ps, c')) :
    Calls Try.prog 62 #[rdr g] w fun e w' => ∃ v, e = .returned v ∧ w'.ownsRow (w.heap.size + 1) 64 2 v ps.length (prCells ps) ∧ PC w' g c'.l c'.b ∧ w.grownBy w' (some g) := by
  have := readps_any w hp hl hlen
  rw [he] at this; exact this
theorem below_g {B g : Nat} {w W w1 : World} (h : Below B w W) (hg : W.grownBy w1 (some g)) (hB : B ≤ W.heap.size) (hb : B ≤ g) : Below B w w1 := h.grown hg hB (fun k hk => by injection hk with e; omega)
theorem apart_set {w : World} {g b i : Nat} {l : List Nat} {bad : Bool} {t : TypeId} {cs : Array Value} {u : Value} (h : PC w g l bad) (hK : Blk w b t cs) (hn : NoU8 cs) (hne : g ≠ b) : PC (w.setCell ⟨b, i, none⟩ u) g l bad :=
  h.apart hK hn (grown_set (grown_self _ _) _) hne
theorem ni_len_ (c : Cur) : c.ni.l.length ≤ c.l.length := by have := ni_len c; split at this <;> omega

theorem rep_byte (id e : Int) (d : Bool) (l : List Pr) : ∀ x ∈ repBytes id e d l, x < 256 := by
  intro x hx
  unfold repBytes prsBytes at hx
  simp only [List.mem_append] at hx
  rcases hx with h | h | h
  · exact encs_byte _ x h
  · exact enc_byte _ x h
  · exact prBytes_byte _ x h

set_option maxRecDepth 100000 in
set_option maxHeartbeats 4000000 in
theorem readrep_main {A : Option Addr} {n c : Nat} {xs : List Nat} (w : World) (hx : Reads w w.heap.size 1 A n (u8s xs)) (hxs : ∀ x ∈ xs, x < 256) (hn : n ≤ 900000) :
    Calls Try.prog 46 #[.slice A n c] w (RepPost w xs) := by
  have HX := Lib.hid hxs
  have hxl : xs.length = n := by simpa using hx.1
  have HXL := Lib.hid hxl
  obtain ⟨v0, hv0⟩ : ∃ v, Cur.i (⟨xs, false⟩ : Cur) = v := ⟨_, rfl⟩
  obtain ⟨s1, hs1⟩ : ∃ s, Cur.ni (⟨xs, false⟩ : Cur) = s := ⟨_, rfl⟩
  have L1 : (∀ d ∈ s1.l, d < 256) ∧ s1.l.length ≤ xs.length := by rw [← hs1]; exact ⟨ni_byte hxs, Nat.le_trans (ni_len_ _) (Nat.le_refl _)⟩
  have I0 : IN64 v0 ∧ 0 ≤ v0 := by rw [← hv0]; exact ci_in _
  obtain ⟨v1, hv1⟩ : ∃ v, Cur.i s1 = v := ⟨_, rfl⟩
  obtain ⟨s2, hs2⟩ : ∃ s, Cur.ni s1 = s := ⟨_, rfl⟩
  have L2 : (∀ d ∈ s2.l, d < 256) ∧ s2.l.length ≤ xs.length := by rw [← hs2]; exact ⟨ni_byte L1.1, Nat.le_trans (ni_len_ _) L1.2⟩
  have I1 : IN64 v1 ∧ 0 ≤ v1 := by rw [← hv1]; exact ci_in _
  obtain ⟨v2, hv2⟩ : ∃ v, Cur.i s2 = v := ⟨_, rfl⟩
  obtain ⟨s3, hs3⟩ : ∃ s, Cur.ni s2 = s := ⟨_, rfl⟩
  have L3 : (∀ d ∈ s3.l, d < 256) ∧ s3.l.length ≤ xs.length := by rw [← hs3]; exact ⟨ni_byte L2.1, Nat.le_trans (ni_len_ _) L2.2⟩
  have I2 : IN64 v2 ∧ 0 ≤ v2 := by rw [← hv2]; exact ci_in _
  obtain ⟨⟨ps, s4⟩, hps⟩ : ∃ r, rdPrs s3 = r := ⟨_, rfl⟩
  obtain ⟨dd, hdd⟩ : ∃ b, (v2 == 1) = b := ⟨_, rfl⟩
  have HRP := Lib.hid (show rpP xs = (⟨v0, v1, dd, ps⟩, s4) by unfold rpP Cur.two; rw [hv0, hs1, hv1, hs2, hv2, hs3, hps, ← hdd]; rfl)
  have hpl : ps.length ≤ 900001 := by have := rpP_count xs; rw [HRP.out] at this; simp only at this; omega
  have hpk : ∀ p ∈ ps, p.ok := by have := (rpP_ok xs).2.2; rw [HRP.out] at this; exact this
  have HPK := Lib.hid hpk
  have HPS := Lib.hid hps
  have E0 := Lib.hid (And.intro hv0 hs1)
  have E1 := Lib.hid (And.intro hv1 hs2)
  have E2 := Lib.hid (And.intro hv2 hs3)
  have Y1 := Lib.hid L1
  have Y2 := Lib.hid L2
  have Y3 := Lib.hid L3
  have HDD := Lib.hid hdd
  clear hxs hxl hpk hps hv0 hs1 L1 hv1 hs2 L2 hv2 hs3 L3 hdd
  go_enter Try.func46, Try.ntmps46
  go_wp2_with fail
  refine (read_any (B := w.heap.size) _ (hx.alloc (Nat.le_refl _) _) (by simp) (by omega)).mono ?_
  rintro e w1 ⟨g, rfl, hg, hp, hb⟩
  have K0 := Blk.on (g := w.heap.size) (t := 59) (cs := #[.int .i64 0, .int .i64 0, .bool false, .slice none 0 0]) (Blk.at_ _ _ _ (by simp)) hb
  have HB := below_after ((Below.refl w.heap.size w).alloc (Nat.le_refl _) _) hb (by simp)
  have hg1 : w.heap.size < g := by have := hg; simp at this; omega
  have hgl := hp.lt
  have HP := Lib.hid (hp.alloc (.cells #[.pointer (some ⟨g, 0, none⟩), .func (Fn.func 28) #[.pointer (some ⟨g, 0, none⟩)] #[]] 103))
  clear hb hg hp
  unfold rdr
  go_wp2_with fail
  refine (cint_e (c := ⟨xs, false⟩) _ HP.out HX.out E0.out.1 E0.out.2).mono ?_
  rintro e w2 ⟨rfl, hp, hg2⟩
  have K0 := (K0.alloc (.cells #[.pointer (some ⟨g, 0, none⟩), .func (Fn.func 28) #[.pointer (some ⟨g, 0, none⟩)] #[]] 103)).grown hg2 (by simp; omega)
  have K1 := (Blk.new w1 103 #[.pointer (some ⟨g, 0, none⟩), .func (Fn.func 28) #[.pointer (some ⟨g, 0, none⟩)] #[]]).grown hg2 (by simp; omega)
  have HB := below_g (HB.alloc HB.size (.cells #[.pointer (some ⟨g, 0, none⟩), .func (Fn.func 28) #[.pointer (some ⟨g, 0, none⟩)] #[]] 103)) hg2 (by have := HB.size; simp; omega) (by omega)
  have hz1 : w.heap.size < w1.heap.size := by omega
  have hgl2 := hp.lt
  have HP := Lib.hid (hp.alloc (.cells #[.int .i64 v0, .int .i64 0, .bool false, .slice none 0 0] 59))
  have c0 := K0.c
  have c1 := K1.c
  have z0 := K0.lt
  have z1 := K1.lt
  clear hg2 hp
  go_wp2_with fail
  refine (cint_e (c := s1) _ HP.out Y1.out.1 E1.out.1 E1.out.2).mono ?_
  rintro e w3 ⟨rfl, hp, hg3⟩
  have K2 := (Blk.new w2 59 #[.int .i64 v0, .int .i64 0, .bool false, .slice none 0 0]).grown hg3 (by simp; omega)
  have K0 := (K0.alloc (.cells #[.int .i64 v0, .int .i64 0, .bool false, .slice none 0 0] 59)).grown hg3 (by simp; omega)
  have K1 := (K1.alloc (.cells #[.int .i64 v0, .int .i64 0, .bool false, .slice none 0 0] 59)).grown hg3 (by simp; omega)
  have HB := below_g (HB.alloc HB.size (.cells #[.int .i64 v0, .int .i64 0, .bool false, .slice none 0 0] 59)) hg3 (by have := HB.size; simp; omega) (by omega)
  have hne : g ≠ w2.heap.size := by omega
  have hz2 : w1.heap.size < w2.heap.size := by omega
  have c0 := K0.c
  have c1 := K1.c
  have c2 := K2.c
  have f2 := K2.f
  have z0 := K0.lt
  have z1 := K1.lt
  have z2 := K2.lt
  have HP := Lib.hid (apart_set (i := 1) (u := .int .i64 v1) hp K2 (NoU8.of (by simp)) hne)
  have K2 : Blk (w3.setCell ⟨w2.heap.size, 1, none⟩ (.int .i64 v1)) w2.heap.size 59 #[.int .i64 v0, .int .i64 v1, .bool false, .slice none 0 0] := by have := K2.set_ 1 (.int .i64 v1); simpa using this
  have K0 := K0.far (p := ⟨w2.heap.size, 1, none⟩) (by show _ ≠ w2.heap.size; omega) (.int .i64 v1)
  have K1 := K1.far (p := ⟨w2.heap.size, 1, none⟩) (by show _ ≠ w2.heap.size; omega) (.int .i64 v1)
  have HB := HB.setCell (p := ⟨w2.heap.size, 1, none⟩) (by show _ ≤ w2.heap.size; omega) (.int .i64 v1)
  have HK := Lib.hid (And.intro K0 (And.intro K1 K2))
  clear hg3 hp K0 K1 K2
  go_wp2_with fail
  obtain ⟨K0, K1, K2⟩ := HK.out
  refine (cint_e (c := s2) _ HP.out Y2.out.1 E2.out.1 E2.out.2).mono ?_
  rintro e w4 ⟨rfl, hp, hg4⟩
  clear c0 c1 c2 f2 z0 z1 z2
  have K0 := K0.grown hg4 (by simp; omega)
  have K1 := K1.grown hg4 (by simp; omega)
  have K2 := K2.grown hg4 (by simp; omega)
  have HB := below_g HB hg4 HB.size (by omega)
  have hdd := HDD.out
  have c0 := K0.c
  have c1 := K1.c
  have c2 := K2.c
  have f2 := K2.f
  have z0 := K0.lt
  have z1 := K1.lt
  have z2 := K2.lt
  have HP := Lib.hid (apart_set (i := 2) (u := .bool dd) hp K2 (NoU8.of (by simp)) hne)
  have K2 : Blk (w4.setCell ⟨w2.heap.size, 2, none⟩ (.bool dd)) w2.heap.size 59 #[.int .i64 v0, .int .i64 v1, .bool dd, .slice none 0 0] := by have := K2.set_ 2 (.bool dd); simpa using this
  have K0 := K0.far (p := ⟨w2.heap.size, 2, none⟩) (by show _ ≠ w2.heap.size; omega) (.bool dd)
  have K1 := K1.far (p := ⟨w2.heap.size, 2, none⟩) (by show _ ≠ w2.heap.size; omega) (.bool dd)
  have HB := HB.setCell (p := ⟨w2.heap.size, 2, none⟩) (by show _ ≤ w2.heap.size; omega) (.bool dd)
  have HK := Lib.hid (And.intro K0 (And.intro K1 K2))
  have HK := Lib.hid (And.intro K0 (And.intro K1 K2))
  clear hg4 hp K0 K1 K2
  go_wp2_with fail
  obtain ⟨K0, K1, K2⟩ := HK.out
  clear hdd
  refine (readps_e (g := g) (c := s3) _ HP.out Y3.out.1 (by have := Y3.out.2; have := HXL.out; omega) HPS.out).mono ?_
  rintro e w5 ⟨v, rfl, hown, hp, hg5⟩
  clear c0 c1 c2 f2 z0 z1 z2
  have hown := own_le hown (base' := w2.heap.size + 1) (by have := K2.lt; omega)
  have K0 := K0.grown hg5 (by simp; omega)
  have K1 := K1.grown hg5 (by simp; omega)
  have K2 := K2.grown hg5 (by simp; omega)
  have HB := below_g HB hg5 HB.size (by omega)
  obtain ⟨m, hm⟩ : ∃ m, m = ps.length := ⟨_, rfl⟩
  rw [← hm] at hown hpl
  obtain ⟨A5, c5, rfl⟩ := own_form hown
  have HM := Lib.hid hm
  have HO5 := Lib.hid (own_set (i := 3) (u := .slice A5 m c5) hown (Nat.lt_succ_self w2.heap.size))
  have HR5 := Lib.hid (Reads.of_own HO5.out)
  have hlo : w.heap.size < w2.heap.size + 1 := by omega
  have c0 := K0.c
  have c1 := K1.c
  have c2 := K2.c
  have f2 := K2.f
  have z0 := K0.lt
  have z1 := K1.lt
  have z2 := K2.lt
  have HP := Lib.hid (apart_set (i := 3) (u := .slice A5 m c5) hp K2 (NoU8.of (by simp)) hne)
  have K2 : Blk (w5.setCell ⟨w2.heap.size, 3, none⟩ (.slice A5 m c5)) w2.heap.size 59 #[.int .i64 v0, .int .i64 v1, .bool dd, .slice A5 m c5] := by have := K2.set_ 3 (.slice A5 m c5); simpa using this
  have K0 := K0.far (p := ⟨w2.heap.size, 3, none⟩) (by show _ ≠ w2.heap.size; omega) (.slice A5 m c5)
  have K1 := K1.far (p := ⟨w2.heap.size, 3, none⟩) (by show _ ≠ w2.heap.size; omega) (.slice A5 m c5)
  have HB := HB.setCell (p := ⟨w2.heap.size, 3, none⟩) (by show _ ≤ w2.heap.size; omega) (.slice A5 m c5)
  have HK := Lib.hid (And.intro K0 (And.intro K1 K2))
  clear hg5 hp hown hm K0 K1 K2
  go_wp2_with fail
  obtain ⟨K0, K1, K2⟩ := HK.out
  refine (cend_any _ HP.out).mono ?_
  cases hen : (!s4.b && s4.l.isEmpty)
  · rintro e w6 ⟨rfl, rfl⟩
    have HE := Lib.hid (show (rpP xs).2.end_ = false by rw [HRP.out]; exact hen)
    clear hen c0 c1 c2 f2 z0 z1 z2
    have c0 := K0.c
    have f0 := K0.f
    have z0 := K0.lt
    have c1 := K1.c
    have z1 := K1.lt
    have c2 := K2.c
    have z2 := K2.lt
    go_wp2_with fail
    exact bodyPost_ret (v := .tuple #[.agg #[.int .i64 0, .int .i64 0, .bool false, .slice none 0 0], .int .i64 4]) (by simp [results, Try.results46, go_sem, c0, f0, z0]) rfl ⟨((((HB.setCell (Nat.le_refl _) _).setCell (Nat.le_refl _) _).setCell (Nat.le_refl _) _).setCell (Nat.le_refl _) _), .inl ⟨(readRep_end HE.out (by rw [HRP.out]; show ps.length ≤ 1000000; have := HM.out; omega)), rfl⟩⟩
  · rintro e w6 ⟨rfl, rfl⟩
    have HE := Lib.hid (show (rpP xs).2.end_ = true by rw [HRP.out]; exact hen)
    clear hen c0 c1 c2 f2 z0 z1 z2
    have c0 := K0.c
    have f0 := K0.f
    have z0 := K0.lt
    have c1 := K1.c
    have z1 := K1.lt
    have c2 := K2.c
    have z2 := K2.lt
    go_wp2_with fail
    cases hm : repB v0 v1 dd ps
    · have HNO := Lib.hid (show readRep xs = none by unfold readRep; rw [if_neg]; rintro ⟨h, _⟩; rw [HRP.out] at h; unfold Rep.may at h; rw [hm] at h; cases h)
      have HM2 := Lib.hid hm
      clear hm
      refine (rep_no (l := ps) v0 v1 dd _ HR5.out (Nat.le_refl _) (by omega) HM2.out).mono ?_
      rintro e w7 ⟨rfl, hb⟩
      have K0 := K0.on hb
      have HB := below_after HB hb HB.size
      clear hb c0 f0 z0 c1 z1 c2 z2
      have c0 := K0.c
      have f0 := K0.f
      have z0 := K0.lt
      go_wp2_with fail
      exact bodyPost_ret (v := .tuple #[.agg #[.int .i64 0, .int .i64 0, .bool false, .slice none 0 0], .int .i64 4]) (by simp [results, Try.results46, go_sem, c0, f0, z0]) rfl ⟨((((HB.setCell (Nat.le_refl _) _).setCell (Nat.le_refl _) _).setCell (Nat.le_refl _) _).setCell (Nat.le_refl _) _), .inl ⟨HNO.out, rfl⟩⟩
    · have HM2 := Lib.hid hm
      clear hm
      refine (rep_yes (l := ps) v0 v1 dd _ HR5.out (Nat.le_refl _) (by omega) I0.1 HPK.out HM2.out).mono ?_
      rintro e w7 ⟨x, rfl, hown, hb⟩
      obtain ⟨k, hk⟩ : ∃ k, k = (repBytes v0 v1 dd ps).length := ⟨_, rfl⟩
      rw [← hk] at hown
      obtain ⟨A7, c7, rfl⟩ := own_form hown
      have HRB := Lib.hid (Reads.of_own hown)
      have HXW := Lib.hid (hx.below (below_after HB hb HB.size))
      have K0 := K0.on hb
      have K2 := K2.on hb
      have HO6 := Lib.hid (own_below HO5.out hb)
      have hzz := hb.size
      have HB := below_after HB hb HB.size
      have hB7 := HB.size
      clear hb hk hown c0 f0 z0 c1 z1 c2 z2
      have c0 := K0.c
      have f0 := K0.f
      have z0 := K0.lt
      have c2 := K2.c
      have z2 := K2.lt
      go_wp2_with fail
      by_cases heq : repBytes v0 v1 dd ps = xs
      · have HYES := Lib.hid (show readRep xs = some ⟨v0, v1, dd, ps⟩ by unfold readRep; rw [if_pos, HRP.out]; rw [HRP.out]; exact ⟨HM2.out, heq⟩)
        refine (equal_any (B := w7.heap.size) (b := true) _ HRB.out (HXW.out.more hB7) (rep_byte _ _ _ _) HX.out ⟨fun _ => heq, fun _ => rfl⟩).mono ?_
        rintro e w8 ⟨rfl, rfl⟩
        clear heq
        go_wp2_with fail
        refine bodyPost_ret (v := .tuple #[.agg #[.int .i64 v0, .int .i64 v1, .bool dd, .slice A5 m c5], .int .i64 0]) (by simp [results, Try.results46, go_sem, c0, f0, z0]) rfl ⟨((((HB.setCell (Nat.le_refl _) _).setCell (Nat.le_refl _) _).setCell (Nat.le_refl _) _).setCell (Nat.le_refl _) _), .inr ⟨_, A5, m, c5, HYES.out, rfl, ?_⟩⟩
        exact Reads.of_own (own_set (own_set (own_set (own_set HO6.out hlo) hlo) hlo) hlo)
      · have HNO := Lib.hid (show readRep xs = none by unfold readRep; rw [if_neg]; rintro ⟨_, h⟩; rw [HRP.out] at h; exact heq h)
        refine (equal_any (B := w7.heap.size) (b := false) _ HRB.out (HXW.out.more hB7) (rep_byte _ _ _ _) HX.out ⟨fun h => (by cases h), fun h => absurd h heq⟩).mono ?_
        rintro e w8 ⟨rfl, rfl⟩
        clear heq
        go_wp2_with fail
        exact bodyPost_ret (v := .tuple #[.agg #[.int .i64 0, .int .i64 0, .bool false, .slice none 0 0], .int .i64 4]) (by simp [results, Try.results46, go_sem, c0, f0, z0]) rfl ⟨((((HB.setCell (Nat.le_refl _) _).setCell (Nat.le_refl _) _).setCell (Nat.le_refl _) _).setCell (Nat.le_refl _) _), .inl ⟨HNO.out, rfl⟩⟩

set_option maxRecDepth 100000 in
set_option maxHeartbeats 4000000 in
theorem readbat_main {A : Option Addr} {n c : Nat} {xs : List Nat} (w : World) (hx : Reads w w.heap.size 1 A n (u8s xs)) (hxs : ∀ x ∈ xs, x < 256) (hn : n ≤ 900000) :
    Calls Try.prog 43 #[.slice A n c] w (BatPost w xs) := by
  have HX := Lib.hid hxs
  have hxl : xs.length = n := by simpa using hx.1
  have HXL := Lib.hid hxl
  obtain ⟨v0, hv0⟩ : ∃ v, Cur.i (⟨xs, false⟩ : Cur) = v := ⟨_, rfl⟩
  obtain ⟨s1, hs1⟩ : ∃ s, Cur.ni (⟨xs, false⟩ : Cur) = s := ⟨_, rfl⟩
  have L1 : (∀ d ∈ s1.l, d < 256) ∧ s1.l.length ≤ xs.length := by rw [← hs1]; exact ⟨ni_byte hxs, Nat.le_trans (ni_len_ _) (Nat.le_refl _)⟩
  have I0 : IN64 v0 ∧ 0 ≤ v0 := by rw [← hv0]; exact ci_in _
  obtain ⟨v1, hv1⟩ : ∃ v, Cur.i s1 = v := ⟨_, rfl⟩
  obtain ⟨s2, hs2⟩ : ∃ s, Cur.ni s1 = s := ⟨_, rfl⟩
  have L2 : (∀ d ∈ s2.l, d < 256) ∧ s2.l.length ≤ xs.length := by rw [← hs2]; exact ⟨ni_byte L1.1, Nat.le_trans (ni_len_ _) L1.2⟩
  have I1 : IN64 v1 ∧ 0 ≤ v1 := by rw [← hv1]; exact ci_in _
  obtain ⟨⟨ps, s3⟩, hps⟩ : ∃ r, rdPrs s2 = r := ⟨_, rfl⟩
  have HRP := Lib.hid (show btP xs = (⟨v0, v1, ps⟩, s3) by unfold btP Cur.two; rw [hv0, hs1, hv1, hs2, hps])
  have hpl : ps.length ≤ 900001 := by have := btP_count xs; rw [HRP.out] at this; simp only at this; omega
  have hpk : ∀ p ∈ ps, p.ok := by have := (btP_ok xs).2.2; rw [HRP.out] at this; exact this
  have HPK := Lib.hid hpk
  have HPS := Lib.hid hps
  have E0 := Lib.hid (And.intro hv0 hs1)
  have E1 := Lib.hid (And.intro hv1 hs2)
  have Y1 := Lib.hid L1
  have Y2 := Lib.hid L2
  clear hxs hxl hpk hps hv0 hs1 L1 hv1 hs2 L2
  go_enter Try.func43, Try.ntmps43
  go_wp2_with fail
  refine (read_any (B := w.heap.size) _ (hx.alloc (Nat.le_refl _) _) (by simp) (by omega)).mono ?_
  rintro e w1 ⟨g, rfl, hg, hp, hb⟩
  have K0 := Blk.on (g := w.heap.size) (t := 68) (cs := #[.int .i64 0, .int .i64 0, .slice none 0 0]) (Blk.at_ _ _ _ (by simp)) hb
  have HB := below_after ((Below.refl w.heap.size w).alloc (Nat.le_refl _) _) hb (by simp)
  have hg1 : w.heap.size < g := by have := hg; simp at this; omega
  have hgl := hp.lt
  have HP := Lib.hid (hp.alloc (.cells #[.pointer (some ⟨g, 0, none⟩), .func (Fn.func 28) #[.pointer (some ⟨g, 0, none⟩)] #[]] 103))
  clear hb hg hp
  unfold rdr
  go_wp2_with fail
  refine (cint_e (c := ⟨xs, false⟩) _ HP.out HX.out E0.out.1 E0.out.2).mono ?_
  rintro e w2 ⟨rfl, hp, hg2⟩
  have K0 := (K0.alloc (.cells #[.pointer (some ⟨g, 0, none⟩), .func (Fn.func 28) #[.pointer (some ⟨g, 0, none⟩)] #[]] 103)).grown hg2 (by simp; omega)
  have K1 := (Blk.new w1 103 #[.pointer (some ⟨g, 0, none⟩), .func (Fn.func 28) #[.pointer (some ⟨g, 0, none⟩)] #[]]).grown hg2 (by simp; omega)
  have HB := below_g (HB.alloc HB.size (.cells #[.pointer (some ⟨g, 0, none⟩), .func (Fn.func 28) #[.pointer (some ⟨g, 0, none⟩)] #[]] 103)) hg2 (by have := HB.size; simp; omega) (by omega)
  have hz1 : w.heap.size < w1.heap.size := by omega
  have hgl2 := hp.lt
  have HP := Lib.hid (hp.alloc (.cells #[.int .i64 v0, .int .i64 0, .slice none 0 0] 68))
  have c0 := K0.c
  have c1 := K1.c
  have z0 := K0.lt
  have z1 := K1.lt
  clear hg2 hp
  go_wp2_with fail
  refine (cint_e (c := s1) _ HP.out Y1.out.1 E1.out.1 E1.out.2).mono ?_
  rintro e w3 ⟨rfl, hp, hg3⟩
  have K2 := (Blk.new w2 68 #[.int .i64 v0, .int .i64 0, .slice none 0 0]).grown hg3 (by simp; omega)
  have K0 := (K0.alloc (.cells #[.int .i64 v0, .int .i64 0, .slice none 0 0] 68)).grown hg3 (by simp; omega)
  have K1 := (K1.alloc (.cells #[.int .i64 v0, .int .i64 0, .slice none 0 0] 68)).grown hg3 (by simp; omega)
  have HB := below_g (HB.alloc HB.size (.cells #[.int .i64 v0, .int .i64 0, .slice none 0 0] 68)) hg3 (by have := HB.size; simp; omega) (by omega)
  have hne : g ≠ w2.heap.size := by omega
  have hz2 : w1.heap.size < w2.heap.size := by omega
  have c0 := K0.c
  have c1 := K1.c
  have c2 := K2.c
  have f2 := K2.f
  have z0 := K0.lt
  have z1 := K1.lt
  have z2 := K2.lt
  have HP := Lib.hid (apart_set (i := 1) (u := .int .i64 v1) hp K2 (NoU8.of (by simp)) hne)
  have K2 : Blk (w3.setCell ⟨w2.heap.size, 1, none⟩ (.int .i64 v1)) w2.heap.size 68 #[.int .i64 v0, .int .i64 v1, .slice none 0 0] := by have := K2.set_ 1 (.int .i64 v1); simpa using this
  have K0 := K0.far (p := ⟨w2.heap.size, 1, none⟩) (by show _ ≠ w2.heap.size; omega) (.int .i64 v1)
  have K1 := K1.far (p := ⟨w2.heap.size, 1, none⟩) (by show _ ≠ w2.heap.size; omega) (.int .i64 v1)
  have HB := HB.setCell (p := ⟨w2.heap.size, 1, none⟩) (by show _ ≤ w2.heap.size; omega) (.int .i64 v1)
  have HK := Lib.hid (And.intro K0 (And.intro K1 K2))
  clear hg3 hp K0 K1 K2
  go_wp2_with fail
  obtain ⟨K0, K1, K2⟩ := HK.out
  refine (readps_e (g := g) (c := s2) _ HP.out Y2.out.1 (by have := Y2.out.2; have := HXL.out; omega) HPS.out).mono ?_
  rintro e w5 ⟨v, rfl, hown, hp, hg5⟩
  clear c0 c1 c2 f2 z0 z1 z2
  have hown := own_le hown (base' := w2.heap.size + 1) (by have := K2.lt; omega)
  have K0 := K0.grown hg5 (by simp; omega)
  have K1 := K1.grown hg5 (by simp; omega)
  have K2 := K2.grown hg5 (by simp; omega)
  have HB := below_g HB hg5 HB.size (by omega)
  obtain ⟨m, hm⟩ : ∃ m, m = ps.length := ⟨_, rfl⟩
  rw [← hm] at hown hpl
  obtain ⟨A5, c5, rfl⟩ := own_form hown
  have HM := Lib.hid hm
  have HO5 := Lib.hid (own_set (i := 2) (u := .slice A5 m c5) hown (Nat.lt_succ_self w2.heap.size))
  have HR5 := Lib.hid (Reads.of_own HO5.out)
  have hlo : w.heap.size < w2.heap.size + 1 := by omega
  have c0 := K0.c
  have c1 := K1.c
  have c2 := K2.c
  have f2 := K2.f
  have z0 := K0.lt
  have z1 := K1.lt
  have z2 := K2.lt
  have HP := Lib.hid (apart_set (i := 2) (u := .slice A5 m c5) hp K2 (NoU8.of (by simp)) hne)
  have K2 : Blk (w5.setCell ⟨w2.heap.size, 2, none⟩ (.slice A5 m c5)) w2.heap.size 68 #[.int .i64 v0, .int .i64 v1, .slice A5 m c5] := by have := K2.set_ 2 (.slice A5 m c5); simpa using this
  have K0 := K0.far (p := ⟨w2.heap.size, 2, none⟩) (by show _ ≠ w2.heap.size; omega) (.slice A5 m c5)
  have K1 := K1.far (p := ⟨w2.heap.size, 2, none⟩) (by show _ ≠ w2.heap.size; omega) (.slice A5 m c5)
  have HB := HB.setCell (p := ⟨w2.heap.size, 2, none⟩) (by show _ ≤ w2.heap.size; omega) (.slice A5 m c5)
  have HK := Lib.hid (And.intro K0 (And.intro K1 K2))
  clear hg5 hp hown hm K0 K1 K2
  go_wp2_with fail
  obtain ⟨K0, K1, K2⟩ := HK.out
  refine (cend_any _ HP.out).mono ?_
  cases hen : (!s3.b && s3.l.isEmpty)
  · rintro e w6 ⟨rfl, rfl⟩
    have HE := Lib.hid (show (btP xs).2.end_ = false by rw [HRP.out]; exact hen)
    clear hen c0 c1 c2 f2 z0 z1 z2
    have c0 := K0.c
    have f0 := K0.f
    have z0 := K0.lt
    have c1 := K1.c
    have z1 := K1.lt
    have c2 := K2.c
    have z2 := K2.lt
    go_wp2_with fail
    exact bodyPost_ret (v := .tuple #[.agg #[.int .i64 0, .int .i64 0, .slice none 0 0], .int .i64 4]) (by simp [results, Try.results43, go_sem, c0, f0, z0]) rfl ⟨(((HB.setCell (Nat.le_refl _) _).setCell (Nat.le_refl _) _).setCell (Nat.le_refl _) _), .inl ⟨(by unfold readBat; rw [if_neg (by rw [HE.out]; simp)]), rfl⟩⟩
  · rintro e w6 ⟨rfl, rfl⟩
    have HE := Lib.hid (show (btP xs).2.end_ = true by rw [HRP.out]; exact hen)
    clear hen c0 c1 c2 f2 z0 z1 z2
    have c0 := K0.c
    have f0 := K0.f
    have z0 := K0.lt
    have c1 := K1.c
    have z1 := K1.lt
    have c2 := K2.c
    have z2 := K2.lt
    go_wp2_with fail
    refine (rise_any (B := _) (l := ps) _ HR5.out (Nat.le_refl _) (by omega)).mono ?_
    cases hr : riseB ps
    · rintro e w7 ⟨rfl, hb⟩
      have HNO := Lib.hid (show readBat xs = none by unfold readBat; rw [if_neg]; rintro ⟨_, h⟩; rw [HRP.out, hr] at h; cases h)
      clear hr
      have K0 := K0.on hb
      have HB := below_after HB hb HB.size
      clear hb c0 f0 z0 c1 z1 c2 z2
      have c0 := K0.c
      have f0 := K0.f
      have z0 := K0.lt
      go_wp2_with fail
      exact bodyPost_ret (v := .tuple #[.agg #[.int .i64 0, .int .i64 0, .slice none 0 0], .int .i64 4]) (by simp [results, Try.results43, go_sem, c0, f0, z0]) rfl ⟨(((HB.setCell (Nat.le_refl _) _).setCell (Nat.le_refl _) _).setCell (Nat.le_refl _) _), .inl ⟨HNO.out, rfl⟩⟩
    · rintro e w7 ⟨rfl, hb⟩
      have HYES := Lib.hid (show readBat xs = some ⟨v0, v1, ps⟩ by unfold readBat; rw [if_pos ⟨HE.out, by rw [HRP.out]; exact hr⟩, HRP.out])
      clear hr
      have K0 := K0.on hb
      have K2 := K2.on hb
      have HO6 := Lib.hid (own_below HO5.out hb)
      have hzz := hb.size
      have HB := below_after HB hb HB.size
      clear hb c0 f0 z0 c1 z1 c2 z2
      have c0 := K0.c
      have f0 := K0.f
      have z0 := K0.lt
      have c2 := K2.c
      have z2 := K2.lt
      go_wp2_with fail
      refine bodyPost_ret (v := .tuple #[.agg #[.int .i64 v0, .int .i64 v1, .slice A5 m c5], .int .i64 0]) (by simp [results, Try.results43, go_sem, c0, f0, z0]) rfl ⟨(((HB.setCell (Nat.le_refl _) _).setCell (Nat.le_refl _) _).setCell (Nat.le_refl _) _), .inr ⟨_, A5, m, c5, HYES.out, rfl, ?_⟩⟩
      exact Reads.of_own (own_set (own_set (own_set HO6.out hlo) hlo) hlo)
end Go.Proofs.Ytejijghghbicdaa
