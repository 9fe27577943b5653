/-
  The reference's ReadReply and ReadBatch, by contracts: the reply, the batch of bytes.
-/
import Derived.Test.YtejijghghbicdaaWireReadRep
import Derived.Test.YtejijghghbicdaaWireRRead
import Derived.Outline
namespace Go.Proofs.Ytejijghghbicdaa
open Go.RowKit
set_option linter.unusedSimpArgs false
set_option linter.unusedVariables false

theorem rcint_e {B g : Nat} {c c' : Cur} {v : Int} (w : World) (h : RC w B g c.l c.b) (hl : ∀ d ∈ c.l, d < 256) (hv : c.i = v) (hc : c.ni = c') :
    Calls Try.prog 29 #[.pointer (some ⟨g, 0, none⟩)] w fun e w' => e = .returned (.int .i64 v) ∧ RC w' B g c'.l c'.b ∧ w.grownBy w' (some g) := by
  subst hv hc; exact rcint_c w h hl
theorem rreadps_e {B g : Nat} {c c' : Cur} {ps : List Pr} (w : World) (hp : RC w B g c.l c.b) (hl : ∀ d ∈ c.l, d < 256) (hlen : c.l.length ≤ 1000000) (he : rdPrs c = (ps, c')) :
    Calls Try.prog 64 #[.pointer (some ⟨g, 0, none⟩)] w fun e w' => ∃ v, e = .returned v ∧ w'.ownsRow w.heap.size 64 2 v ps.length (prCells ps) ∧ RC w' B g c'.l c'.b ∧ w.grownBy w' (some g) := by
  have := rreadps_any w hp hl hlen
  rw [he] at this; exact this
theorem bat_byte (r s : Int) (l : List Pr) : ∀ x ∈ batBytes r s l, x < 256 := by
  intro x hx
  unfold batBytes prsBytes at hx
  simp only [List.mem_append] at hx
  rcases hx with h | h | h
  · exact encs_byte _ x h
  · exact enc_byte _ x h
  · exact prBytes_byte _ x h

set_option maxRecDepth 100000 in
set_option maxHeartbeats 4000000 in
theorem rreadrep_main {A : Option Addr} {n c : Nat} {xs : List Nat} (w : World) (hx : Reads w w.heap.size 1 A n (u8s xs)) (hxs : ∀ x ∈ xs, x < 256) (hn : n ≤ 900000) :
    Calls Try.prog 47 #[.slice A n c] w (RepPost w xs) := by
  have HX := Lib.hid hxs
  have hxl : xs.length = n := by simpa using hx.1
  have HXL := Lib.hid hxl
  obtain ⟨v0, hv0⟩ : ∃ v, Cur.i (⟨xs, false⟩ : Cur) = v := ⟨_, rfl⟩
  obtain ⟨s1, hs1⟩ : ∃ s, Cur.ni (⟨xs, false⟩ : Cur) = s := ⟨_, rfl⟩
  have L1 : (∀ d ∈ s1.l, d < 256) ∧ s1.l.length ≤ xs.length := by rw [← hs1]; exact ⟨ni_byte hxs, Nat.le_trans (ni_len_ _) (Nat.le_refl _)⟩
  have I0 : IN64 v0 ∧ 0 ≤ v0 := by rw [← hv0]; exact ci_in _
  obtain ⟨v1, hv1⟩ : ∃ v, Cur.i s1 = v := ⟨_, rfl⟩
  obtain ⟨s2, hs2⟩ : ∃ s, Cur.ni s1 = s := ⟨_, rfl⟩
  have L2 : (∀ d ∈ s2.l, d < 256) ∧ s2.l.length ≤ xs.length := by rw [← hs2]; exact ⟨ni_byte L1.1, Nat.le_trans (ni_len_ _) L1.2⟩
  have I1 : IN64 v1 ∧ 0 ≤ v1 := by rw [← hv1]; exact ci_in _
  obtain ⟨v2, hv2⟩ : ∃ v, Cur.i s2 = v := ⟨_, rfl⟩
  obtain ⟨s3, hs3⟩ : ∃ s, Cur.ni s2 = s := ⟨_, rfl⟩
  have L3 : (∀ d ∈ s3.l, d < 256) ∧ s3.l.length ≤ xs.length := by rw [← hs3]; exact ⟨ni_byte L2.1, Nat.le_trans (ni_len_ _) L2.2⟩
  have I2 : IN64 v2 ∧ 0 ≤ v2 := by rw [← hv2]; exact ci_in _
  obtain ⟨⟨ps, s4⟩, hps⟩ : ∃ r, rdPrs s3 = r := ⟨_, rfl⟩
  obtain ⟨dd, hdd⟩ : ∃ b, (v2 == 1) = b := ⟨_, rfl⟩
  have HRP := Lib.hid (show rpP xs = (⟨v0, v1, dd, ps⟩, s4) by unfold rpP Cur.two; rw [hv0, hs1, hv1, hs2, hv2, hs3, hps, ← hdd]; rfl)
  have hpl : ps.length ≤ 900001 := by have := rpP_count xs; rw [HRP.out] at this; simp only at this; omega
  have hpk : ∀ p ∈ ps, p.ok := by have := (rpP_ok xs).2.2; rw [HRP.out] at this; exact this
  have HPK := Lib.hid hpk
  have HPS := Lib.hid hps
  have E0 := Lib.hid (And.intro hv0 hs1)
  have E1 := Lib.hid (And.intro hv1 hs2)
  have E2 := Lib.hid (And.intro hv2 hs3)
  have Y1 := Lib.hid L1
  have Y2 := Lib.hid L2
  have Y3 := Lib.hid L3
  have HDD := Lib.hid hdd
  clear hxs hxl hpk hps hv0 hs1 L1 hv1 hs2 L2 hv2 hs3 L3 hdd
  have HRC := Lib.hid (RC.new (c := c) (hx.alloc (Nat.le_refl _) (.cells #[.int .i64 0, .int .i64 0, .bool false, .slice none 0 0] 59)) (by simp) (by omega))
  go_enter Try.func47, Try.ntmps47
  go_wp2_with fail
  refine (rcint_e (B := w.heap.size) (g := w.heap.size + 1) (c := ⟨xs, false⟩) _ (by simpa using HRC.out) HX.out E0.out.1 E0.out.2).mono ?_
  rintro e w1 ⟨rfl, hr, hg⟩
  have K0 := (Blk.alloc (Blk.new w 59 #[.int .i64 0, .int .i64 0, .bool false, .slice none 0 0]) (.cells #[.slice A n c, .int .i64 0, .bool false] 43)).grown hg (by simp)
  have HB := below_g (((Below.refl w.heap.size w).alloc (Nat.le_refl _) (.cells #[.int .i64 0, .int .i64 0, .bool false, .slice none 0 0] 59)).alloc (by simp) (.cells #[.slice A n c, .int .i64 0, .bool false] 43)) hg (by simp; omega) (by omega)
  have HR := Lib.hid hr
  have hgl := hr.lt_
  clear hg hr HRC
  have K2 := Blk.new w1 59 #[.int .i64 v0, .int .i64 0, .bool false, .slice none 0 0]
  have K0 := K0.alloc (.cells #[.int .i64 v0, .int .i64 0, .bool false, .slice none 0 0] 59)
  have HB := HB.alloc HB.size (.cells #[.int .i64 v0, .int .i64 0, .bool false, .slice none 0 0] 59)
  have HR := Lib.hid (HR.out.alloc (.cells #[.int .i64 v0, .int .i64 0, .bool false, .slice none 0 0] 59))
  go_wp2_with fail
  refine (rcint_e (B := w.heap.size) (g := w.heap.size + 1) (c := s1) _ HR.out Y1.out.1 E1.out.1 E1.out.2).mono ?_
  rintro e w2 ⟨rfl, hr, hg⟩
  have K0 := K0.grown hg (by simp)
  have K2 := K2.grown hg (by simp; omega)
  have HB := below_g HB hg HB.size (by omega)
  have HR := Lib.hid hr
  clear hg hr
  go_wp2_with fail
  refine (rcint_e (B := w.heap.size) (g := w.heap.size + 1) (c := s2) _ HR.out Y2.out.1 E2.out.1 E2.out.2).mono ?_
  rintro e w3 ⟨rfl, hr, hg⟩
  have K0 := K0.grown hg (by simp)
  have K2 := K2.grown hg (by simp; omega)
  have HB := below_g HB hg HB.size (by omega)
  have HR := Lib.hid hr
  clear hg hr
  have hdd := HDD.out
  have c0 := K0.c
  have c2 := K2.c
  have f2 := K2.f
  have z0 := K0.lt
  have z2 := K2.lt
  have K2 : Blk (w3.setCell ⟨w1.heap.size, 1, none⟩ (.int .i64 v1)) w1.heap.size 59 #[.int .i64 v0, .int .i64 v1, .bool false, .slice none 0 0] := by have := K2.set_ 1 (.int .i64 v1); simpa using this
  have K2 : Blk ((w3.setCell ⟨w1.heap.size, 1, none⟩ (.int .i64 v1)).setCell ⟨w1.heap.size, 2, none⟩ (.bool dd)) w1.heap.size 59 #[.int .i64 v0, .int .i64 v1, .bool dd, .slice none 0 0] := by have := K2.set_ 2 (.bool dd); simpa using this
  have K0 := (K0.far (p := ⟨w1.heap.size, 1, none⟩) (by show _ ≠ w1.heap.size; omega) (.int .i64 v1)).far (p := ⟨w1.heap.size, 2, none⟩) (by show _ ≠ w1.heap.size; omega) (.bool dd)
  have HB := (HB.setCell (p := ⟨w1.heap.size, 1, none⟩) (by show _ ≤ w1.heap.size; omega) (.int .i64 v1)).setCell (p := ⟨w1.heap.size, 2, none⟩) (by show _ ≤ w1.heap.size; omega) (.bool dd)
  have HR := Lib.hid ((HR.out.setCell (p := ⟨w1.heap.size, 1, none⟩) (by show _ ≠ w1.heap.size; omega) (by show _ ≤ w1.heap.size; omega) (.int .i64 v1)).setCell (p := ⟨w1.heap.size, 2, none⟩) (by show _ ≠ w1.heap.size; omega) (by show _ ≤ w1.heap.size; omega) (.bool dd))
  have HK := Lib.hid (And.intro K0 K2)
  clear K0 K2
  go_wp2_with fail
  obtain ⟨K0, K2⟩ := HK.out
  clear hdd c0 c2 f2 z0 z2
  refine (rreadps_e (B := w.heap.size) (g := w.heap.size + 1) (c := s3) _ HR.out Y3.out.1 (by have := Y3.out.2; have := HXL.out; omega) HPS.out).mono ?_
  rintro e w5 ⟨v, rfl, hown, hr, hg⟩
  have hown := own_le hown (base' := w1.heap.size + 1) (by have := K2.lt; omega)
  have K0 := K0.grown hg (by simp)
  have K2 := K2.grown hg (by simp; omega)
  have HB := below_g HB hg HB.size (by omega)
  obtain ⟨m, hm⟩ : ∃ m, m = ps.length := ⟨_, rfl⟩
  rw [← hm] at hown hpl
  obtain ⟨A5, c5, rfl⟩ := own_form hown
  have HM := Lib.hid hm
  have HO5 := Lib.hid (own_set (i := 3) (u := .slice A5 m c5) hown (Nat.lt_succ_self w1.heap.size))
  have HR5 := Lib.hid (Reads.of_own HO5.out)
  have hlo : w.heap.size < w1.heap.size + 1 := by omega
  have c0 := K0.c
  have c2 := K2.c
  have f2 := K2.f
  have z0 := K0.lt
  have z2 := K2.lt
  have K2 : Blk (w5.setCell ⟨w1.heap.size, 3, none⟩ (.slice A5 m c5)) w1.heap.size 59 #[.int .i64 v0, .int .i64 v1, .bool dd, .slice A5 m c5] := by have := K2.set_ 3 (.slice A5 m c5); simpa using this
  have K0 := K0.far (p := ⟨w1.heap.size, 3, none⟩) (by show _ ≠ w1.heap.size; omega) (.slice A5 m c5)
  have HB := HB.setCell (p := ⟨w1.heap.size, 3, none⟩) (by show _ ≤ w1.heap.size; omega) (.slice A5 m c5)
  have HR := Lib.hid (hr.setCell (p := ⟨w1.heap.size, 3, none⟩) (by show _ ≠ w1.heap.size; omega) (by show _ ≤ w1.heap.size; omega) (.slice A5 m c5))
  have HK := Lib.hid (And.intro K0 K2)
  clear hg hr hown hm K0 K2
  go_wp2_with fail
  obtain ⟨K0, K2⟩ := HK.out
  clear c0 c2 f2 z0 z2
  cases hm : repB v0 v1 dd ps
  · have HNO := Lib.hid (show readRep xs = none by unfold readRep; rw [if_neg]; rintro ⟨h, _⟩; rw [HRP.out] at h; unfold Rep.may at h; rw [hm] at h; cases h)
    have HM2 := Lib.hid hm
    clear hm
    refine (rrep_no (l := ps) v0 v1 dd _ HR5.out (Nat.le_refl _) (by omega) HM2.out).mono ?_
    rintro e w7 ⟨rfl, hb⟩
    have K0 := K0.on hb
    have HB := below_after HB hb HB.size
    have cb := (HR.out.on hb).cell_
    have c0 := K0.c
    have f0 := K0.f
    have z0 := K0.lt
    clear hb
    cases hsb : s4.b
    · rw [hsb] at cb
      clear hsb
      go_wp2_with fail
      exact bodyPost_ret (v := .tuple #[.agg #[.int .i64 0, .int .i64 0, .bool false, .slice none 0 0], .int .i64 4]) (by simp [results, Try.results47, go_sem, c0, f0, z0]) rfl ⟨((((HB.setCell (Nat.le_refl _) _).setCell (Nat.le_refl _) _).setCell (Nat.le_refl _) _).setCell (Nat.le_refl _) _), .inl ⟨HNO.out, rfl⟩⟩
    · rw [hsb] at cb
      clear hsb
      go_wp2_with fail
      exact bodyPost_ret (v := .tuple #[.agg #[.int .i64 0, .int .i64 0, .bool false, .slice none 0 0], .int .i64 4]) (by simp [results, Try.results47, go_sem, c0, f0, z0]) rfl ⟨((((HB.setCell (Nat.le_refl _) _).setCell (Nat.le_refl _) _).setCell (Nat.le_refl _) _).setCell (Nat.le_refl _) _), .inl ⟨HNO.out, rfl⟩⟩
  · have HM2 := Lib.hid hm
    clear hm
    refine (rrep_yes (l := ps) v0 v1 dd _ HR5.out (Nat.le_refl _) (by omega) I0.1 HPK.out HM2.out).mono ?_
    rintro e w7 ⟨x, rfl, hown, hb⟩
    obtain ⟨k, hk⟩ : ∃ k, k = (repBytes v0 v1 dd ps).length := ⟨_, rfl⟩
    rw [← hk] at hown
    obtain ⟨A7, c7, rfl⟩ := own_form hown
    have hst := run_str w7 22 9 5 (c := c7) Try.underlying22 Try.underlying5 Try.underlying9 (Reads.of_own hown)
    have hst2 := run_str w7 22 9 5 (c := c) Try.underlying22 Try.underlying5 Try.underlying9 (hx.below (below_after HB hb HB.size))
    have K0 := K0.on hb
    have K2 := K2.on hb
    have HO6 := Lib.hid (own_below HO5.out hb)
    have cb := (HR.out.on hb).cell_
    have HB := below_after HB hb HB.size
    have c0 := K0.c
    have f0 := K0.f
    have z0 := K0.lt
    have c2 := K2.c
    have z2 := K2.lt
    clear hb hk hown
    cases hsb : s4.b
    · have HSB := Lib.hid hsb
      rw [hsb] at cb
      clear hsb
      by_cases heq : repBytes v0 v1 dd ps = xs
      · have HYES := Lib.hid (show readRep xs = some ⟨v0, v1, dd, ps⟩ by unfold readRep; rw [if_pos, HRP.out]; rw [HRP.out]; exact ⟨HM2.out, heq⟩)
        have hse := str_eq (b := true) (xs := repBytes v0 v1 dd ps) (ys := xs) (rep_byte _ _ _ _) HX.out ⟨fun _ => heq, fun _ => rfl⟩
        clear heq
        go_wp2_with fail
        exact bodyPost_ret (v := .tuple #[.agg #[.int .i64 v0, .int .i64 v1, .bool dd, .slice A5 m c5], .int .i64 0]) (by simp [results, Try.results47, go_sem, c0, f0, z0]) rfl ⟨((((HB.setCell (Nat.le_refl _) _).setCell (Nat.le_refl _) _).setCell (Nat.le_refl _) _).setCell (Nat.le_refl _) _), .inr ⟨_, A5, m, c5, HYES.out, rfl, Reads.of_own (own_set (own_set (own_set (own_set HO6.out hlo) hlo) hlo) hlo)⟩⟩
      · have HNO := Lib.hid (show readRep xs = none by unfold readRep; rw [if_neg]; rintro ⟨_, h⟩; rw [HRP.out] at h; exact heq h)
        have hse := str_eq (b := false) (xs := repBytes v0 v1 dd ps) (ys := xs) (rep_byte _ _ _ _) HX.out ⟨fun h => (by cases h), fun h => absurd h heq⟩
        clear heq
        go_wp2_with fail
        exact bodyPost_ret (v := .tuple #[.agg #[.int .i64 0, .int .i64 0, .bool false, .slice none 0 0], .int .i64 4]) (by simp [results, Try.results47, go_sem, c0, f0, z0]) rfl ⟨((((HB.setCell (Nat.le_refl _) _).setCell (Nat.le_refl _) _).setCell (Nat.le_refl _) _).setCell (Nat.le_refl _) _), .inl ⟨HNO.out, rfl⟩⟩
    · have HNO := Lib.hid (show readRep xs = none by exact readRep_end (by rw [HRP.out]; unfold Cur.end_; rw [hsb]; rfl) (by rw [HRP.out]; show ps.length ≤ 1000000; have := HM.out; omega))
      rw [hsb] at cb
      clear hsb
      go_wp2_with fail
      exact bodyPost_ret (v := .tuple #[.agg #[.int .i64 0, .int .i64 0, .bool false, .slice none 0 0], .int .i64 4]) (by simp [results, Try.results47, go_sem, c0, f0, z0]) rfl ⟨((((HB.setCell (Nat.le_refl _) _).setCell (Nat.le_refl _) _).setCell (Nat.le_refl _) _).setCell (Nat.le_refl _) _), .inl ⟨HNO.out, rfl⟩⟩

set_option maxRecDepth 100000 in
set_option maxHeartbeats 4000000 in
theorem rreadbat_main {A : Option Addr} {n c : Nat} {xs : List Nat} (w : World) (hx : Reads w w.heap.size 1 A n (u8s xs)) (hxs : ∀ x ∈ xs, x < 256) (hn : n ≤ 900000) :
    Calls Try.prog 48 #[.slice A n c] w (BatPost w xs) := by
  have HX := Lib.hid hxs
  have hxl : xs.length = n := by simpa using hx.1
  have HXL := Lib.hid hxl
  obtain ⟨v0, hv0⟩ : ∃ v, Cur.i (⟨xs, false⟩ : Cur) = v := ⟨_, rfl⟩
  obtain ⟨s1, hs1⟩ : ∃ s, Cur.ni (⟨xs, false⟩ : Cur) = s := ⟨_, rfl⟩
  have L1 : (∀ d ∈ s1.l, d < 256) ∧ s1.l.length ≤ xs.length := by rw [← hs1]; exact ⟨ni_byte hxs, Nat.le_trans (ni_len_ _) (Nat.le_refl _)⟩
  have I0 : IN64 v0 ∧ 0 ≤ v0 := by rw [← hv0]; exact ci_in _
  obtain ⟨v1, hv1⟩ : ∃ v, Cur.i s1 = v := ⟨_, rfl⟩
  obtain ⟨s2, hs2⟩ : ∃ s, Cur.ni s1 = s := ⟨_, rfl⟩
  have L2 : (∀ d ∈ s2.l, d < 256) ∧ s2.l.length ≤ xs.length := by rw [← hs2]; exact ⟨ni_byte L1.1, Nat.le_trans (ni_len_ _) L1.2⟩
  have I1 : IN64 v1 ∧ 0 ≤ v1 := by rw [← hv1]; exact ci_in _
  obtain ⟨⟨ps, s3⟩, hps⟩ : ∃ r, rdPrs s2 = r := ⟨_, rfl⟩
  have HRP := Lib.hid (show btP xs = (⟨v0, v1, ps⟩, s3) by unfold btP Cur.two; rw [hv0, hs1, hv1, hs2, hps])
  have hpl : ps.length ≤ 900001 := by have := btP_count xs; rw [HRP.out] at this; simp only at this; omega
  have hpk : ∀ p ∈ ps, p.ok := by have := (btP_ok xs).2.2; rw [HRP.out] at this; exact this
  have HPK := Lib.hid hpk
  have HPS := Lib.hid hps
  have E0 := Lib.hid (And.intro hv0 hs1)
  have E1 := Lib.hid (And.intro hv1 hs2)
  have Y1 := Lib.hid L1
  have Y2 := Lib.hid L2
  clear hxs hxl hpk hps hv0 hs1 L1 hv1 hs2 L2
  have HRC := Lib.hid (RC.new (c := c) (hx.alloc (Nat.le_refl _) (.cells #[.int .i64 0, .int .i64 0, .slice none 0 0] 68)) (by simp) (by omega))
  go_enter Try.func48, Try.ntmps48
  go_wp2_with fail
  refine (rcint_e (B := w.heap.size) (g := w.heap.size + 1) (c := ⟨xs, false⟩) _ (by simpa using HRC.out) HX.out E0.out.1 E0.out.2).mono ?_
  rintro e w1 ⟨rfl, hr, hg⟩
  have K0 := (Blk.alloc (Blk.new w 68 #[.int .i64 0, .int .i64 0, .slice none 0 0]) (.cells #[.slice A n c, .int .i64 0, .bool false] 43)).grown hg (by simp)
  have HB := below_g (((Below.refl w.heap.size w).alloc (Nat.le_refl _) (.cells #[.int .i64 0, .int .i64 0, .slice none 0 0] 68)).alloc (by simp) (.cells #[.slice A n c, .int .i64 0, .bool false] 43)) hg (by simp; omega) (by omega)
  have HR := Lib.hid hr
  have hgl := hr.lt_
  clear hg hr HRC
  go_wp2_with fail
  refine (rcint_e (B := w.heap.size) (g := w.heap.size + 1) (c := s1) _ HR.out Y1.out.1 E1.out.1 E1.out.2).mono ?_
  rintro e w2 ⟨rfl, hr, hg⟩
  have K0 := K0.grown hg (by simp)
  have HB := below_g HB hg HB.size (by omega)
  have HR := Lib.hid hr
  have hgl := hr.lt_
  clear hg hr
  have K2 := Blk.new w2 68 #[.int .i64 v0, .int .i64 v1, .slice none 0 0]
  have K0 := K0.alloc (.cells #[.int .i64 v0, .int .i64 v1, .slice none 0 0] 68)
  have HB := HB.alloc HB.size (.cells #[.int .i64 v0, .int .i64 v1, .slice none 0 0] 68)
  have HR := Lib.hid (HR.out.alloc (.cells #[.int .i64 v0, .int .i64 v1, .slice none 0 0] 68))
  go_wp2_with fail
  refine (rreadps_e (B := w.heap.size) (g := w.heap.size + 1) (c := s2) _ HR.out Y2.out.1 (by have := Y2.out.2; have := HXL.out; omega) HPS.out).mono ?_
  rintro e w5 ⟨v, rfl, hown, hr, hg⟩
  have hown := own_le hown (base' := w2.heap.size + 1) (by have := K2.lt; omega)
  have K0 := K0.grown hg (by simp)
  have K2 := K2.grown hg (by simp; omega)
  have HB := below_g HB hg HB.size (by omega)
  obtain ⟨m, hm⟩ : ∃ m, m = ps.length := ⟨_, rfl⟩
  rw [← hm] at hown hpl
  obtain ⟨A5, c5, rfl⟩ := own_form hown
  have HM := Lib.hid hm
  have HO5 := Lib.hid (own_set (i := 2) (u := .slice A5 m c5) hown (Nat.lt_succ_self w2.heap.size))
  have HR5 := Lib.hid (Reads.of_own HO5.out)
  have hlo : w.heap.size < w2.heap.size + 1 := by omega
  have c0 := K0.c
  have c2 := K2.c
  have f2 := K2.f
  have z0 := K0.lt
  have z2 := K2.lt
  have K2 : Blk (w5.setCell ⟨w2.heap.size, 2, none⟩ (.slice A5 m c5)) w2.heap.size 68 #[.int .i64 v0, .int .i64 v1, .slice A5 m c5] := by have := K2.set_ 2 (.slice A5 m c5); simpa using this
  have K0 := K0.far (p := ⟨w2.heap.size, 2, none⟩) (by show _ ≠ w2.heap.size; omega) (.slice A5 m c5)
  have HB := HB.setCell (p := ⟨w2.heap.size, 2, none⟩) (by show _ ≤ w2.heap.size; omega) (.slice A5 m c5)
  have HR := Lib.hid (hr.setCell (p := ⟨w2.heap.size, 2, none⟩) (by show _ ≠ w2.heap.size; omega) (by show _ ≤ w2.heap.size; omega) (.slice A5 m c5))
  have HK := Lib.hid (And.intro K0 K2)
  clear hg hr hown hm K0 K2
  go_wp2_with fail
  obtain ⟨K0, K2⟩ := HK.out
  clear c0 c2 f2 z0 z2
  have HREF := Lib.hid (readBat_ref HX.out (by rw [HRP.out]; show ps.length ≤ 1000000; have := HM.out; omega))
  cases hm : batB v0 v1 ps
  · have HNO := Lib.hid (show readBat xs = none by rw [HREF.out, if_neg]; rintro ⟨_, h, _⟩; rw [HRP.out] at h; unfold Bat.may at h; rw [hm] at h; cases h)
    have HM2 := Lib.hid hm
    clear hm
    refine (rbat_no (l := ps) v0 v1 _ HR5.out (Nat.le_refl _) (by omega) HM2.out).mono ?_
    rintro e w7 ⟨rfl, hb⟩
    have K0 := K0.on hb
    have HB := below_after HB hb HB.size
    have cb := (HR.out.on hb).cell_
    have c0 := K0.c
    have f0 := K0.f
    have z0 := K0.lt
    clear hb
    cases hsb : s3.b
    · rw [hsb] at cb
      clear hsb
      go_wp2_with fail
      exact bodyPost_ret (v := .tuple #[.agg #[.int .i64 0, .int .i64 0, .slice none 0 0], .int .i64 4]) (by simp [results, Try.results48, go_sem, c0, f0, z0]) rfl ⟨(((HB.setCell (Nat.le_refl _) _).setCell (Nat.le_refl _) _).setCell (Nat.le_refl _) _), .inl ⟨HNO.out, rfl⟩⟩
    · rw [hsb] at cb
      clear hsb
      go_wp2_with fail
      exact bodyPost_ret (v := .tuple #[.agg #[.int .i64 0, .int .i64 0, .slice none 0 0], .int .i64 4]) (by simp [results, Try.results48, go_sem, c0, f0, z0]) rfl ⟨(((HB.setCell (Nat.le_refl _) _).setCell (Nat.le_refl _) _).setCell (Nat.le_refl _) _), .inl ⟨HNO.out, rfl⟩⟩
  · have HM2 := Lib.hid hm
    clear hm
    refine (rbat_yes' (l := ps) v0 v1 _ HR5.out (Nat.le_refl _) (by omega) I0.1 I1.1 HPK.out HM2.out).mono ?_
    rintro e w7 ⟨x, rfl, hown, hb⟩
    obtain ⟨k, hk⟩ : ∃ k, k = (batBytes v0 v1 ps).length := ⟨_, rfl⟩
    rw [← hk] at hown
    obtain ⟨A7, c7, rfl⟩ := own_form hown
    have hst := run_str w7 22 9 5 (c := c7) Try.underlying22 Try.underlying5 Try.underlying9 (Reads.of_own hown)
    have hst2 := run_str w7 22 9 5 (c := c) Try.underlying22 Try.underlying5 Try.underlying9 (hx.below (below_after HB hb HB.size))
    have K0 := K0.on hb
    have K2 := K2.on hb
    have HO6 := Lib.hid (own_below HO5.out hb)
    have cb := (HR.out.on hb).cell_
    have HB := below_after HB hb HB.size
    have c0 := K0.c
    have f0 := K0.f
    have z0 := K0.lt
    have c2 := K2.c
    have z2 := K2.lt
    clear hb hk hown
    cases hsb : s3.b
    · have HSB := Lib.hid hsb
      rw [hsb] at cb
      clear hsb
      by_cases heq : batBytes v0 v1 ps = xs
      · have HYES := Lib.hid (show readBat xs = some ⟨v0, v1, ps⟩ by rw [HREF.out, if_pos, HRP.out]; rw [HRP.out]; exact ⟨HSB.out, HM2.out, heq⟩)
        have hse := str_eq (b := true) (xs := batBytes v0 v1 ps) (ys := xs) (bat_byte _ _ _) HX.out ⟨fun _ => heq, fun _ => rfl⟩
        clear heq
        go_wp2_with fail
        exact bodyPost_ret (v := .tuple #[.agg #[.int .i64 v0, .int .i64 v1, .slice A5 m c5], .int .i64 0]) (by simp [results, Try.results48, go_sem, c0, f0, z0]) rfl ⟨(((HB.setCell (Nat.le_refl _) _).setCell (Nat.le_refl _) _).setCell (Nat.le_refl _) _), .inr ⟨_, A5, m, c5, HYES.out, rfl, Reads.of_own (own_set (own_set (own_set HO6.out hlo) hlo) hlo)⟩⟩
      · have HNO := Lib.hid (show readBat xs = none by rw [HREF.out, if_neg]; rintro ⟨_, _, h⟩; rw [HRP.out] at h; exact heq h)
        have hse := str_eq (b := false) (xs := batBytes v0 v1 ps) (ys := xs) (bat_byte _ _ _) HX.out ⟨fun h => (by cases h), fun h => absurd h heq⟩
        clear heq
        go_wp2_with fail
        exact bodyPost_ret (v := .tuple #[.agg #[.int .i64 0, .int .i64 0, .slice none 0 0], .int .i64 4]) (by simp [results, Try.results48, go_sem, c0, f0, z0]) rfl ⟨(((HB.setCell (Nat.le_refl _) _).setCell (Nat.le_refl _) _).setCell (Nat.le_refl _) _), .inl ⟨HNO.out, rfl⟩⟩
    · have HNO := Lib.hid (show readBat xs = none by rw [HREF.out, if_neg]; rintro ⟨h, _⟩; rw [HRP.out, hsb] at h; cases h)
      rw [hsb] at cb
      clear hsb
      go_wp2_with fail
      exact bodyPost_ret (v := .tuple #[.agg #[.int .i64 0, .int .i64 0, .slice none 0 0], .int .i64 4]) (by simp [results, Try.results48, go_sem, c0, f0, z0]) rfl ⟨(((HB.setCell (Nat.le_refl _) _).setCell (Nat.le_refl _) _).setCell (Nat.le_refl _) _), .inl ⟨HNO.out, rfl⟩⟩
end Go.Proofs.Ytejijghghbicdaa
