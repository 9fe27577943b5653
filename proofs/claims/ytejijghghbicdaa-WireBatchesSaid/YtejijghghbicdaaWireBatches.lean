/-
  WireBatches: the bytes of every batch, or that it has none, and that they are read as it; the call returns true and changes nothing that was in memory.
-/
import Derived.Test.YtejijghghbicdaaWireRes
import Derived.Test.YtejijghghbicdaaWireSame
import Derived.Test.YtejijghghbicdaaWireOpen
namespace Go.Proofs.Ytejijghghbicdaa
open Go.ChangeShapes Go.WideShapes Go.ChangeAt Go.RowKit Go.Joins
set_option linter.unusedSimpArgs false
set_option linter.unusedVariables false

theorem batBytes_len_wireBatches (r s : Int) (ps : List Pr) (hr : IN64 r) (hs : IN64 s) (h : ∀ p ∈ ps, p.ok) (hl : ps.length ≤ 200) : (batBytes r s ps).length ≤ 5000 := by
  have h1 := prBytes_len ps h
  have h2 := enc_len10 (n := ps.length) (by omega)
  have h3 := encs_len ([r, s].map nat0) (by intro y hy; simp at hy; rcases hy with rfl | rfl; exact nat0_w hr; exact nat0_w hs)
  unfold batBytes prsBytes
  simp at *; omega

set_option maxHeartbeats 1000000 in
theorem wireBatches_early (r s : Int) {A : Option Addr} {m c : Nat} (w : World) (hm : m ≤ maxLen) (h : 200 < m) : Calls Try.prog 14 #[.agg #[.int .i64 r, .int .i64 s, .slice A m c]] w fun e w' => e = .returned (.bool true) ∧ Below w.heap.size w w' := by
  unfold maxLen at hm
  go_enter Try.func14, Try.ntmps14
  go_wp2_with fail
  refine (alive2_any _).mono ?_
  rintro en w1 ⟨rfl, hb⟩
  have K0 := Blk.on (g := w.heap.size) (t := 68) (cs := #[.int .i64 r, .int .i64 s, .slice A m c]) (by repeat (first | exact Blk.at_ _ _ _ (by simp) | refine Blk.alloc ?_ _)) hb
  have HB := below_after ((Below.refl w.heap.size w).alloc (Nat.le_refl _) _) hb (by simp)
  have c0 := K0.c
  have z0 := K0.lt
  clear hb
  go_wp2_with fail
  go_ret
  exact ⟨rfl, HB⟩

set_option maxRecDepth 100000 in
set_option maxHeartbeats 2000000 in
theorem wireBatches_no (r s : Int) {A : Option Addr} {m c : Nat} {ps : List Pr} (w : World) (hR : Reads w w.heap.size 2 A m (prCells ps)) (h : ¬ 200 < m) (hmay : batB r s ps = false) : Calls Try.prog 14 #[.agg #[.int .i64 r, .int .i64 s, .slice A m c]] w fun e w' => e = .returned (.bool true) ∧ Below w.heap.size w w' := by
  have HM := Lib.hid hmay
  have HR := Lib.hid hR
  clear hmay hR
  go_enter Try.func14, Try.ntmps14
  go_wp2_with fail
  refine (alive2_any _).mono ?_
  rintro en w1 ⟨rfl, hb⟩
  have K0 := Blk.on (g := w.heap.size) (t := 68) (cs := #[.int .i64 r, .int .i64 s, .slice A m c]) (by repeat (first | exact Blk.at_ _ _ _ (by simp) | refine Blk.alloc ?_ _)) hb
  have HB := below_after ((Below.refl w.heap.size w).alloc (Nat.le_refl _) _) hb (by simp)
  have c0 := K0.c
  have z0 := K0.lt
  clear hb
  go_wp2_with fail
  refine (bat_no (l := ps) r s _ (HR.out.below HB) HB.size (by omega) HM.out).mono ?_
  rintro en w2 ⟨rfl, hb⟩
  have K0 := K0.on hb
  have HB := below_after HB hb HB.size
  clear hb c0 z0
  have c0 := K0.c
  have z0 := K0.lt
  go_wp2_with fail
  refine (rbat_no (l := ps) r s _ (HR.out.below HB) HB.size (by omega) HM.out).mono ?_
  rintro en w3 ⟨rfl, hb⟩
  have HB := below_after HB hb HB.size
  have hc := run_str w3 22 9 5 (c := 0) Try.underlying22 Try.underlying5 Try.underlying9 (show Reads w3 0 1 none 0 (u8s []) from Reads.none_)
  clear hb c0 z0 K0
  go_wp2_with fail
  refine (wnum_any _ _).mono ?_
  rintro en w4 ⟨rfl, rfl⟩
  go_wp2_with fail
  go_ret
  exact ⟨rfl, HB⟩

set_option maxRecDepth 100000 in
set_option maxHeartbeats 2000000 in
theorem wireBatches_yes (r s : Int) {A : Option Addr} {m c : Nat} {ps : List Pr} (w : World) (hR : Reads w w.heap.size 2 A m (prCells ps)) (hok : Bat.ok ⟨r, s, ps⟩) (h : ¬ 200 < m) (hmay : batB r s ps = true) : Calls Try.prog 14 #[.agg #[.int .i64 r, .int .i64 s, .slice A m c]] w fun e w' => e = .returned (.bool true) ∧ Below w.heap.size w w' := by
  have hpl := reads_plen hR
  have HM := Lib.hid hmay
  have HR := Lib.hid hR
  have HOK := Lib.hid hok
  have HRD := Lib.hid (show batRes (batBytes r s ps) = (⟨r, s, ps⟩, 0) by unfold batRes; rw [show readBat (batBytes r s ps) = some ⟨r, s, ps⟩ from readBat_bytes (b := ⟨r, s, ps⟩) hok hmay (by show ps.length ≤ _; omega)])
  have hlen := batBytes_len_wireBatches r s ps hok.1 hok.2.1 hok.2.2 (by omega)
  have HBY := Lib.hid (bat_byte r s ps)
  obtain ⟨n, hn⟩ : ∃ n, n = (batBytes r s ps).length := ⟨_, rfl⟩
  rw [← hn] at hlen
  have HN := Lib.hid hn
  clear hmay hR hok hn hpl
  go_enter Try.func14, Try.ntmps14
  go_wp2_with fail
  refine (alive2_any _).mono ?_
  rintro en w1 ⟨rfl, hb⟩
  have K0 := Blk.on (g := w.heap.size) (t := 68) (cs := #[.int .i64 r, .int .i64 s, .slice A m c]) (by repeat (first | exact Blk.at_ _ _ _ (by simp) | refine Blk.alloc ?_ _)) hb
  have HB := below_after ((Below.refl w.heap.size w).alloc (Nat.le_refl _) _) hb (by simp)
  have c0 := K0.c
  have z0 := K0.lt
  clear hb
  go_wp2_with fail
  refine (bat_yes' (l := ps) r s _ (HR.out.below HB) HB.size (by omega) HOK.out.1 HOK.out.2.1 HOK.out.2.2 HM.out).mono ?_
  rw [← HN.out]
  rintro en w2 ⟨x, rfl, hown, hb⟩
  obtain ⟨A2, c2, rfl⟩ := own_form hown
  have hb2 := Reads.of_own hown
  have K0 := K0.on hb
  have HB := below_after HB hb HB.size
  clear hb hown c0 z0
  have c0 := K0.c
  have z0 := K0.lt
  go_wp2_with fail
  refine (rbat_yes' (l := ps) r s _ (HR.out.below HB) HB.size (by omega) HOK.out.1 HOK.out.2.1 HOK.out.2.2 HM.out).mono ?_
  rw [← HN.out]
  rintro en w3 ⟨x, rfl, hown, hb⟩
  obtain ⟨A3, c3, rfl⟩ := own_form hown
  have hc := run_str w3 22 9 5 (c := c2) Try.underlying22 Try.underlying5 Try.underlying9 (hb2.below hb)
  have hc2 := run_str w3 22 9 5 (c := c3) Try.underlying22 Try.underlying5 Try.underlying9 (Reads.of_own hown)
  have HR2 := Lib.hid ((hb2.below hb).more hb.size)
  have K0 := K0.on hb
  have HB := below_after HB hb HB.size
  clear hb hown hb2 c0 z0
  have c0 := K0.c
  have z0 := K0.lt
  go_wp2_with fail
  refine (wnum_any _ _).mono ?_
  rintro en w4 ⟨rfl, rfl⟩
  go_wp2_with fail
  refine (readbat_res _ HR2.out (Nat.le_refl _) HBY.out (by omega)).mono ?_
  unfold BatRes
  rw [HRD.out]
  rintro en w4 ⟨A4, m4, c4, rfl, hR4, hm4, hb⟩
  have HR4 := Lib.hid hR4
  have K0 := (K0.on hb).alloc (.cells #[.int .i64 r, .int .i64 s, .slice A4 m4 c4] 68)
  have K1 := Blk.new w4 68 #[.int .i64 r, .int .i64 s, .slice A4 m4 c4]
  have HB := below_after HB hb HB.size
  have hz4 := HB.size
  have HB := HB.alloc HB.size (.cells #[.int .i64 r, .int .i64 s, .slice A4 m4 c4] 68)
  clear hb hR4 hc hc2 c0 z0
  have c0 := K0.c
  have z0 := K0.lt
  have c1 := K1.c
  go_wp2_with fail
  refine (wnum_any _ _).mono ?_
  rintro en w5 ⟨rfl, rfl⟩
  go_wp2_with fail
  refine (samebat_any (B := w4.heap.size) _ (HR4.out.alloc (Nat.le_refl _) _) ((HR.out.below HB).more hz4) (by simp) (by omega) (by omega)).mono ?_
  rintro en w6 ⟨rfl, hb⟩
  have HB := below_after HB hb HB.size
  go_wp2_with fail
  go_ret
  exact ⟨rfl, HB⟩

theorem wireBatches_walk (q : Bat) {A : Option Addr} {m c : Nat} (w : World) (hR : Reads w w.heap.size 2 A m (prCells q.ps)) (hok : q.ok) (hm : m ≤ maxLen) : Calls Try.prog 14 #[.agg #[.int .i64 q.r, .int .i64 q.s, .slice A m c]] w fun e w' => e = .returned (.bool true) ∧ Below w.heap.size w w' := by
  obtain ⟨r, s, ps⟩ := q
  by_cases h : 200 < m
  · exact wireBatches_early r s w hm h
  cases hmay : batB r s ps
  · exact wireBatches_no r s w hR h hmay
  · exact wireBatches_yes r s w hR hok h hmay


namespace wireBatches
set_option maxRecDepth 100000 in
theorem contract (H : Type) (enc : TypeId × Value → H) (W : World) (base : Nat) (args : Array Value) (ds gs : List (DataW H)) (before : List MemPlace)
    (hval : ∀ (j : Nat) t v, Try.f14.params[j]? = some t → args[j]? = some v → Value.okWide Try.prog W .any base t v)
    (hW : DataW.Whole enc Try.prog Try.f14.params.toList Rows.wireBatchesSpec.vars false W args.toList ds gs before) :
    Calls Try.prog 14 args W fun e W' => ∃ v, e = .returned v ∧ Rows.wireBatchesSpec.post enc Try.prog Try.f14 false true false false W args v W' := by
  have hWc := hW
  obtain ⟨p, q, hA0, hV, _, _, _⟩ := hW
  have hA : DataW.TrodAll enc Try.prog W 0 (fun _ => true) true Try.f14.params.toList args.toList ds p := hA0
  clear hA0
  rw [Try.params14] at hA hval
  obtain ⟨v0, vs0, d0, ds0, p0, q0, hargs, rfl, rfl, h0, r0⟩ := trodAll_cons hA
  obtain ⟨rfl, rfl, rfl⟩ := trodAll_nil r0
  obtain rfl : args = #[v0] := by cases args; simp_all
  obtain ⟨r0, A0, n0, c0, rfl, hr0, ok0, hn0, hc0⟩ := open_bat (hval 0 68 v0 rfl rfl) h0
  refine (wireBatches_walk r0 W hr0 ok0 (Nat.le_trans hn0 hc0)).mono fun e W' ⟨he, hb⟩ => ⟨_, he, ?_⟩
  exact post_true hWc rfl hb laidOut (readables (by kernel_rfl)) rfl Try.underlying4 (fun h => by subst h; rfl)

set_option maxRecDepth 100000 in
theorem lifted (os : Os) (started : os.Started) (H : Type) (enc : TypeId × Value → H) :
    ReturnsInHanded {} Try.checked os 14 .any (Rows.wireBatchesSpec.pre6 enc Try.prog Try.f14 Rows.wireBatchesRow.domain false) (Rows.wireBatchesSpec.post enc Try.prog Try.f14 false true false false) := by
  refine returnsInHanded_of_change (C := Try.checked) own started (by kernel_rfl) Try.func14
    (ChangeSpec.witness6 (enc := enc) (C := Try.checked) false ⟨#[], #[.agg #[.int .i64 0, .int .i64 0, .slice none 0 0]], []⟩ 8 (by kernel_rfl) (by kernel_rfl) (by kernel_rfl) (by kernel_rfl)) ?_
  intro W base args ds gs before hval hW _ _
  exact contract H enc W base args ds gs before hval hW

theorem proved : Rows.WireBatchesSaid :=
  OpenClaim.holds_of_wide 14 Try.f14 rfl rfl rfl rfl rfl rfl rfl ⟨rfl, rfl, rfl, rfl, rfl⟩ rfl rfl rfl rfl rfl (by kernel_rfl) Try.func14 (by kernel_rfl)
    (of_decide_eq_true (by kernel_rfl)) (by unfold Func.isWrapper; first | (rw [if_pos (by decide +kernel)]; kernel_rfl) | (rw [if_neg (by decide +kernel)]; exact ⟨rfl, rfl⟩))
    (fun os started H enc _ => lifted os started H enc)
end wireBatches
end Go.Proofs.Ytejijghghbicdaa
