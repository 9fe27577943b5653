/-
  WireReplies: the bytes of every reply, or that it has none, and that they are read as it; the call returns true and changes nothing that was in memory.
-/
import Derived.Test.YtejijghghbicdaaWireRes
import Derived.Test.YtejijghghbicdaaWireSame
import Derived.Test.YtejijghghbicdaaWireOpen
namespace Go.Proofs.Ytejijghghbicdaa
open Go.ChangeShapes Go.WideShapes Go.ChangeAt Go.RowKit Go.Joins
set_option linter.unusedSimpArgs false
set_option linter.unusedVariables false

theorem repBytes_len_wireReplies (id e : Int) (d : Bool) (ps : List Pr) (hid : IN64 id) (he : IN64 e) (h : ∀ p ∈ ps, p.ok) (hl : ps.length ≤ 200) : (repBytes id e d ps).length ≤ 5000 := by
  have h1 := prBytes_len ps h
  have h2 := enc_len10 (n := ps.length) (by omega)
  have h3 := encs_len ([id, e, bitI d].map nat0) (by intro y hy; simp at hy; rcases hy with rfl | rfl | rfl; exact nat0_w hid; exact nat0_w he; exact nat0_w (in64_bit d))
  unfold repBytes prsBytes
  simp at *; omega

set_option maxHeartbeats 1000000 in
theorem wireReplies_early (id e : Int) (d : Bool) {A : Option Addr} {m c : Nat} (w : World) (hm : m ≤ maxLen) (h : 200 < m) : Calls Try.prog 15 #[.agg #[.int .i64 id, .int .i64 e, .bool d, .slice A m c]] w fun e w' => e = .returned (.bool true) ∧ Below w.heap.size w w' := by
  unfold maxLen at hm
  go_enter Try.func15, Try.ntmps15
  go_wp2_with fail
  refine (alive2_any _).mono ?_
  rintro en w1 ⟨rfl, hb⟩
  have K0 := Blk.on (g := w.heap.size) (t := 59) (cs := #[.int .i64 id, .int .i64 e, .bool d, .slice A m c]) (by repeat (first | exact Blk.at_ _ _ _ (by simp) | refine Blk.alloc ?_ _)) hb
  have HB := below_after ((Below.refl w.heap.size w).alloc (Nat.le_refl _) _) hb (by simp)
  have c0 := K0.c
  have z0 := K0.lt
  clear hb
  go_wp2_with fail
  go_ret
  exact ⟨rfl, HB⟩

set_option maxRecDepth 100000 in
set_option maxHeartbeats 2000000 in
theorem wireReplies_no (id e : Int) (d : Bool) {A : Option Addr} {m c : Nat} {ps : List Pr} (w : World) (hR : Reads w w.heap.size 2 A m (prCells ps)) (h : ¬ 200 < m) (hmay : repB id e d ps = false) : Calls Try.prog 15 #[.agg #[.int .i64 id, .int .i64 e, .bool d, .slice A m c]] w fun e w' => e = .returned (.bool true) ∧ Below w.heap.size w w' := by
  have HM := Lib.hid hmay
  have HR := Lib.hid hR
  clear hmay hR
  go_enter Try.func15, Try.ntmps15
  go_wp2_with fail
  refine (alive2_any _).mono ?_
  rintro en w1 ⟨rfl, hb⟩
  have K0 := Blk.on (g := w.heap.size) (t := 59) (cs := #[.int .i64 id, .int .i64 e, .bool d, .slice A m c]) (by repeat (first | exact Blk.at_ _ _ _ (by simp) | refine Blk.alloc ?_ _)) hb
  have HB := below_after ((Below.refl w.heap.size w).alloc (Nat.le_refl _) _) hb (by simp)
  have c0 := K0.c
  have z0 := K0.lt
  clear hb
  go_wp2_with fail
  refine (rep_no (l := ps) id e d _ (HR.out.below HB) HB.size (by omega) HM.out).mono ?_
  rintro en w2 ⟨rfl, hb⟩
  have K0 := K0.on hb
  have HB := below_after HB hb HB.size
  clear hb c0 z0
  have c0 := K0.c
  have z0 := K0.lt
  go_wp2_with fail
  refine (rrep_no (l := ps) id e d _ (HR.out.below HB) HB.size (by omega) HM.out).mono ?_
  rintro en w3 ⟨rfl, hb⟩
  have HB := below_after HB hb HB.size
  have hc := run_str w3 22 9 5 (c := 0) Try.underlying22 Try.underlying5 Try.underlying9 (show Reads w3 0 1 none 0 (u8s []) from Reads.none_)
  clear hb c0 z0 K0
  go_wp2_with fail
  refine (wnum_any _ _).mono ?_
  rintro en w4 ⟨rfl, rfl⟩
  go_wp2_with fail
  go_ret
  exact ⟨rfl, HB⟩

set_option maxRecDepth 100000 in
set_option maxHeartbeats 2000000 in
theorem wireReplies_yes (id e : Int) (d : Bool) {A : Option Addr} {m c : Nat} {ps : List Pr} (w : World) (hR : Reads w w.heap.size 2 A m (prCells ps)) (hok : Rep.ok ⟨id, e, d, ps⟩) (h : ¬ 200 < m) (hmay : repB id e d ps = true) : Calls Try.prog 15 #[.agg #[.int .i64 id, .int .i64 e, .bool d, .slice A m c]] w fun e w' => e = .returned (.bool true) ∧ Below w.heap.size w w' := by
  have hpl := reads_plen hR
  have HM := Lib.hid hmay
  have HR := Lib.hid hR
  have HOK := Lib.hid hok
  have HRD := Lib.hid (show repRes (repBytes id e d ps) = (⟨id, e, d, ps⟩, 0) by unfold repRes; rw [show readRep (repBytes id e d ps) = some ⟨id, e, d, ps⟩ from readRep_bytes (r := ⟨id, e, d, ps⟩) hok hmay (by show ps.length ≤ _; omega)])
  have hlen := repBytes_len_wireReplies id e d ps hok.1 hok.2.1 hok.2.2 (by omega)
  have HBY := Lib.hid (rep_byte id e d ps)
  obtain ⟨n, hn⟩ : ∃ n, n = (repBytes id e d ps).length := ⟨_, rfl⟩
  rw [← hn] at hlen
  have HN := Lib.hid hn
  clear hmay hR hok hn hpl
  go_enter Try.func15, Try.ntmps15
  go_wp2_with fail
  refine (alive2_any _).mono ?_
  rintro en w1 ⟨rfl, hb⟩
  have K0 := Blk.on (g := w.heap.size) (t := 59) (cs := #[.int .i64 id, .int .i64 e, .bool d, .slice A m c]) (by repeat (first | exact Blk.at_ _ _ _ (by simp) | refine Blk.alloc ?_ _)) hb
  have HB := below_after ((Below.refl w.heap.size w).alloc (Nat.le_refl _) _) hb (by simp)
  have c0 := K0.c
  have z0 := K0.lt
  clear hb
  go_wp2_with fail
  refine (rep_yes (l := ps) id e d _ (HR.out.below HB) HB.size (by omega) HOK.out.1 HOK.out.2.2 HM.out).mono ?_
  rw [← HN.out]
  rintro en w2 ⟨x, rfl, hown, hb⟩
  obtain ⟨A2, c2, rfl⟩ := own_form hown
  have hb2 := Reads.of_own hown
  have K0 := K0.on hb
  have HB := below_after HB hb HB.size
  clear hb hown c0 z0
  have c0 := K0.c
  have z0 := K0.lt
  go_wp2_with fail
  refine (rrep_yes (l := ps) id e d _ (HR.out.below HB) HB.size (by omega) HOK.out.1 HOK.out.2.2 HM.out).mono ?_
  rw [← HN.out]
  rintro en w3 ⟨x, rfl, hown, hb⟩
  obtain ⟨A3, c3, rfl⟩ := own_form hown
  have hc := run_str w3 22 9 5 (c := c2) Try.underlying22 Try.underlying5 Try.underlying9 (hb2.below hb)
  have hc2 := run_str w3 22 9 5 (c := c3) Try.underlying22 Try.underlying5 Try.underlying9 (Reads.of_own hown)
  have HR2 := Lib.hid ((hb2.below hb).more hb.size)
  have K0 := K0.on hb
  have HB := below_after HB hb HB.size
  clear hb hown hb2 c0 z0
  have c0 := K0.c
  have z0 := K0.lt
  go_wp2_with fail
  refine (wnum_any _ _).mono ?_
  rintro en w4 ⟨rfl, rfl⟩
  go_wp2_with fail
  refine (readrep_res _ HR2.out (Nat.le_refl _) HBY.out (by omega)).mono ?_
  unfold RepRes
  rw [HRD.out]
  rintro en w4 ⟨A4, m4, c4, rfl, hR4, hm4, hb⟩
  have HR4 := Lib.hid hR4
  have K0 := (K0.on hb).alloc (.cells #[.int .i64 id, .int .i64 e, .bool d, .slice A4 m4 c4] 59)
  have K1 := Blk.new w4 59 #[.int .i64 id, .int .i64 e, .bool d, .slice A4 m4 c4]
  have HB := below_after HB hb HB.size
  have hz4 := HB.size
  have HB := HB.alloc HB.size (.cells #[.int .i64 id, .int .i64 e, .bool d, .slice A4 m4 c4] 59)
  clear hb hR4 hc hc2 c0 z0
  have c0 := K0.c
  have z0 := K0.lt
  have c1 := K1.c
  go_wp2_with fail
  refine (wnum_any _ _).mono ?_
  rintro en w5 ⟨rfl, rfl⟩
  go_wp2_with fail
  refine (samerep_any (B := w4.heap.size) (b := true) _ (HR4.out.alloc (Nat.le_refl _) _) ((HR.out.below HB).more hz4) (by simp) (by simp) (by omega) (by omega)).mono ?_
  rintro en w6 ⟨rfl, hb⟩
  have HB := below_after HB hb HB.size
  go_wp2_with fail
  go_ret
  exact ⟨rfl, HB⟩

theorem wireReplies_walk (q : Rep) {A : Option Addr} {m c : Nat} (w : World) (hR : Reads w w.heap.size 2 A m (prCells q.ps)) (hok : q.ok) (hm : m ≤ maxLen) : Calls Try.prog 15 #[.agg #[.int .i64 q.id, .int .i64 q.e, .bool q.d, .slice A m c]] w fun e w' => e = .returned (.bool true) ∧ Below w.heap.size w w' := by
  obtain ⟨id, e, d, ps⟩ := q
  by_cases h : 200 < m
  · exact wireReplies_early id e d w hm h
  cases hmay : repB id e d ps
  · exact wireReplies_no id e d w hR h hmay
  · exact wireReplies_yes id e d w hR hok h hmay


namespace wireReplies
set_option maxRecDepth 100000 in
theorem contract (H : Type) (enc : TypeId × Value → H) (W : World) (base : Nat) (args : Array Value) (ds gs : List (DataW H)) (before : List MemPlace)
    (hval : ∀ (j : Nat) t v, Try.f15.params[j]? = some t → args[j]? = some v → Value.okWide Try.prog W .any base t v)
    (hW : DataW.Whole enc Try.prog Try.f15.params.toList Rows.wireRepliesSpec.vars false W args.toList ds gs before) :
    Calls Try.prog 15 args W fun e W' => ∃ v, e = .returned v ∧ Rows.wireRepliesSpec.post enc Try.prog Try.f15 false true false false W args v W' := by
  have hWc := hW
  obtain ⟨p, q, hA0, hV, _, _, _⟩ := hW
  have hA : DataW.TrodAll enc Try.prog W 0 (fun _ => true) true Try.f15.params.toList args.toList ds p := hA0
  clear hA0
  rw [Try.params15] at hA hval
  obtain ⟨v0, vs0, d0, ds0, p0, q0, hargs, rfl, rfl, h0, r0⟩ := trodAll_cons hA
  obtain ⟨rfl, rfl, rfl⟩ := trodAll_nil r0
  obtain rfl : args = #[v0] := by cases args; simp_all
  obtain ⟨r0, A0, n0, c0, rfl, hr0, ok0, hn0, hc0⟩ := open_rep (hval 0 59 v0 rfl rfl) h0
  refine (wireReplies_walk r0 W hr0 ok0 (Nat.le_trans hn0 hc0)).mono fun e W' ⟨he, hb⟩ => ⟨_, he, ?_⟩
  exact post_true hWc rfl hb laidOut (readables (by kernel_rfl)) rfl Try.underlying4 (fun h => by subst h; rfl)

set_option maxRecDepth 100000 in
theorem lifted (os : Os) (started : os.Started) (H : Type) (enc : TypeId × Value → H) :
    ReturnsInHanded {} Try.checked os 15 .any (Rows.wireRepliesSpec.pre6 enc Try.prog Try.f15 Rows.wireRepliesRow.domain false) (Rows.wireRepliesSpec.post enc Try.prog Try.f15 false true false false) := by
  refine returnsInHanded_of_change (C := Try.checked) own started (by kernel_rfl) Try.func15
    (ChangeSpec.witness6 (enc := enc) (C := Try.checked) false ⟨#[], #[.agg #[.int .i64 0, .int .i64 0, .bool false, .slice none 0 0]], []⟩ 8 (by kernel_rfl) (by kernel_rfl) (by kernel_rfl) (by kernel_rfl)) ?_
  intro W base args ds gs before hval hW _ _
  exact contract H enc W base args ds gs before hval hW

theorem proved : Rows.WireRepliesSaid :=
  OpenClaim.holds_of_wide 15 Try.f15 rfl rfl rfl rfl rfl rfl rfl ⟨rfl, rfl, rfl, rfl, rfl⟩ rfl rfl rfl rfl rfl (by kernel_rfl) Try.func15 (by kernel_rfl)
    (of_decide_eq_true (by kernel_rfl)) (by unfold Func.isWrapper; first | (rw [if_pos (by decide +kernel)]; kernel_rfl) | (rw [if_neg (by decide +kernel)]; exact ⟨rfl, rfl⟩))
    (fun os started H enc _ => lifted os started H enc)
end wireReplies
end Go.Proofs.Ytejijghghbicdaa
