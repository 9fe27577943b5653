/-
  WireTurned: what a request's bytes of which one is another one are read as: what the reference reads, and not that request; the call returns true and changes nothing that was in memory.
-/
import Derived.Test.YtejijghghbicdaaWireLaw
import Derived.Test.YtejijghghbicdaaWireRead
import Derived.Test.YtejijghghbicdaaWireRRead
import Derived.Test.YtejijghghbicdaaOpen
import Derived.RegionTactic
import Derived.ChangeAlike
import Derived.Laws.BitsAllLaws
import Derived.Outline
namespace Go.Proofs.Ytejijghghbicdaa
open Go.ChangeShapes Go.WideShapes Go.ChangeAt Go.RowKit Go.Joins
set_option linter.unusedSimpArgs false
set_option linter.unusedVariables false

theorem xor_byte {d y : Nat} (hd : d < 256) (hy : y < 256) : bits .xor .u8 (d : Int) (y : Int) = ((d ^^^ y : Nat) : Int) := u8_xor_nat d y hd hy
theorem xor_lt {d y : Nat} (hd : d < 256) (hy : y < 256) : d ^^^ y < 256 := Nat.xor_lt_two_pow (n := 8) hd hy
theorem xor_ne {d y : Nat} (h : 0 < y) : d ^^^ y ≠ d := by
  intro e
  have := congrArg (d ^^^ ·) e
  simp only [← Nat.xor_assoc, Nat.xor_self, Nat.zero_xor] at this
  omega
/-- Other bytes than a request's are no bytes of it. -/
theorem turned_law {r : Req} {l : List Nat} (hl : ∀ d ∈ l, d < 256) (hne : l ≠ r.bytes) : (readReq l).2 ≠ 0 ∨ (readReq l).1 ≠ r := by
  by_cases h : (readReq l).2 = 0
  · right
    intro e
    have := readReq_inv hl h
    rw [e] at this
    exact hne this.2.2
  · exact .inl h

set_option maxRecDepth 100000 in
set_option maxHeartbeats 1000000 in
theorem turned_no (k id u v q a at_ by_ : Int) (hm : Req.may ⟨k, id, u, v, q, a⟩ = false) (w : World) : Calls Try.prog 13 #[.agg #[.int .i64 k, .int .i64 id, .int .i64 u, .int .i64 v, .int .i64 q, .int .i64 a], .int .i64 at_, .int .u8 by_] w fun e w' => e = .returned (.bool true) ∧ Below w.heap.size w w' := by
  have HM := Lib.hid hm
  clear hm
  go_enter Try.func13, Try.ntmps13
  go_wp2_with fail
  refine (alive2_any _).mono ?_
  rintro e w1 ⟨rfl, hb⟩
  have K0 := Blk.on (g := w.heap.size) (t := 50) (cs := #[.int .i64 k, .int .i64 id, .int .i64 u, .int .i64 v, .int .i64 q, .int .i64 a]) (by repeat (first | exact Blk.at_ _ _ _ (by simp) | refine Blk.alloc ?_ _)) hb
  have HB := below_after ((Below.refl w.heap.size w).alloc (Nat.le_refl _) _) hb (by simp)
  have c0 := K0.c
  have z0 := K0.lt
  clear hb
  go_wp2_with fail
  refine (rreq_no ⟨k, id, u, v, q, a⟩ HM.out _).mono ?_
  rintro e w2 ⟨rfl, hb⟩
  have HB := below_after HB hb HB.size
  clear hb c0 z0
  go_wp2_with fail
  go_ret
  exact ⟨rfl, HB⟩

set_option maxRecDepth 100000 in
set_option maxHeartbeats 1000000 in
theorem turned_early (k id u v q a at_ by_ : Int) (hok : Req.ok ⟨k, id, u, v, q, a⟩) (hm : Req.may ⟨k, id, u, v, q, a⟩ = true) (h : at_ < 0 ∨ ((¬ at_ < 0) ∧ by_ = 0)) (w : World) : Calls Try.prog 13 #[.agg #[.int .i64 k, .int .i64 id, .int .i64 u, .int .i64 v, .int .i64 q, .int .i64 a], .int .i64 at_, .int .u8 by_] w fun e w' => e = .returned (.bool true) ∧ Below w.heap.size w w' := by
  have HM := Lib.hid hm
  have HOK := Lib.hid hok
  clear hm hok
  rcases h with h | ⟨h, rfl⟩
  all_goals
    go_enter Try.func13, Try.ntmps13
    go_wp2_with fail
    refine (alive2_any _).mono ?_
    rintro e w1 ⟨rfl, hb⟩
    have K0 := Blk.on (g := w.heap.size) (t := 50) (cs := #[.int .i64 k, .int .i64 id, .int .i64 u, .int .i64 v, .int .i64 q, .int .i64 a]) (by repeat (first | exact Blk.at_ _ _ _ (by simp) | refine Blk.alloc ?_ _)) hb
    have HB := below_after ((Below.refl w.heap.size w).alloc (Nat.le_refl _) _) hb (by simp)
    have c0 := K0.c
    have z0 := K0.lt
    clear hb
    go_wp2_with fail
    refine (rreq_yes ⟨k, id, u, v, q, a⟩ HOK.out HM.out _).mono ?_
    rintro e w2 ⟨x, rfl, _, hb⟩
    have HB := below_after HB hb HB.size
    clear hb c0 z0
    go_wp2_with fail
    go_ret
    exact ⟨rfl, HB⟩

set_option maxRecDepth 100000 in
set_option maxHeartbeats 1000000 in
theorem turned_main (k id u v q a : Int) (at_ by_ : Nat) (hok : Req.ok ⟨k, id, u, v, q, a⟩) (hm : Req.may ⟨k, id, u, v, q, a⟩ = true) (hat : (at_ : Int) ≤ 9223372036854775807) (hby0 : 0 < by_) (hby : by_ < 256) (w : World) : Calls Try.prog 13 #[.agg #[.int .i64 k, .int .i64 id, .int .i64 u, .int .i64 v, .int .i64 q, .int .i64 a], .int .i64 at_, .int .u8 by_] w fun e w' => e = .returned (.bool true) ∧ Below w.heap.size w w' := by
  have hlen := bytes_len hok
  have hpos := bytes_pos ⟨k, id, u, v, q, a⟩
  have hbyt : ∀ d ∈ Req.bytes ⟨k, id, u, v, q, a⟩, d < 256 := encs_byte _
  have HTL := Lib.hid (fun l hl => turned_law (r := ⟨k, id, u, v, q, a⟩) (l := l) hl)
  have HM := Lib.hid hm
  have HOK := Lib.hid hok
  have hbz : ((by_ : Int) == 0) = false := by simp; omega
  have hat0 : ¬ (at_ : Int) < 0 := by omega
  clear hm hok
  generalize hbs : Req.bytes ⟨k, id, u, v, q, a⟩ = bs at HTL hlen hbyt hpos
  have HBS := Lib.hid hbs
  have HBY := Lib.hid hbyt
  obtain ⟨n, hn⟩ : ∃ n, n = bs.length := ⟨_, rfl⟩
  rw [← hn] at hlen hpos
  have HN := Lib.hid hn
  obtain ⟨j, hj⟩ : ∃ j : Nat, (at_ : Int) % (n : Int) = (j : Int) := ⟨at_ % n, by simp⟩
  have hjn : j < n := by have := Int.emod_lt_of_pos (at_ : Int) (show 0 < (n : Int) by omega); omega
  clear hbs hbyt hn
  go_enter Try.func13, Try.ntmps13
  go_wp2_with fail
  refine (alive2_any _).mono ?_
  rintro e w1 ⟨rfl, hb⟩
  have K0 := Blk.on (g := w.heap.size) (t := 50) (cs := #[.int .i64 k, .int .i64 id, .int .i64 u, .int .i64 v, .int .i64 q, .int .i64 a]) (by repeat (first | exact Blk.at_ _ _ _ (by simp) | refine Blk.alloc ?_ _)) hb
  have HB := below_after ((Below.refl w.heap.size w).alloc (Nat.le_refl _) _) hb (by simp)
  have c0 := K0.c
  have z0 := K0.lt
  clear hb
  go_wp2_with fail
  refine (rreq_yes ⟨k, id, u, v, q, a⟩ HOK.out HM.out _).mono ?_
  rw [HBS.out, ← HN.out]
  rintro e w2 ⟨x, rfl, hown, hb⟩
  have hown := own_le hown (base' := w.heap.size + 1) (by have := HB.size; omega)
  obtain ⟨g, c, rfl⟩ := ownsRow_form hown hpos
  have hgl := hown.lt g rfl
  have K0 := K0.on hb
  have HB := below_after HB hb HB.size
  have hjl : j < bs.length := by have := HN.out; omega
  obtain ⟨d, hd⟩ : ∃ d, bs[j]? = some d := ⟨_, List.getElem?_eq_getElem hjl⟩
  have hc : w2.cell? ⟨g, j, none⟩ = some (.int .u8 (d : Nat)) := by rw [hown.cellAt j (by omega)]; simp [u8s, hd]
  have hf := hown.frozenAt j
  have hd256 : d < 256 := HBY.out _ (List.mem_of_getElem? hd)
  have hx := xor_byte hd256 hby
  have HOWN := Lib.hid hown
  have HD := Lib.hid hd
  have c0 := K0.c
  have z0 := K0.lt
  clear hb hown hd hjl
  go_wp2_with fail
  go_region
  have hown' := (HOWN.out.stored j (.int .u8 ((d ^^^ by_ : Nat) : Int))).1
  rw [show (u8s bs).set j (.int .u8 ((d ^^^ by_ : Nat) : Int)) = u8s (bs.set j (d ^^^ by_)) by simp [u8s, List.map_set]] at hown'
  have hR := Reads.of_own hown'
  have K1 := K0.far (p := ⟨g, j, none⟩) (by show _ ≠ g; omega) (.int .u8 ((d ^^^ by_ : Nat) : Int))
  have HB1 := HB.setCell (p := ⟨g, j, none⟩) (by show _ ≤ g; omega) (.int .u8 ((d ^^^ by_ : Nat) : Int))
  have hbb : ∀ x ∈ bs.set j (d ^^^ by_), x < 256 := fun x hx => by
    rcases List.mem_or_eq_of_mem_set hx with h | rfl
    · exact HBY.out x h
    · exact xor_lt hd256 hby
  have hne : bs.set j (d ^^^ by_) ≠ bs := fun e => by
    have := congrArg (·[j]?) e
    simp only [List.getElem?_set, HD.out] at this
    rw [if_pos trivial, if_pos (by have := HN.out; omega)] at this
    injection this with this
    exact xor_ne hby0 this
  have HLAW := Lib.hid (HTL.out _ hbb hne)
  have HBB := Lib.hid hbb
  clear hown' hbb hne c0 hc hf
  generalize bs.set j (d ^^^ by_) = l at hR HLAW HBB
  obtain ⟨⟨⟨k', id', u', v', q', a'⟩, e'⟩, hrr⟩ : ∃ r : Req × Int, r = readReq l := ⟨_, rfl⟩
  have HRR := Lib.hid hrr.symm
  clear hrr
  generalize hW : w2.setCell ⟨g, j, none⟩ (.int .u8 ((d ^^^ by_ : Nat) : Int)) = W at hR K1 HB1
  have HW := Lib.hid hW
  clear hW K0 HB hx z0
  have HR := Lib.hid hR
  have KK := Lib.hid (And.intro K1 HB1)
  have hn40 : n ≤ maxLen := by unfold maxLen; omega
  clear hR K1 HB1
  go_wp2_with fail
  refine (readreq_any (B := W.heap.size) (xs := l) W.drew (HR.out.drew) (Nat.le_refl W.heap.size) HBB.out hn40).mono ?_
  rw [HRR.out]
  rintro e w4 ⟨rfl, hb⟩
  have hb : Below W.heap.size W w4 := ⟨hb.os, hb.tape, hb.output, hb.size, hb.block⟩
  unfold Req.V
  have K1 := (KK.out.1.on (w' := w4) hb).alloc (.cells #[.int .i64 k', .int .i64 id', .int .i64 u', .int .i64 v', .int .i64 q', .int .i64 a'] 50)
  have K2 := Blk.new w4 50 #[.int .i64 k', .int .i64 id', .int .i64 u', .int .i64 v', .int .i64 q', .int .i64 a']
  have HB := KK.out.2.trans (hb.mono KK.out.2.size)
  have HB := HB.alloc HB.size (.cells #[.int .i64 k', .int .i64 id', .int .i64 u', .int .i64 v', .int .i64 q', .int .i64 a'] 50)
  have HR4 := Lib.hid ((HR.out.below (w' := w4) hb).alloc hb.size (.cells #[.int .i64 k', .int .i64 id', .int .i64 u', .int .i64 v', .int .i64 q', .int .i64 a'] 50))
  have hb4 : W.heap.size ≤ w4.heap.size + 1 := Nat.le_succ_of_le hb.size
  clear hb KK
  go_wp2_with fail
  refine (rreadreq_any (B := W.heap.size) (xs := l) _ HR4.out (by simp; omega) HBB.out hn40).mono ?_
  rw [HRR.out]
  rintro e w5 ⟨rfl, hb⟩
  unfold Req.V
  have K1 := (K1.on hb).alloc (.cells #[.int .i64 k', .int .i64 id', .int .i64 u', .int .i64 v', .int .i64 q', .int .i64 a'] 50)
  have K2 := (K2.on hb).alloc (.cells #[.int .i64 k', .int .i64 id', .int .i64 u', .int .i64 v', .int .i64 q', .int .i64 a'] 50)
  have HB := below_after HB hb HB.size
  have HB := HB.alloc HB.size (.cells #[.int .i64 k', .int .i64 id', .int .i64 u', .int .i64 v', .int .i64 q', .int .i64 a'] 50)
  have c1 := K1.c
  have c2 := K2.c
  have z1 := K1.lt
  have z2 := K2.lt
  clear hb HR4
  by_cases he : e' = 0
  · subst he
    have hne : (⟨k', id', u', v', q', a'⟩ : Req) ≠ ⟨k, id, u, v, q, a⟩ := by
      have := HLAW.out; rw [HRR.out] at this; simpa using this
    have HNE := Lib.hid hne
    clear hne
    go_wp2_with fail
    refine (wnum_any _ _).mono ?_
    rintro e w6 ⟨rfl, rfl⟩
    go_wp2_with fail
    refine (wnum_any _ _).mono ?_
    rintro e w6 ⟨rfl, rfl⟩
    go_wp2_with fail
    all_goals
      first
      | (go_ret; exact ⟨rfl, HB⟩)
      | (exfalso; subst_vars; exact HNE.out rfl)
      | (go_ret; subst_vars; exact ⟨rfl, HB⟩)
  · have he' : (e' != 0) = true := by simpa using he
    have he2 : (e' == 0) = false := by simpa using he
    clear he
    go_wp2_with fail
    refine (wnum_any _ _).mono ?_
    rintro e w6 ⟨rfl, rfl⟩
    go_wp2_with fail
    refine (wnum_any _ _).mono ?_
    rintro e w6 ⟨rfl, rfl⟩
    go_wp2_with fail
    go_ret
    exact ⟨rfl, HB⟩

theorem wireTurned_walk (r : Req) (at_ by_ : Int) (w : World) (hok : r.ok) (h1 : (Lit.int .i64 at_).wf = true) (h2 : (Lit.int .u8 by_).wf = true) : Calls Try.prog 13 #[r.V, .int .i64 at_, .int .u8 by_] w fun e w' => e = .returned (.bool true) ∧ Below w.heap.size w w' := by
  have b1 := bounds_i64 h1
  have b2 := bounds_u8 h2
  obtain ⟨k, id, u, v, q, a⟩ := r
  cases hm : Req.may ⟨k, id, u, v, q, a⟩
  · exact turned_no k id u v q a at_ by_ hm w
  by_cases h : at_ < 0 ∨ ((¬ at_ < 0) ∧ by_ = 0)
  · exact turned_early k id u v q a at_ by_ hok hm h w
  · obtain ⟨n, rfl⟩ : ∃ n : Nat, at_ = n := ⟨at_.toNat, by omega⟩
    obtain ⟨y, rfl⟩ : ∃ y : Nat, by_ = y := ⟨by_.toNat, by omega⟩
    exact turned_main k id u v q a n y hok hm b1.2 (by omega) (by omega) w


namespace wireTurned
set_option maxRecDepth 100000 in
theorem contract (H : Type) (enc : TypeId × Value → H) (W : World) (base : Nat) (args : Array Value) (ds gs : List (DataW H)) (before : List MemPlace)
    (hval : ∀ (j : Nat) t v, Try.f13.params[j]? = some t → args[j]? = some v → Value.okWide Try.prog W .any base t v)
    (hW : DataW.Whole enc Try.prog Try.f13.params.toList Rows.wireTurnedSpec.vars false W args.toList ds gs before) :
    Calls Try.prog 13 args W fun e W' => ∃ v, e = .returned v ∧ Rows.wireTurnedSpec.post enc Try.prog Try.f13 false true false false W args v W' := by
  have hWc := hW
  obtain ⟨p, q, hA0, hV, _, _, _⟩ := hW
  have hA : DataW.TrodAll enc Try.prog W 0 (fun _ => true) true Try.f13.params.toList args.toList ds p := hA0
  clear hA0
  rw [Try.params13] at hA hval
  obtain ⟨v0, vs0, d0, ds0, p0, q0, hargs, rfl, rfl, h0, r0⟩ := trodAll_cons hA
  obtain ⟨v1, vs1, d1, ds1, p1, q1, rfl, rfl, rfl, h1, r1⟩ := trodAll_cons r0
  obtain ⟨v2, vs2, d2, ds2, p2, q2, rfl, rfl, rfl, h2, r2⟩ := trodAll_cons r1
  obtain ⟨rfl, rfl, rfl⟩ := trodAll_nil r2
  obtain rfl : args = #[v0, v1, v2] := by cases args; simp_all
  obtain ⟨a0, rfl, wa0⟩ := open_req (hval 0 50 v0 rfl rfl) h0
  obtain ⟨a1, rfl, rfl, rfl, wa1⟩ := open_int Try.underlying3 (hval 1 3 v1 rfl rfl) h1
  obtain ⟨a2, rfl, rfl, rfl, wa2⟩ := open_int Try.underlying5 (hval 2 5 v2 rfl rfl) h2
  refine (wireTurned_walk a0 a1 a2 W wa0 wa1 wa2).mono fun e W' ⟨he, hb⟩ => ⟨_, he, ?_⟩
  exact post_true hWc rfl hb laidOut (readables (by kernel_rfl)) rfl Try.underlying4 (fun h => by subst h; rfl)

set_option maxRecDepth 100000 in
theorem lifted (os : Os) (started : os.Started) (H : Type) (enc : TypeId × Value → H) :
    ReturnsInHanded {} Try.checked os 13 .any (Rows.wireTurnedSpec.pre6 enc Try.prog Try.f13 Rows.wireTurnedRow.domain false) (Rows.wireTurnedSpec.post enc Try.prog Try.f13 false true false false) := by
  refine returnsInHanded_of_change (C := Try.checked) own started (by kernel_rfl) Try.func13
    (ChangeSpec.witness6 (enc := enc) (C := Try.checked) false ⟨#[], #[.agg #[.int .i64 0, .int .i64 0, .int .i64 0, .int .i64 0, .int .i64 0, .int .i64 0], .int .i64 0, .int .u8 0], []⟩ 8 (by kernel_rfl) (by kernel_rfl) (by kernel_rfl) (by kernel_rfl)) ?_
  intro W base args ds gs before hval hW _ _
  exact contract H enc W base args ds gs before hval hW

theorem proved : Rows.WireTurnedSaid :=
  OpenClaim.holds_of_wide 13 Try.f13 rfl rfl rfl rfl rfl rfl rfl ⟨rfl, rfl, rfl, rfl, rfl⟩ rfl rfl rfl rfl rfl (by kernel_rfl) Try.func13 (by kernel_rfl)
    (of_decide_eq_true (by kernel_rfl)) (by unfold Func.isWrapper; first | (rw [if_pos (by decide +kernel)]; kernel_rfl) | (rw [if_neg (by decide +kernel)]; exact ⟨rfl, rfl⟩))
    (fun os started H enc _ => lifted os started H enc)
end wireTurned
end Go.Proofs.Ytejijghghbicdaa
