/-
  WireCuts: a request's bytes, cut short or longer, are none's, and those of a reply neither; the call returns true and changes nothing that was in memory.
-/
import Derived.Test.YtejijghghbicdaaWireBig
import Derived.Test.YtejijghghbicdaaWireRes
import Derived.Test.YtejijghghbicdaaWireRead
import Derived.Test.YtejijghghbicdaaWireOpen
import Derived.Outline
namespace Go.Proofs.Ytejijghghbicdaa
open Go.ChangeShapes Go.WideShapes Go.ChangeAt Go.RowKit Go.Joins
set_option linter.unusedSimpArgs false
set_option linter.unusedVariables false

theorem own_cap_ {w : World} {b e n c : Nat} {A : Option Addr} {xs : List Value} (h : w.ownsRow b e 1 (.slice A n c) n xs) : n ≤ c ∧ c ≤ maxLen := by
  rcases h.2 with ⟨e, h0⟩ | ⟨g, cap, cur, e, _, _, h1, h2, _⟩
  · injection e with _ _ e3; subst h0 e3; exact ⟨Nat.le_refl _, Nat.zero_le _⟩
  · injection e with _ _ e3; subst e3; exact ⟨h1, h2⟩
theorem Reads.take_ {w : World} {B n k : Nat} {A : Option Addr} {xs : List Nat} (h : Reads w B 1 A n (u8s xs)) (hk : k ≤ n) : Reads w B 1 A k (u8s (xs.take k)) := by
  refine ⟨by have := h.1; simp at this ⊢; omega, fun h0 => ?_⟩
  obtain ⟨ad, e, hb, hc⟩ := h.2 (by omega)
  refine ⟨ad, e, hb, fun j u hu => hc j u ?_⟩
  have hj : j < k := by
    have := (List.getElem?_eq_some_iff.1 hu).1; simp at this; omega
  rw [← hu]; simp [u8s, List.getElem?_take, hj]
theorem readReq_cut {r : Req} (hok : r.ok) (hm : r.may = true) {k : Nat} (hk : k < r.bytes.length) : readReq (r.bytes.take k) = (Req.none_, 4) := by
  have hlen := bytes_len hok
  have h64 : ¬ 64 < (r.bytes.take k).length := by simp; omega
  have hby : ∀ d ∈ r.bytes.take k, d < 256 := fun d hd => encs_byte _ d (List.mem_of_mem_take hd)
  by_cases h : (readReq (r.bytes.take k)).2 = 0
  · exfalso
    obtain ⟨m', ok', e'⟩ := readReq_inv hby h
    have hne : r.bytes.drop k ≠ [] := by intro e; have := congrArg List.length e; simp at this; omega
    have h1 := readReq_more ok' m' hne
    rw [← e', List.take_append_drop, readReq_bytes hok hm] at h1
    have := congrArg Prod.snd h1
    simp only at this
    split at this <;> cases this
  · cases he : (rq (r.bytes.take k)).2.end_
    · exact readReq_end h64 he
    cases hy : (rq (r.bytes.take k)).1.may
    · exact readReq_may h64 hy
    · rw [readReq_yes h64 he hy] at h; exact absurd rfl h
theorem repRes_cut {r : Rep} (hok : r.ok) (hm : r.may = true) (hl : r.ps.length ≤ 1000000) {k : Nat} (hk : k < r.bytes.length) (hs : r.bytes.length ≤ 900000) : repRes (r.bytes.take k) = (Rep.none_, 4) := by
  unfold repRes
  have hne : r.bytes.drop k ≠ [] := by intro e; have := congrArg List.length e; simp at this; omega
  rw [readRep_cut hok hm hl (List.take_append_drop k r.bytes).symm hne (by simp; omega)]
theorem repRes_more {r : Rep} (hok : r.ok) (hm : r.may = true) (hl : r.ps.length ≤ 1000000) {q : List Nat} (hq : q ≠ []) : repRes (r.bytes ++ q) = (Rep.none_, 4) := by
  unfold repRes; rw [readRep_more hok hm hl hq]
theorem repRes_bytes {r : Rep} (hok : r.ok) (hm : r.may = true) (hl : r.ps.length ≤ 1000000) : repRes r.bytes = (r, 0) := by
  unfold repRes; rw [readRep_bytes hok hm hl]
theorem rreq_gen (r : Req) (hok : r.ok) (w : World) : Calls Try.prog 39 #[r.V] w fun en w' => ∃ v z, en = .returned (.tuple #[v, .int .i64 z]) ∧ Below w.heap.size w w' := by
  cases h : r.may
  · exact (rreq_no r h w).mono fun _ _ ⟨he, hb⟩ => ⟨_, _, he, hb⟩
  · exact (rreq_yes r hok h w).mono fun _ _ ⟨v, he, _, hb⟩ => ⟨_, _, he, hb⟩
theorem rep_bytes_len {r : Rep} (hok : r.ok) (hl : r.ps.length ≤ 200) : r.bytes.length ≤ 5000 := by
  have h1 := prBytes_len r.ps hok.2.2
  have h2 := enc_len10 (n := r.ps.length) (by omega)
  have h3 := encs_len ([r.id, r.e, bitI r.d].map nat0) (by intro y hy; simp at hy; rcases hy with rfl | rfl | rfl; exact nat0_w hok.1; exact nat0_w hok.2.1; exact nat0_w (in64_bit r.d))
  unfold Rep.bytes repBytes prsBytes
  simp at *; omega
theorem rep_bytes_pos (r : Rep) : 0 < r.bytes.length := by
  unfold Rep.bytes repBytes
  simp only [List.map_cons, encs_cons, List.length_append]
  have := enc_pos (nat0 r.id); omega

set_option maxRecDepth 100000 in
set_option maxHeartbeats 2000000 in
theorem cuts_long (k id u v q a i e cut : Int) (d : Bool) {A A2 : Option Addr} {m x3 m2 x4 : Nat} {ps : List Pr} (w : World) (hR : Reads w w.heap.size 2 A m (prCells ps)) (oa : Req.ok ⟨k, id, u, v, q, a⟩) (op : Rep.ok ⟨i, e, d, ps⟩) (hm : m ≤ 9223372036854775807) (hm2 : m2 ≤ 9223372036854775807) (h : 200 < m) : Calls Try.prog 16 #[.agg #[.int .i64 k, .int .i64 id, .int .i64 u, .int .i64 v, .int .i64 q, .int .i64 a], .agg #[.int .i64 i, .int .i64 e, .bool d, .slice A m x3], .int .i64 cut, .slice A2 m2 x4] w fun e w' => e = .returned (.bool true) ∧ Below w.heap.size w w' := by
  have HP := Lib.hid hR
  have HA := Lib.hid oa
  have HO := Lib.hid op
  clear hR oa op
  go_enter Try.func16, Try.ntmps16
  go_wp2_with fail
  refine (alive2_any _).mono ?_
  rintro en w1 ⟨rfl, hb⟩
  have K0 := Blk.on (g := w.heap.size) (t := 50) (cs := #[.int .i64 k, .int .i64 id, .int .i64 u, .int .i64 v, .int .i64 q, .int .i64 a]) (by repeat (first | exact Blk.at_ _ _ _ (by simp) | refine Blk.alloc ?_ _)) hb
  have K1 := Blk.on (g := w.heap.size + 1) (t := 59) (cs := #[.int .i64 i, .int .i64 e, .bool d, .slice A m x3]) (by repeat (first | exact Blk.at_ _ _ _ (by simp) | refine Blk.alloc ?_ _)) hb
  have HB : Below w.heap.size w w1 := by repeat (first | exact Below.refl _ _ | refine Below.setCell ?_ (by first | omega | (simp; done) | (simp; omega)) _ | refine Below.alloc ?_ (by first | omega | (simp; done) | (simp; omega)) _ | refine Below.drew ?_ | refine below_drewN ?_ _ | refine below_after ?_ (by assumption) (by first | omega | (simp; done) | (simp; omega)))
  have c0 := K0.c
  have z0 := K0.lt
  have c1 := K1.c
  have z1 := K1.lt
  clear hb
  go_wp2_with fail
  refine (rreq_gen ⟨k, id, u, v, q, a⟩ HA.out _).mono ?_
  rintro en w2 ⟨v2, z2, rfl, hb⟩
  have K0 := K0.on hb
  have K1 := K1.on hb
  have HB := below_after HB hb HB.size
  clear hb c0 z0 c1 z1
  have c0 := K0.c
  have z0 := K0.lt
  have c1 := K1.c
  have z1 := K1.lt
  go_wp2_with fail
  refine (rrep_gen (l := ps) i e d _ (HP.out.below HB) HB.size hm HO.out.1 HO.out.2.2).mono ?_
  rintro en w3 ⟨v3, z3, rfl, hb⟩
  have K0 := K0.on hb
  have K1 := K1.on hb
  have HB := below_after HB hb HB.size
  clear hb c0 z0 c1 z1
  have c0 := K0.c
  have z0 := K0.lt
  have c1 := K1.c
  have z1 := K1.lt
  go_wp2_with fail
  go_ret
  exact ⟨rfl, HB⟩

set_option maxRecDepth 100000 in
set_option maxHeartbeats 2000000 in
theorem cuts_noreq (k id u v q a i e cut : Int) (d : Bool) {A A2 : Option Addr} {m x3 m2 x4 : Nat} {ps : List Pr} (w : World) (hR : Reads w w.heap.size 2 A m (prCells ps)) (oa : Req.ok ⟨k, id, u, v, q, a⟩) (op : Rep.ok ⟨i, e, d, ps⟩) (hm : m ≤ 9223372036854775807) (hm2 : m2 ≤ 9223372036854775807) (h0 : ¬ 200 < m) (hma : Req.may ⟨k, id, u, v, q, a⟩ = false) : Calls Try.prog 16 #[.agg #[.int .i64 k, .int .i64 id, .int .i64 u, .int .i64 v, .int .i64 q, .int .i64 a], .agg #[.int .i64 i, .int .i64 e, .bool d, .slice A m x3], .int .i64 cut, .slice A2 m2 x4] w fun e w' => e = .returned (.bool true) ∧ Below w.heap.size w w' := by
  have HP := Lib.hid hR
  have HA := Lib.hid oa
  have HO := Lib.hid op
  clear hR oa op
  have HM := Lib.hid hma
  clear hma
  go_enter Try.func16, Try.ntmps16
  go_wp2_with fail
  refine (alive2_any _).mono ?_
  rintro en w1 ⟨rfl, hb⟩
  have K0 := Blk.on (g := w.heap.size) (t := 50) (cs := #[.int .i64 k, .int .i64 id, .int .i64 u, .int .i64 v, .int .i64 q, .int .i64 a]) (by repeat (first | exact Blk.at_ _ _ _ (by simp) | refine Blk.alloc ?_ _)) hb
  have K1 := Blk.on (g := w.heap.size + 1) (t := 59) (cs := #[.int .i64 i, .int .i64 e, .bool d, .slice A m x3]) (by repeat (first | exact Blk.at_ _ _ _ (by simp) | refine Blk.alloc ?_ _)) hb
  have HB : Below w.heap.size w w1 := by repeat (first | exact Below.refl _ _ | refine Below.setCell ?_ (by first | omega | (simp; done) | (simp; omega)) _ | refine Below.alloc ?_ (by first | omega | (simp; done) | (simp; omega)) _ | refine Below.drew ?_ | refine below_drewN ?_ _ | refine below_after ?_ (by assumption) (by first | omega | (simp; done) | (simp; omega)))
  have c0 := K0.c
  have z0 := K0.lt
  have c1 := K1.c
  have z1 := K1.lt
  clear hb
  go_wp2_with fail
  refine (rreq_no ⟨k, id, u, v, q, a⟩ HM.out _).mono ?_
  rintro en w2 ⟨rfl, hb⟩
  have K0 := K0.on hb
  have K1 := K1.on hb
  have HB := below_after HB hb HB.size
  clear hb c0 z0 c1 z1
  have c0 := K0.c
  have z0 := K0.lt
  have c1 := K1.c
  have z1 := K1.lt
  go_wp2_with fail
  refine (rrep_gen (l := ps) i e d _ (HP.out.below HB) HB.size hm HO.out.1 HO.out.2.2).mono ?_
  rintro en w3 ⟨v3, z3, rfl, hb⟩
  have K0 := K0.on hb
  have K1 := K1.on hb
  have HB := below_after HB hb HB.size
  clear hb c0 z0 c1 z1
  have c0 := K0.c
  have z0 := K0.lt
  have c1 := K1.c
  have z1 := K1.lt
  go_wp2_with fail
  go_ret
  exact ⟨rfl, HB⟩

set_option maxRecDepth 100000 in
set_option maxHeartbeats 2000000 in
theorem cuts_norep (k id u v q a i e cut : Int) (d : Bool) {A A2 : Option Addr} {m x3 m2 x4 : Nat} {ps : List Pr} (w : World) (hR : Reads w w.heap.size 2 A m (prCells ps)) (oa : Req.ok ⟨k, id, u, v, q, a⟩) (op : Rep.ok ⟨i, e, d, ps⟩) (hm : m ≤ 9223372036854775807) (hm2 : m2 ≤ 9223372036854775807) (h0 : ¬ 200 < m) (hma : Req.may ⟨k, id, u, v, q, a⟩ = true) (hmp : repB i e d ps = false) : Calls Try.prog 16 #[.agg #[.int .i64 k, .int .i64 id, .int .i64 u, .int .i64 v, .int .i64 q, .int .i64 a], .agg #[.int .i64 i, .int .i64 e, .bool d, .slice A m x3], .int .i64 cut, .slice A2 m2 x4] w fun e w' => e = .returned (.bool true) ∧ Below w.heap.size w w' := by
  have HP := Lib.hid hR
  have HA := Lib.hid oa
  have HO := Lib.hid op
  clear hR oa op
  have HM := Lib.hid hma
  have HN := Lib.hid hmp
  clear hma hmp
  go_enter Try.func16, Try.ntmps16
  go_wp2_with fail
  refine (alive2_any _).mono ?_
  rintro en w1 ⟨rfl, hb⟩
  have K0 := Blk.on (g := w.heap.size) (t := 50) (cs := #[.int .i64 k, .int .i64 id, .int .i64 u, .int .i64 v, .int .i64 q, .int .i64 a]) (by repeat (first | exact Blk.at_ _ _ _ (by simp) | refine Blk.alloc ?_ _)) hb
  have K1 := Blk.on (g := w.heap.size + 1) (t := 59) (cs := #[.int .i64 i, .int .i64 e, .bool d, .slice A m x3]) (by repeat (first | exact Blk.at_ _ _ _ (by simp) | refine Blk.alloc ?_ _)) hb
  have HB : Below w.heap.size w w1 := by repeat (first | exact Below.refl _ _ | refine Below.setCell ?_ (by first | omega | (simp; done) | (simp; omega)) _ | refine Below.alloc ?_ (by first | omega | (simp; done) | (simp; omega)) _ | refine Below.drew ?_ | refine below_drewN ?_ _ | refine below_after ?_ (by assumption) (by first | omega | (simp; done) | (simp; omega)))
  have c0 := K0.c
  have z0 := K0.lt
  have c1 := K1.c
  have z1 := K1.lt
  clear hb
  go_wp2_with fail
  refine (rreq_yes ⟨k, id, u, v, q, a⟩ HA.out HM.out _).mono ?_
  rintro en w2 ⟨v2, rfl, _, hb⟩
  have K0 := K0.on hb
  have K1 := K1.on hb
  have HB := below_after HB hb HB.size
  clear hb c0 z0 c1 z1
  have c0 := K0.c
  have z0 := K0.lt
  have c1 := K1.c
  have z1 := K1.lt
  go_wp2_with fail
  refine (rrepx_no (l := ps) i e d _ (HP.out.below HB) HB.size hm HN.out).mono ?_
  rintro en w3 ⟨rfl, hb⟩
  have K0 := K0.on hb
  have K1 := K1.on hb
  have HB := below_after HB hb HB.size
  clear hb c0 z0 c1 z1
  have c0 := K0.c
  have z0 := K0.lt
  have c1 := K1.c
  have z1 := K1.lt
  go_wp2_with fail
  go_ret
  exact ⟨rfl, HB⟩

set_option maxRecDepth 100000 in
set_option maxHeartbeats 2000000 in
theorem cuts_cut (k id u v q a i e cut : Int) (d : Bool) {A A2 : Option Addr} {m x3 m2 x4 : Nat} {ps : List Pr} (w : World) (hR : Reads w w.heap.size 2 A m (prCells ps)) (oa : Req.ok ⟨k, id, u, v, q, a⟩) (op : Rep.ok ⟨i, e, d, ps⟩) (hm : m ≤ 9223372036854775807) (hm2 : m2 ≤ 9223372036854775807) (h0 : ¬ 200 < m) (hma : Req.may ⟨k, id, u, v, q, a⟩ = true) (hmp : repB i e d ps = true) (hc : cut < 0) : Calls Try.prog 16 #[.agg #[.int .i64 k, .int .i64 id, .int .i64 u, .int .i64 v, .int .i64 q, .int .i64 a], .agg #[.int .i64 i, .int .i64 e, .bool d, .slice A m x3], .int .i64 cut, .slice A2 m2 x4] w fun e w' => e = .returned (.bool true) ∧ Below w.heap.size w w' := by
  have HP := Lib.hid hR
  have HA := Lib.hid oa
  have HO := Lib.hid op
  clear hR oa op
  have HM := Lib.hid hma
  have HN := Lib.hid hmp
  clear hma hmp
  go_enter Try.func16, Try.ntmps16
  go_wp2_with fail
  refine (alive2_any _).mono ?_
  rintro en w1 ⟨rfl, hb⟩
  have K0 := Blk.on (g := w.heap.size) (t := 50) (cs := #[.int .i64 k, .int .i64 id, .int .i64 u, .int .i64 v, .int .i64 q, .int .i64 a]) (by repeat (first | exact Blk.at_ _ _ _ (by simp) | refine Blk.alloc ?_ _)) hb
  have K1 := Blk.on (g := w.heap.size + 1) (t := 59) (cs := #[.int .i64 i, .int .i64 e, .bool d, .slice A m x3]) (by repeat (first | exact Blk.at_ _ _ _ (by simp) | refine Blk.alloc ?_ _)) hb
  have HB : Below w.heap.size w w1 := by repeat (first | exact Below.refl _ _ | refine Below.setCell ?_ (by first | omega | (simp; done) | (simp; omega)) _ | refine Below.alloc ?_ (by first | omega | (simp; done) | (simp; omega)) _ | refine Below.drew ?_ | refine below_drewN ?_ _ | refine below_after ?_ (by assumption) (by first | omega | (simp; done) | (simp; omega)))
  have c0 := K0.c
  have z0 := K0.lt
  have c1 := K1.c
  have z1 := K1.lt
  clear hb
  go_wp2_with fail
  refine (rreq_yes ⟨k, id, u, v, q, a⟩ HA.out HM.out _).mono ?_
  rintro en w2 ⟨v2, rfl, _, hb⟩
  have K0 := K0.on hb
  have K1 := K1.on hb
  have HB := below_after HB hb HB.size
  clear hb c0 z0 c1 z1
  have c0 := K0.c
  have z0 := K0.lt
  have c1 := K1.c
  have z1 := K1.lt
  go_wp2_with fail
  refine (rrep_yes (l := ps) i e d _ (HP.out.below HB) HB.size (by omega) HO.out.1 HO.out.2.2 HN.out).mono ?_
  rintro en w3 ⟨v3, rfl, _, hb⟩
  have K0 := K0.on hb
  have K1 := K1.on hb
  have HB := below_after HB hb HB.size
  clear hb c0 z0 c1 z1
  have c0 := K0.c
  have z0 := K0.lt
  have c1 := K1.c
  have z1 := K1.lt
  go_wp2_with fail
  go_ret
  exact ⟨rfl, HB⟩

set_option maxRecDepth 100000 in
set_option maxHeartbeats 2000000 in
theorem cuts_more (k id u v q a i e cut : Int) (d : Bool) {A A2 : Option Addr} {m x3 m2 x4 : Nat} {ps : List Pr} (w : World) (hR : Reads w w.heap.size 2 A m (prCells ps)) (oa : Req.ok ⟨k, id, u, v, q, a⟩) (op : Rep.ok ⟨i, e, d, ps⟩) (hm : m ≤ 9223372036854775807) (hm2 : m2 ≤ 9223372036854775807) (h0 : ¬ 200 < m) (hma : Req.may ⟨k, id, u, v, q, a⟩ = true) (hmp : repB i e d ps = true) (hc : ¬ cut < 0) (h100 : 100 < m2) : Calls Try.prog 16 #[.agg #[.int .i64 k, .int .i64 id, .int .i64 u, .int .i64 v, .int .i64 q, .int .i64 a], .agg #[.int .i64 i, .int .i64 e, .bool d, .slice A m x3], .int .i64 cut, .slice A2 m2 x4] w fun e w' => e = .returned (.bool true) ∧ Below w.heap.size w w' := by
  have HP := Lib.hid hR
  have HA := Lib.hid oa
  have HO := Lib.hid op
  clear hR oa op
  have HM := Lib.hid hma
  have HN := Lib.hid hmp
  clear hma hmp
  go_enter Try.func16, Try.ntmps16
  go_wp2_with fail
  refine (alive2_any _).mono ?_
  rintro en w1 ⟨rfl, hb⟩
  have K0 := Blk.on (g := w.heap.size) (t := 50) (cs := #[.int .i64 k, .int .i64 id, .int .i64 u, .int .i64 v, .int .i64 q, .int .i64 a]) (by repeat (first | exact Blk.at_ _ _ _ (by simp) | refine Blk.alloc ?_ _)) hb
  have K1 := Blk.on (g := w.heap.size + 1) (t := 59) (cs := #[.int .i64 i, .int .i64 e, .bool d, .slice A m x3]) (by repeat (first | exact Blk.at_ _ _ _ (by simp) | refine Blk.alloc ?_ _)) hb
  have HB : Below w.heap.size w w1 := by repeat (first | exact Below.refl _ _ | refine Below.setCell ?_ (by first | omega | (simp; done) | (simp; omega)) _ | refine Below.alloc ?_ (by first | omega | (simp; done) | (simp; omega)) _ | refine Below.drew ?_ | refine below_drewN ?_ _ | refine below_after ?_ (by assumption) (by first | omega | (simp; done) | (simp; omega)))
  have c0 := K0.c
  have z0 := K0.lt
  have c1 := K1.c
  have z1 := K1.lt
  clear hb
  go_wp2_with fail
  refine (rreq_yes ⟨k, id, u, v, q, a⟩ HA.out HM.out _).mono ?_
  rintro en w2 ⟨v2, rfl, _, hb⟩
  have K0 := K0.on hb
  have K1 := K1.on hb
  have HB := below_after HB hb HB.size
  clear hb c0 z0 c1 z1
  have c0 := K0.c
  have z0 := K0.lt
  have c1 := K1.c
  have z1 := K1.lt
  go_wp2_with fail
  refine (rrep_yes (l := ps) i e d _ (HP.out.below HB) HB.size (by omega) HO.out.1 HO.out.2.2 HN.out).mono ?_
  rintro en w3 ⟨v3, rfl, _, hb⟩
  have K0 := K0.on hb
  have K1 := K1.on hb
  have HB := below_after HB hb HB.size
  clear hb c0 z0 c1 z1
  have c0 := K0.c
  have z0 := K0.lt
  have c1 := K1.c
  have z1 := K1.lt
  go_wp2_with fail
  go_ret
  exact ⟨rfl, HB⟩

set_option maxRecDepth 100000 in
set_option maxHeartbeats 8000000 in
theorem cuts_main (k id u v q a i e : Int) (cut : Nat) (d : Bool) {A A2 : Option Addr} {m x3 m2 x4 : Nat} {ps : List Pr} {ys : List Nat} (w : World) (hR : Reads w w.heap.size 2 A m (prCells ps)) (hy : Reads w w.heap.size 1 A2 m2 (u8s ys)) (hys : ∀ x ∈ ys, x < 256) (oa : Req.ok ⟨k, id, u, v, q, a⟩) (op : Rep.ok ⟨i, e, d, ps⟩) (h0 : ¬ 200 < m) (hma : Req.may ⟨k, id, u, v, q, a⟩ = true) (hmp : repB i e d ps = true) (hcut : (cut : Int) ≤ 9223372036854775807) (h100 : ¬ 100 < m2) : Calls Try.prog 16 #[.agg #[.int .i64 k, .int .i64 id, .int .i64 u, .int .i64 v, .int .i64 q, .int .i64 a], .agg #[.int .i64 i, .int .i64 e, .bool d, .slice A m x3], .int .i64 cut, .slice A2 m2 x4] w fun e w' => e = .returned (.bool true) ∧ Below w.heap.size w w' := by
  have HP := Lib.hid hR
  have HY := Lib.hid hy
  have HA := Lib.hid oa
  have HO := Lib.hid op
  have HM := Lib.hid hma
  have HN := Lib.hid hmp
  have hpl := reads_plen hR
  have hyl : ys.length = m2 := by simpa using hy.1
  obtain ⟨bq, hbq⟩ : ∃ b, Req.bytes ⟨k, id, u, v, q, a⟩ = b := ⟨_, rfl⟩
  obtain ⟨bp, hbp⟩ : ∃ b, Rep.bytes ⟨i, e, d, ps⟩ = b := ⟨_, rfl⟩
  have lq : bq.length ≤ 40 := by rw [← hbq]; exact bytes_len oa
  have pq : 0 < bq.length := by rw [← hbq]; exact bytes_pos _
  have lp : bp.length ≤ 5000 := by rw [← hbp]; exact rep_bytes_len op (by show ps.length ≤ 200; omega)
  have pp : 0 < bp.length := by rw [← hbp]; exact rep_bytes_pos _
  have yq : ∀ x ∈ bq, x < 256 := by rw [← hbq]; exact encs_byte _
  have yp : ∀ x ∈ bp, x < 256 := by rw [← hbp]; exact rep_byte i e d ps
  obtain ⟨nq, hnq⟩ : ∃ n, bq.length = n := ⟨_, rfl⟩
  obtain ⟨np, hnp⟩ : ∃ n, bp.length = n := ⟨_, rfl⟩
  rw [hnq] at lq pq
  rw [hnp] at lp pp
  obtain ⟨kq, hkq⟩ : ∃ k : Nat, (k : Int) = (cut : Int) % (nq : Int) := ⟨cut % nq, by simp⟩
  have lkq : kq < nq := by have := Int.emod_lt_of_pos (cut : Int) (show 0 < (nq : Int) by omega); omega
  obtain ⟨kp, hkp⟩ : ∃ k : Nat, (k : Int) = (cut : Int) % (np : Int) := ⟨cut % np, by simp⟩
  have lkp : kp < np := by have := Int.emod_lt_of_pos (cut : Int) (show 0 < (np : Int) by omega); omega
  have R1 : readReq (bq.take kq) = (Req.none_, 4) := by rw [← hbq]; exact readReq_cut oa hma (by rw [hbq]; omega)
  have R3 : repRes (bp.take kp) = (Rep.none_, 4) := by rw [← hbp]; exact repRes_cut (r := ⟨i, e, d, ps⟩) op hmp (by show ps.length ≤ _; omega) (by rw [hbp]; omega) (by rw [hbp]; omega)
  have R2 : ys ≠ [] → readReq (bq ++ ys) = (Req.none_, if 64 < (bq ++ ys).length then 3 else 4) := fun h => by rw [← hbq]; exact readReq_more oa hma h
  have R2z : readReq bq = (⟨k, id, u, v, q, a⟩, 0) := by rw [← hbq]; exact readReq_bytes oa hma
  have R4 : ys ≠ [] → repRes (bp ++ ys) = (Rep.none_, 4) := fun h => by rw [← hbp]; exact repRes_more (r := ⟨i, e, d, ps⟩) op hmp (by show ps.length ≤ _; omega) h
  have R4z : repRes bp = (⟨i, e, d, ps⟩, 0) := by rw [← hbp]; exact repRes_bytes (r := ⟨i, e, d, ps⟩) op hmp (by show ps.length ≤ _; omega)
  obtain ⟨⟨⟨k2, id2, u2, v2, q2, a2⟩, f2⟩, hr2⟩ : ∃ r, readReq (bq ++ ys) = r := ⟨_, rfl⟩
  obtain ⟨⟨⟨i4, e4, d4, ps4⟩, f4⟩, hr4⟩ : ∃ r, repRes (bp ++ ys) = r := ⟨_, rfl⟩
  have F2 : (m2 = 0 ∧ f2 = 0) ∨ (0 < m2 ∧ f2 = if 64 < nq + m2 then 3 else 4) := by
    by_cases h : ys = []
    · left; subst h; rw [List.append_nil, R2z] at hr2; refine ⟨by simp at hyl; omega, ?_⟩; exact (congrArg Prod.snd hr2).symm
    · right; rw [R2 h] at hr2; refine ⟨by cases ys with | nil => exact absurd rfl h | cons _ _ => simp at hyl; omega, ?_⟩; have := (congrArg Prod.snd hr2).symm; simp only [List.length_append, hnq, hyl] at this; exact this
  have F4 : (m2 = 0 ∧ f4 = 0) ∨ (0 < m2 ∧ f4 = 4) := by
    by_cases h : ys = []
    · left; subst h; rw [List.append_nil, R4z] at hr4; refine ⟨by simp at hyl; omega, ?_⟩; exact (congrArg Prod.snd hr4).symm
    · right; rw [R4 h] at hr4; refine ⟨by cases ys with | nil => exact absurd rfl h | cons _ _ => simp at hyl; omega, ?_⟩; exact (congrArg Prod.snd hr4).symm
  have HQB := Lib.hid hbq
  have HPB := Lib.hid hbp
  have HNQ := Lib.hid hnq
  have HNP := Lib.hid hnp
  have Q1 := Lib.hid R1
  have Q3 := Lib.hid R3
  have Q2 := Lib.hid hr2
  have Q4 := Lib.hid hr4
  have G2 := Lib.hid F2
  have G4 := Lib.hid F4
  have YQ := Lib.hid yq
  have YP := Lib.hid yp
  have HYS := Lib.hid hys
  have hkq2 := hkq.symm
  have hkp2 := hkp.symm
  obtain ⟨i0, hi0, hz0, hz1, hz2⟩ := info_parts infoU8
  have hc0 : ¬ (cut : Int) < 0 := by omega
  have hcl : 0 ≤ (cut : Int) := by omega
  have HK := Lib.hid (And.intro hkq2 hkp2)
  clear hR hy oa op hma hmp hpl hyl hbq hbp yq yp hnq hnp R1 R2 R3 R4 R2z R4z hr2 hr4 F2 F4 hys hkq hkp hkq2 hkp2
  go_enter Try.func16, Try.ntmps16
  go_wp2_with fail
  refine (alive2_any _).mono ?_
  rintro en w1 ⟨rfl, hb⟩
  have K0 := Blk.on (g := w.heap.size) (t := 50) (cs := #[.int .i64 k, .int .i64 id, .int .i64 u, .int .i64 v, .int .i64 q, .int .i64 a]) (by repeat (first | exact Blk.at_ _ _ _ (by simp) | refine Blk.alloc ?_ _)) hb
  have K1 := Blk.on (g := w.heap.size + 1) (t := 59) (cs := #[.int .i64 i, .int .i64 e, .bool d, .slice A m x3]) (by repeat (first | exact Blk.at_ _ _ _ (by simp) | refine Blk.alloc ?_ _)) hb
  have HB : Below w.heap.size w w1 := by repeat (first | exact Below.refl _ _ | refine Below.setCell ?_ (by first | omega | (simp; done) | (simp; omega)) _ | refine Below.alloc ?_ (by first | omega | (simp; done) | (simp; omega)) _ | refine Below.drew ?_ | refine below_drewN ?_ _ | refine below_after ?_ (by assumption) (by first | omega | (simp; done) | (simp; omega)))
  have c0 := K0.c
  have z0 := K0.lt
  have c1 := K1.c
  have z1 := K1.lt
  clear hb
  go_wp2_with fail
  refine (rreq_yes ⟨k, id, u, v, q, a⟩ HA.out HM.out _).mono ?_
  rw [HQB.out, HNQ.out]
  rintro en w2 ⟨x2, rfl, hown, hb⟩
  obtain ⟨Aq, cq, rfl⟩ := own_form hown
  have hqc := own_cap_ hown
  unfold maxLen at hqc
  obtain ⟨hqc1, hqc2⟩ := hqc
  have RQ := Lib.hid (Reads.of_own hown)
  clear hown
  have K0 := K0.on hb
  have K1 := K1.on hb
  have HB := below_after HB hb HB.size
  clear hb c0 z0 c1 z1
  have c0 := K0.c
  have z0 := K0.lt
  have c1 := K1.c
  have z1 := K1.lt
  go_wp2_with fail
  refine (rrep_yes (l := ps) i e d _ (HP.out.below HB) HB.size (by omega) HO.out.1 HO.out.2.2 HN.out).mono ?_
  rw [show repBytes i e d ps = bp from HPB.out, HNP.out]
  rintro en w3 ⟨x3, rfl, hown, hb⟩
  obtain ⟨Ap, cp, rfl⟩ := own_form hown
  have hpc := own_cap_ hown
  unfold maxLen at hpc
  obtain ⟨hpc1, hpc2⟩ := hpc
  have RQ := Lib.hid ((RQ.out.below hb).more hb.size)
  have RP := Lib.hid (Reads.of_own hown)
  clear hown
  have hkq2 := HK.out.1
  have hkp2 := HK.out.2
  have K0 := K0.on hb
  have K1 := K1.on hb
  have HB := below_after HB hb HB.size
  clear hb c0 z0 c1 z1
  have c0 := K0.c
  have z0 := K0.lt
  have c1 := K1.c
  have z1 := K1.lt
  go_wp2_with fail
  clear c0 c1 z0 z1 K0 K1
  have HW3 := HB.size
  simp only [hkq2]
  refine (readreq_any _ (RQ.out.take_ (Nat.le_of_lt lkq)) (Nat.le_refl _) (fun x hx => YQ.out x (List.mem_of_mem_take hx)) (by unfold maxLen; omega)).mono ?_
  rw [Q1.out]
  rintro en w4 ⟨rfl, hb⟩
  unfold Req.none_ Req.V
  have hN3 : w3.heap.size ≤ w4.heap.size + 1 := Nat.le_succ_of_le hb.size
  have HB := below_after HB hb HB.size
  have HB := HB.alloc HB.size (.cells #[.int .i64 0, .int .i64 0, .int .i64 0, .int .i64 0, .int .i64 0, .int .i64 0] 50)
  have RQ := Lib.hid ((RQ.out.below hb).alloc hb.size (.cells #[.int .i64 0, .int .i64 0, .int .i64 0, .int .i64 0, .int .i64 0, .int .i64 0] 50))
  have RP := Lib.hid ((RP.out.below hb).alloc hb.size (.cells #[.int .i64 0, .int .i64 0, .int .i64 0, .int .i64 0, .int .i64 0, .int .i64 0] 50))
  clear hb
  have hw3 : w.heap.size ≤ w3.heap.size := HW3
  go_wp2_with (at_builtin; refine wpList_append_any _ rfl _ _ 22 rfl w3.heap.size 5 i0 (.int .u8 0) 1 1 Try.underlying22 hi0 hz0 hz1 hz2 rfl (by decide) _ _ _ rfl (World.ownsRow_nil _ _ _ _) w3.heap.size Aq nq cq (u8s bq) rfl RQ.out (u8s_one _) (by unfold maxLen; omega) (by omega) (by simp; omega) ?_)
  intro vaq waq hown hg _
  have hby : Below _ _ waq := (Below.refl _ _).grown hg (Nat.le_refl _) (by simp [Value.ownBlock])
  have HB := below_after HB hby HB.size
  have RQ := Lib.hid (RQ.out.below (hby.mono (by simp; omega)))
  have RP := Lib.hid (RP.out.below (hby.mono (by simp; omega)))
  have hN3 : w3.heap.size ≤ waq.heap.size := by have h1 := hby.size; simp at h1; omega
  have hown : waq.ownsRow w3.heap.size 5 1 vaq nq (u8s bq) := by simpa using hown
  have hown0 := hown
  clear hg hby
  go_wp2_with (at_builtin; refine wpList_append_any _ rfl _ _ 22 rfl w3.heap.size 5 i0 (.int .u8 0) 1 1 Try.underlying22 hi0 hz0 hz1 hz2 rfl (by decide) _ _ _ rfl hown w.heap.size A2 m2 x4 (u8s ys) rfl (HY.out.below HB) (u8s_one _) (by unfold maxLen; omega) (by omega) hN3 ?_)
  intro vbq wbq hown2 hg _
  have HB : Below w.heap.size w wbq := HB.grown hg HB.size (fun r hr => Nat.le_trans hw3 (hown0.lt r hr).1)
  have RQ := Lib.hid (RQ.out.grown hg hN3 (fun r hr => (hown0.lt r hr).1))
  have RP := Lib.hid (RP.out.grown hg hN3 (fun r hr => (hown0.lt r hr).1))
  have hN3 : w3.heap.size ≤ wbq.heap.size := Nat.le_trans hN3 hg.size
  rw [← u8s_append] at hown2
  obtain ⟨Dq, dcq, rfl⟩ := own_form hown2
  have HD := Lib.hid (Reads.of_own hown2)
  clear hown hown0 hown2 hg
  go_wp2_with fail
  refine (readreq_any _ HD.out (Nat.le_refl _) (fun x hx => (List.mem_append.1 hx).elim (YQ.out x) (HYS.out x)) (by first | omega | (unfold maxLen; omega))).mono ?_
  rw [Q2.out]
  rintro en w5 ⟨rfl, hb⟩
  unfold Req.V
  have HB := below_after HB hb HB.size
  have HB := HB.alloc HB.size (.cells #[.int .i64 k2, .int .i64 id2, .int .i64 u2, .int .i64 v2, .int .i64 q2, .int .i64 a2] 50)
  have RQ := Lib.hid ((RQ.out.below (hb.mono hN3)).alloc (Nat.le_trans hN3 hb.size) (.cells #[.int .i64 k2, .int .i64 id2, .int .i64 u2, .int .i64 v2, .int .i64 q2, .int .i64 a2] 50))
  have RP := Lib.hid ((RP.out.below (hb.mono hN3)).alloc (Nat.le_trans hN3 hb.size) (.cells #[.int .i64 k2, .int .i64 id2, .int .i64 u2, .int .i64 v2, .int .i64 q2, .int .i64 a2] 50))
  have hN3 : w3.heap.size ≤ w5.heap.size + 1 := by have := hb.size; omega
  clear hb
  clear HD
  have hkp2 := HK.out.2
  go_wp2_with fail
  simp only [hkp2]
  have hN3b := hN3
  refine (readrep_res (B := w3.heap.size) _ (RP.out.take_ (Nat.le_of_lt lkp)) (by simp; omega) (fun x hx => YP.out x (List.mem_of_mem_take hx)) (by omega)).mono ?_
  unfold RepRes
  rw [Q3.out]
  rintro en w6 ⟨A6, m6, c6, rfl, _, _, hb⟩
  unfold Rep.none_
  have hbs := hb.size
  have HB := below_after HB hb HB.size
  have HB := HB.alloc HB.size (.cells #[.int .i64 0, .int .i64 0, .bool false, .slice A6 m6 c6] 59)
  have RQ := Lib.hid ((RQ.out.below (hb.mono (by simp; omega))).alloc (by simp at hbs; omega) (.cells #[.int .i64 0, .int .i64 0, .bool false, .slice A6 m6 c6] 59))
  have RP := Lib.hid ((RP.out.below (hb.mono (by simp; omega))).alloc (by simp at hbs; omega) (.cells #[.int .i64 0, .int .i64 0, .bool false, .slice A6 m6 c6] 59))
  have hN3 : w3.heap.size ≤ w6.heap.size + 1 := by simp at hbs; omega
  clear hb hbs hN3b
  go_wp2_with (at_builtin; refine wpList_append_any _ rfl _ _ 22 rfl w3.heap.size 5 i0 (.int .u8 0) 1 1 Try.underlying22 hi0 hz0 hz1 hz2 rfl (by decide) _ _ _ rfl (World.ownsRow_nil _ _ _ _) w3.heap.size Ap np cp (u8s bp) rfl RP.out (u8s_one _) (by unfold maxLen; omega) (by omega) (by simp; omega) ?_)
  intro vap wap hown hg _
  have hby : Below _ _ wap := (Below.refl _ _).grown hg (Nat.le_refl _) (by simp [Value.ownBlock])
  have HB := below_after HB hby HB.size
  have RQ := Lib.hid (RQ.out.below (hby.mono (by simp; omega)))
  have RP := Lib.hid (RP.out.below (hby.mono (by simp; omega)))
  have hN3 : w3.heap.size ≤ wap.heap.size := by have h1 := hby.size; simp at h1; omega
  have hown : wap.ownsRow w3.heap.size 5 1 vap np (u8s bp) := by simpa using hown
  have hown0 := hown
  clear hg hby
  go_wp2_with (at_builtin; refine wpList_append_any _ rfl _ _ 22 rfl w3.heap.size 5 i0 (.int .u8 0) 1 1 Try.underlying22 hi0 hz0 hz1 hz2 rfl (by decide) _ _ _ rfl hown w.heap.size A2 m2 x4 (u8s ys) rfl (HY.out.below HB) (u8s_one _) (by unfold maxLen; omega) (by omega) hN3 ?_)
  intro vbp wbp hown2 hg _
  have HB : Below w.heap.size w wbp := HB.grown hg HB.size (fun r hr => Nat.le_trans hw3 (hown0.lt r hr).1)
  have RQ := Lib.hid (RQ.out.grown hg hN3 (fun r hr => (hown0.lt r hr).1))
  have RP := Lib.hid (RP.out.grown hg hN3 (fun r hr => (hown0.lt r hr).1))
  have hN3 : w3.heap.size ≤ wbp.heap.size := Nat.le_trans hN3 hg.size
  rw [← u8s_append] at hown2
  obtain ⟨Dp, dcp, rfl⟩ := own_form hown2
  have HD := Lib.hid (Reads.of_own hown2)
  clear hown hown0 hown2 hg
  go_wp2_with fail
  refine (readrep_res _ HD.out (Nat.le_refl _) (fun x hx => (List.mem_append.1 hx).elim (YP.out x) (HYS.out x)) (by first | omega | (unfold maxLen; omega))).mono ?_
  unfold RepRes
  rw [Q4.out]
  rintro en w7 ⟨A7, m7, c7, rfl, _, _, hb⟩
  skip
  have HB := below_after HB hb HB.size
  have HB := HB.alloc HB.size (.cells #[.int .i64 i4, .int .i64 e4, .bool d4, .slice A7 m7 c7] 59)
  have RQ := Lib.hid ((RQ.out.below (hb.mono hN3)).alloc (Nat.le_trans hN3 hb.size) (.cells #[.int .i64 i4, .int .i64 e4, .bool d4, .slice A7 m7 c7] 59))
  have RP := Lib.hid ((RP.out.below (hb.mono hN3)).alloc (Nat.le_trans hN3 hb.size) (.cells #[.int .i64 i4, .int .i64 e4, .bool d4, .slice A7 m7 c7] 59))
  have hN3 : w3.heap.size ≤ w7.heap.size + 1 := by have := hb.size; omega
  clear hb
  clear HD RQ RP
  rcases G2.out with ⟨hz, hf⟩ | ⟨hz, hf⟩
  · obtain rfl : f4 = 0 := by rcases G4.out with h | h <;> omega
    subst hz hf
    have h64 : ¬ 64 < (nq : Int) + 0 := by omega
    go_wp2_with fail
    refine (wnum_any _ _).mono ?_
    rintro en w9 ⟨rfl, rfl⟩
    go_wp2_with fail
    refine (wnum_any _ _).mono ?_
    rintro en w9 ⟨rfl, rfl⟩
    go_wp2_with fail
    refine (wnum_any _ _).mono ?_
    rintro en w9 ⟨rfl, rfl⟩
    go_wp2_with fail
    refine (wnum_any _ _).mono ?_
    rintro en w9 ⟨rfl, rfl⟩
    go_wp2_with fail
    go_ret
    exact ⟨rfl, HB⟩
  · obtain rfl : f4 = 4 := by rcases G4.out with h | h <;> omega
    have hzz : ((m2 : Int) == 0) = false := by simp; omega
    have hz0_ : 0 < (m2 : Int) := by omega
    by_cases h64 : 64 < nq + m2
    · rw [if_pos h64] at hf
      subst hf
      have h64' : 64 < (nq : Int) + (m2 : Int) := by omega
      clear h64
      go_wp2_with fail
      refine (wnum_any _ _).mono ?_
      rintro en w9 ⟨rfl, rfl⟩
      go_wp2_with fail
      refine (wnum_any _ _).mono ?_
      rintro en w9 ⟨rfl, rfl⟩
      go_wp2_with fail
      refine (wnum_any _ _).mono ?_
      rintro en w9 ⟨rfl, rfl⟩
      go_wp2_with fail
      refine (wnum_any _ _).mono ?_
      rintro en w9 ⟨rfl, rfl⟩
      go_wp2_with fail
      go_ret
      exact ⟨rfl, HB⟩
    · rw [if_neg h64] at hf
      subst hf
      have h64' : ¬ 64 < (nq : Int) + (m2 : Int) := by omega
      clear h64
      go_wp2_with fail
      refine (wnum_any _ _).mono ?_
      rintro en w9 ⟨rfl, rfl⟩
      go_wp2_with fail
      refine (wnum_any _ _).mono ?_
      rintro en w9 ⟨rfl, rfl⟩
      go_wp2_with fail
      refine (wnum_any _ _).mono ?_
      rintro en w9 ⟨rfl, rfl⟩
      go_wp2_with fail
      refine (wnum_any _ _).mono ?_
      rintro en w9 ⟨rfl, rfl⟩
      go_wp2_with fail
      go_ret
      exact ⟨rfl, HB⟩

theorem wireCuts_walk (r : Req) (p : Rep) (cut : Int) {A A2 : Option Addr} {m x3 m2 x4 : Nat} {ys : List Nat} (w : World) (hy : Reads w w.heap.size 1 A2 m2 (u8s ys)) (hys : ∀ x ∈ ys, x < 256) (hm2 : m2 ≤ maxLen) (oa : r.ok) (hR : Reads w w.heap.size 2 A m (prCells p.ps)) (op : p.ok) (hm : m ≤ maxLen) (hc : (Lit.int .i64 cut).wf = true) :
    Calls Try.prog 16 #[r.V, .agg #[.int .i64 p.id, .int .i64 p.e, .bool p.d, .slice A m x3], .int .i64 cut, .slice A2 m2 x4] w fun e w' => e = .returned (.bool true) ∧ Below w.heap.size w w' := by
  have b := bounds_i64 hc
  unfold maxLen at hm hm2
  obtain ⟨k, id, u, v, q, a⟩ := r
  obtain ⟨i, e, d, ps⟩ := p
  by_cases h0 : 200 < m
  · exact cuts_long k id u v q a i e cut d w hR oa op hm hm2 h0
  cases ma : Req.may ⟨k, id, u, v, q, a⟩
  · exact cuts_noreq k id u v q a i e cut d w hR oa op hm hm2 h0 ma
  cases mp : repB i e d ps
  · exact cuts_norep k id u v q a i e cut d w hR oa op hm hm2 h0 ma mp
  by_cases hcn : cut < 0
  · exact cuts_cut k id u v q a i e cut d w hR oa op hm hm2 h0 ma mp hcn
  by_cases h100 : 100 < m2
  · exact cuts_more k id u v q a i e cut d w hR oa op hm hm2 h0 ma mp hcn h100
  obtain ⟨n, rfl⟩ : ∃ n : Nat, cut = n := ⟨cut.toNat, by omega⟩
  exact cuts_main k id u v q a i e n d w hR hy hys oa op h0 ma mp b.2 h100


namespace wireCuts
set_option maxRecDepth 100000 in
theorem contract (H : Type) (enc : TypeId × Value → H) (W : World) (base : Nat) (args : Array Value) (ds gs : List (DataW H)) (before : List MemPlace)
    (hval : ∀ (j : Nat) t v, Try.f16.params[j]? = some t → args[j]? = some v → Value.okWide Try.prog W .any base t v)
    (hW : DataW.Whole enc Try.prog Try.f16.params.toList Rows.wireCutsSpec.vars false W args.toList ds gs before) :
    Calls Try.prog 16 args W fun e W' => ∃ v, e = .returned v ∧ Rows.wireCutsSpec.post enc Try.prog Try.f16 false true false false W args v W' := by
  have hWc := hW
  obtain ⟨p, q, hA0, hV, _, _, _⟩ := hW
  have hA : DataW.TrodAll enc Try.prog W 0 (fun _ => true) true Try.f16.params.toList args.toList ds p := hA0
  clear hA0
  rw [Try.params16] at hA hval
  obtain ⟨v0, vs0, d0, ds0, p0, q0, hargs, rfl, rfl, h0, r0⟩ := trodAll_cons hA
  obtain ⟨v1, vs1, d1, ds1, p1, q1, rfl, rfl, rfl, h1, r1⟩ := trodAll_cons r0
  obtain ⟨v2, vs2, d2, ds2, p2, q2, rfl, rfl, rfl, h2, r2⟩ := trodAll_cons r1
  obtain ⟨v3, vs3, d3, ds3, p3, q3, rfl, rfl, rfl, h3, r3⟩ := trodAll_cons r2
  obtain ⟨rfl, rfl, rfl⟩ := trodAll_nil r3
  obtain rfl : args = #[v0, v1, v2, v3] := by cases args; simp_all
  obtain ⟨a0, rfl, wa0⟩ := open_req (hval 0 50 v0 rfl rfl) h0
  obtain ⟨rr1, A1, n1, c1, rfl, hr1, ok1, hn1, hc1⟩ := open_rep (hval 1 59 v1 rfl rfl) h1
  obtain ⟨a2, rfl, rfl, rfl, wa2⟩ := open_int Try.underlying3 (hval 2 3 v2 rfl rfl) h2
  obtain ⟨A3, n3, c3, l3, rfl, hr3, hw3, hn3, hc3⟩ := open_u8s Try.underlying22 Try.underlying5 (by kernel_rfl) (hval 3 22 v3 rfl rfl) h3
  refine (wireCuts_walk a0 rr1 a2 W hr3 hw3 (Nat.le_trans hn3 hc3) wa0 hr1 ok1 (Nat.le_trans hn1 hc1) wa2).mono fun e W' ⟨he, hb⟩ => ⟨_, he, ?_⟩
  exact post_true hWc rfl hb laidOut (readables (by kernel_rfl)) rfl Try.underlying4 (fun h => by subst h; rfl)

set_option maxRecDepth 100000 in
theorem lifted (os : Os) (started : os.Started) (H : Type) (enc : TypeId × Value → H) :
    ReturnsInHanded {} Try.checked os 16 .any (Rows.wireCutsSpec.pre6 enc Try.prog Try.f16 Rows.wireCutsRow.domain false) (Rows.wireCutsSpec.post enc Try.prog Try.f16 false true false false) := by
  refine returnsInHanded_of_change (C := Try.checked) own started (by kernel_rfl) Try.func16
    (ChangeSpec.witness6 (enc := enc) (C := Try.checked) false ⟨#[], #[.agg #[.int .i64 0, .int .i64 0, .int .i64 0, .int .i64 0, .int .i64 0, .int .i64 0], .agg #[.int .i64 0, .int .i64 0, .bool false, .slice none 0 0], .int .i64 0, .slice none 0 0], []⟩ 8 (by kernel_rfl) (by kernel_rfl) (by kernel_rfl) (by kernel_rfl)) ?_
  intro W base args ds gs before hval hW _ _
  exact contract H enc W base args ds gs before hval hW

theorem proved : Rows.WireCutsSaid :=
  OpenClaim.holds_of_wide 16 Try.f16 rfl rfl rfl rfl rfl rfl rfl ⟨rfl, rfl, rfl, rfl, rfl⟩ rfl rfl rfl rfl rfl (by kernel_rfl) Try.func16 (by kernel_rfl)
    (of_decide_eq_true (by kernel_rfl)) (by unfold Func.isWrapper; first | (rw [if_pos (by decide +kernel)]; kernel_rfl) | (rw [if_neg (by decide +kernel)]; exact ⟨rfl, rfl⟩))
    (fun os started H enc _ => lifted os started H enc)
end wireCuts
end Go.Proofs.Ytejijghghbicdaa
