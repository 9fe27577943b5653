/-
  WireApart: unlike requests have unlike bytes, and unlike replies too; the call returns true and changes nothing that was in memory.
-/
import Derived.Test.YtejijghghbicdaaWireLaw
import Derived.Test.YtejijghghbicdaaWireReadRep
import Derived.Test.YtejijghghbicdaaWireSame
import Derived.Test.YtejijghghbicdaaWireOpen
import Derived.Test.YtejijghghbicdaaReqEq
import Derived.Outline
namespace Go.Proofs.Ytejijghghbicdaa
open Go.ChangeShapes Go.WideShapes Go.ChangeAt Go.RowKit Go.Joins
set_option linter.unusedSimpArgs false
set_option linter.unusedVariables false

theorem bool_of (p : Prop) : ∃ b : Bool, b = true ↔ p := (Classical.em p).elim (fun h => ⟨true, by simp [h]⟩) (fun h => ⟨false, by simp [h]⟩)
theorem req_inj {r r' : Req} (h : r.ok) (h' : r'.ok) (m : r.may = true) (m' : r'.may = true) (e : r.bytes = r'.bytes) : r = r' := by
  have h1 := readReq_bytes h m
  have h2 := readReq_bytes h' m'
  rw [e, h2] at h1
  exact (congrArg Prod.fst h1).symm
theorem rep_inj {r r' : Rep} (h : r.ok) (h' : r'.ok) (m : r.may = true) (m' : r'.may = true) (l : r.ps.length ≤ 1000000) (l' : r'.ps.length ≤ 1000000) (e : r.bytes = r'.bytes) : r = r' := by
  have h1 := readRep_bytes h m l
  have h2 := readRep_bytes h' m' l'
  rw [e, h2] at h1
  injection h1 with h1; exact h1.symm
theorem quiet_w {P : Program} {f : FuncId} {args : Array Value} {w : World} {n : Nat} {v : Value}
    (h : Calls P f args (w.drewN n) fun e w' => e = .returned v ∧ w.drewN n = w') : Calls P f args (w.drewN n) fun e w'' => e = .returned v ∧ ∃ m, w'' = w.drewN m :=
  h.mono fun _ _ ⟨he, hm⟩ => ⟨he, n, hm.symm⟩

set_option maxRecDepth 100000 in
set_option maxHeartbeats 2000000 in
theorem apart_early (k id u v q a k' id' u' v' q' a' i1 e1 i2 e2 : Int) (d1 d2 : Bool) {A A2 : Option Addr} {m x3 m2 x4 : Nat} (w : World) (hm : m ≤ maxLen) (hm2 : m2 ≤ maxLen) (h : 60 < m ∨ 60 < m2) : Calls Try.prog 9 #[.agg #[.int .i64 k, .int .i64 id, .int .i64 u, .int .i64 v, .int .i64 q, .int .i64 a], .agg #[.int .i64 k', .int .i64 id', .int .i64 u', .int .i64 v', .int .i64 q', .int .i64 a'], .agg #[.int .i64 i1, .int .i64 e1, .bool d1, .slice A m x3], .agg #[.int .i64 i2, .int .i64 e2, .bool d2, .slice A2 m2 x4]] w fun e w' => e = .returned (.bool true) ∧ Below w.heap.size w w' := by
  unfold maxLen at hm hm2
  by_cases h1 : 60 < m
  · clear h
    go_enter Try.func9, Try.ntmps9
    go_wp2_with fail
    refine (alive2_any _).mono ?_
    rintro en w1 ⟨rfl, hb⟩
    have K0 := Blk.on (g := w.heap.size) (t := 50) (cs := #[.int .i64 k, .int .i64 id, .int .i64 u, .int .i64 v, .int .i64 q, .int .i64 a]) (by repeat (first | exact Blk.at_ _ _ _ (by simp) | refine Blk.alloc ?_ _)) hb
    have K1 := Blk.on (g := w.heap.size + 1) (t := 50) (cs := #[.int .i64 k', .int .i64 id', .int .i64 u', .int .i64 v', .int .i64 q', .int .i64 a']) (by repeat (first | exact Blk.at_ _ _ _ (by simp) | refine Blk.alloc ?_ _)) hb
    have K2 := Blk.on (g := w.heap.size + 1 + 1) (t := 59) (cs := #[.int .i64 i1, .int .i64 e1, .bool d1, .slice A m x3]) (by repeat (first | exact Blk.at_ _ _ _ (by simp) | refine Blk.alloc ?_ _)) hb
    have K3 := Blk.on (g := w.heap.size + 1 + 1 + 1) (t := 59) (cs := #[.int .i64 i2, .int .i64 e2, .bool d2, .slice A2 m2 x4]) (by repeat (first | exact Blk.at_ _ _ _ (by simp) | refine Blk.alloc ?_ _)) hb
    have HB : Below w.heap.size w w1 := by repeat (first | exact Below.refl _ _ | refine Below.setCell ?_ (by first | omega | (simp; done) | (simp; omega)) _ | refine Below.alloc ?_ (by first | omega | (simp; done) | (simp; omega)) _ | refine Below.drew ?_ | refine below_drewN ?_ _ | refine below_after ?_ (by assumption) (by first | omega | (simp; done) | (simp; omega)))
    have c0 := K0.c
    have z0 := K0.lt
    have c1 := K1.c
    have z1 := K1.lt
    have c2 := K2.c
    have z2 := K2.lt
    have c3 := K3.c
    have z3 := K3.lt
    clear hb
    go_wp2_with fail
    go_ret
    exact ⟨rfl, HB⟩
  · have h2 : 60 < m2 := by omega
    clear h
    go_enter Try.func9, Try.ntmps9
    go_wp2_with fail
    refine (alive2_any _).mono ?_
    rintro en w1 ⟨rfl, hb⟩
    have K0 := Blk.on (g := w.heap.size) (t := 50) (cs := #[.int .i64 k, .int .i64 id, .int .i64 u, .int .i64 v, .int .i64 q, .int .i64 a]) (by repeat (first | exact Blk.at_ _ _ _ (by simp) | refine Blk.alloc ?_ _)) hb
    have K1 := Blk.on (g := w.heap.size + 1) (t := 50) (cs := #[.int .i64 k', .int .i64 id', .int .i64 u', .int .i64 v', .int .i64 q', .int .i64 a']) (by repeat (first | exact Blk.at_ _ _ _ (by simp) | refine Blk.alloc ?_ _)) hb
    have K2 := Blk.on (g := w.heap.size + 1 + 1) (t := 59) (cs := #[.int .i64 i1, .int .i64 e1, .bool d1, .slice A m x3]) (by repeat (first | exact Blk.at_ _ _ _ (by simp) | refine Blk.alloc ?_ _)) hb
    have K3 := Blk.on (g := w.heap.size + 1 + 1 + 1) (t := 59) (cs := #[.int .i64 i2, .int .i64 e2, .bool d2, .slice A2 m2 x4]) (by repeat (first | exact Blk.at_ _ _ _ (by simp) | refine Blk.alloc ?_ _)) hb
    have HB : Below w.heap.size w w1 := by repeat (first | exact Below.refl _ _ | refine Below.setCell ?_ (by first | omega | (simp; done) | (simp; omega)) _ | refine Below.alloc ?_ (by first | omega | (simp; done) | (simp; omega)) _ | refine Below.drew ?_ | refine below_drewN ?_ _ | refine below_after ?_ (by assumption) (by first | omega | (simp; done) | (simp; omega)))
    have c0 := K0.c
    have z0 := K0.lt
    have c1 := K1.c
    have z1 := K1.lt
    have c2 := K2.c
    have z2 := K2.lt
    have c3 := K3.c
    have z3 := K3.lt
    clear hb
    go_wp2_with fail
    go_ret
    exact ⟨rfl, HB⟩

set_option maxRecDepth 100000 in
set_option maxHeartbeats 4000000 in
theorem apart_nnnn (k id u v q a k' id' u' v' q' a' i1 e1 i2 e2 : Int) (d1 d2 : Bool) {A A2 : Option Addr} {m x3 m2 x4 : Nat} {ps qs : List Pr} (w : World) (hR : Reads w w.heap.size 2 A m (prCells ps)) (hR2 : Reads w w.heap.size 2 A2 m2 (prCells qs)) (h60 : ¬ 60 < m) (h602 : ¬ 60 < m2)
    (oa : Req.ok ⟨k, id, u, v, q, a⟩) (ob : Req.ok ⟨k', id', u', v', q', a'⟩) (op : Rep.ok ⟨i1, e1, d1, ps⟩) (oq : Rep.ok ⟨i2, e2, d2, qs⟩) (ma : Req.may ⟨k, id, u, v, q, a⟩ = false) (mb : Req.may ⟨k', id', u', v', q', a'⟩ = false) (mp : repB i1 e1 d1 ps = false) (mq : repB i2 e2 d2 qs = false) : Calls Try.prog 9 #[.agg #[.int .i64 k, .int .i64 id, .int .i64 u, .int .i64 v, .int .i64 q, .int .i64 a], .agg #[.int .i64 k', .int .i64 id', .int .i64 u', .int .i64 v', .int .i64 q', .int .i64 a'], .agg #[.int .i64 i1, .int .i64 e1, .bool d1, .slice A m x3], .agg #[.int .i64 i2, .int .i64 e2, .bool d2, .slice A2 m2 x4]] w fun e w' => e = .returned (.bool true) ∧ Below w.heap.size w w' := by
  have hpl := reads_plen hR
  have hql := reads_plen hR2
  have HP := Lib.hid hR
  have HQ := Lib.hid hR2
  have HA := Lib.hid oa
  have HBo := Lib.hid ob
  have HPo := Lib.hid op
  have HQo := Lib.hid oq
  have MA := Lib.hid ma
  have MB := Lib.hid mb
  have MP := Lib.hid mp
  have MQ := Lib.hid mq
  clear hR hR2 oa ob op oq ma mb mp mq hpl hql
  go_enter Try.func9, Try.ntmps9
  go_wp2_with fail
  refine (alive2_any _).mono ?_
  rintro en w1 ⟨rfl, hb⟩
  have K0 := Blk.on (g := w.heap.size) (t := 50) (cs := #[.int .i64 k, .int .i64 id, .int .i64 u, .int .i64 v, .int .i64 q, .int .i64 a]) (by repeat (first | exact Blk.at_ _ _ _ (by simp) | refine Blk.alloc ?_ _)) hb
  have K1 := Blk.on (g := w.heap.size + 1) (t := 50) (cs := #[.int .i64 k', .int .i64 id', .int .i64 u', .int .i64 v', .int .i64 q', .int .i64 a']) (by repeat (first | exact Blk.at_ _ _ _ (by simp) | refine Blk.alloc ?_ _)) hb
  have K2 := Blk.on (g := w.heap.size + 1 + 1) (t := 59) (cs := #[.int .i64 i1, .int .i64 e1, .bool d1, .slice A m x3]) (by repeat (first | exact Blk.at_ _ _ _ (by simp) | refine Blk.alloc ?_ _)) hb
  have K3 := Blk.on (g := w.heap.size + 1 + 1 + 1) (t := 59) (cs := #[.int .i64 i2, .int .i64 e2, .bool d2, .slice A2 m2 x4]) (by repeat (first | exact Blk.at_ _ _ _ (by simp) | refine Blk.alloc ?_ _)) hb
  have HB : Below w.heap.size w w1 := by repeat (first | exact Below.refl _ _ | refine Below.setCell ?_ (by first | omega | (simp; done) | (simp; omega)) _ | refine Below.alloc ?_ (by first | omega | (simp; done) | (simp; omega)) _ | refine Below.drew ?_ | refine below_drewN ?_ _ | refine below_after ?_ (by assumption) (by first | omega | (simp; done) | (simp; omega)))
  have c0 := K0.c
  have z0 := K0.lt
  have c1 := K1.c
  have z1 := K1.lt
  have c2 := K2.c
  have z2 := K2.lt
  have c3 := K3.c
  have z3 := K3.lt
  clear hb
  go_wp2_with fail
  refine (req_no ⟨k, id, u, v, q, a⟩ MA.out _).mono ?_
  rintro en wx ⟨rfl, hb⟩
  have K0 := K0.on hb
  have K1 := K1.on hb
  have K2 := K2.on hb
  have K3 := K3.on hb
  have HB := below_after HB hb HB.size
  clear hb c0 z0 c1 z1 c2 z2 c3 z3
  have c0 := K0.c
  have z0 := K0.lt
  have c1 := K1.c
  have z1 := K1.lt
  have c2 := K2.c
  have z2 := K2.lt
  have c3 := K3.c
  have z3 := K3.lt
  go_wp2_with fail
  refine (req_no ⟨k', id', u', v', q', a'⟩ MB.out _).mono ?_
  rintro en wy ⟨rfl, hb⟩
  have K0 := K0.on hb
  have K1 := K1.on hb
  have K2 := K2.on hb
  have K3 := K3.on hb
  have HB := below_after HB hb HB.size
  clear hb c0 z0 c1 z1 c2 z2 c3 z3
  have c0 := K0.c
  have z0 := K0.lt
  have c1 := K1.c
  have z1 := K1.lt
  have c2 := K2.c
  have z2 := K2.lt
  have c3 := K3.c
  have z3 := K3.lt
  go_wp2_with fail
  refine (rep_no (l := ps) i1 e1 d1 _ (HP.out.below HB) HB.size (by omega) MP.out).mono ?_
  rintro en wp ⟨rfl, hb⟩
  have K0 := K0.on hb
  have K1 := K1.on hb
  have K2 := K2.on hb
  have K3 := K3.on hb
  have HB := below_after HB hb HB.size
  clear hb c0 z0 c1 z1 c2 z2 c3 z3
  have c0 := K0.c
  have z0 := K0.lt
  have c1 := K1.c
  have z1 := K1.lt
  have c2 := K2.c
  have z2 := K2.lt
  have c3 := K3.c
  have z3 := K3.lt
  go_wp2_with fail
  refine (rep_no (l := qs) i2 e2 d2 _ (HQ.out.below HB) HB.size (by omega) MQ.out).mono ?_
  rintro en wq ⟨rfl, hb⟩
  have K0 := K0.on hb
  have K1 := K1.on hb
  have K2 := K2.on hb
  have K3 := K3.on hb
  have HB := below_after HB hb HB.size
  clear hb c0 z0 c1 z1 c2 z2 c3 z3
  have c0 := K0.c
  have z0 := K0.lt
  have c1 := K1.c
  have z1 := K1.lt
  have c2 := K2.c
  have z2 := K2.lt
  have c3 := K3.c
  have z3 := K3.lt
  go_wp2_with fail
  go_quiet ((go_at_call 35; exact quiet_w (wnum_any _ _)))
  obtain ⟨W, hW⟩ : ∃ W : World, W = wq.drewN nq := ⟨_, rfl⟩
  have HBW : Below w.heap.size w W := by rw [hW]; exact below_drewN HB _
  have K0 : Blk W (w.heap.size) 50 #[.int .i64 k, .int .i64 id, .int .i64 u, .int .i64 v, .int .i64 q, .int .i64 a] := by rw [hW]; exact K0
  have K1 : Blk W (w.heap.size + 1) 50 #[.int .i64 k', .int .i64 id', .int .i64 u', .int .i64 v', .int .i64 q', .int .i64 a'] := by rw [hW]; exact K1
  have K2 : Blk W (w.heap.size + 1 + 1) 59 #[.int .i64 i1, .int .i64 e1, .bool d1, .slice A m x3] := by rw [hW]; exact K2
  have K3 : Blk W (w.heap.size + 1 + 1 + 1) 59 #[.int .i64 i2, .int .i64 e2, .bool d2, .slice A2 m2 x4] := by rw [hW]; exact K3
  rw [← hW]
  clear hW c0 z0 c1 z1 c2 z2 c3 z3
  have c0 := K0.c
  have z0 := K0.lt
  have c1 := K1.c
  have z1 := K1.lt
  have c2 := K2.c
  have z2 := K2.lt
  have c3 := K3.c
  have z3 := K3.lt
  go_wp2_with fail
  go_quiet ((go_at_call 35; exact quiet_w (wnum_any _ _)))
  go_wp2_with fail
  go_ret
  exact ⟨rfl, below_drewN HBW _⟩

set_option maxRecDepth 100000 in
set_option maxHeartbeats 4000000 in
theorem apart_nnny (k id u v q a k' id' u' v' q' a' i1 e1 i2 e2 : Int) (d1 d2 : Bool) {A A2 : Option Addr} {m x3 m2 x4 : Nat} {ps qs : List Pr} (w : World) (hR : Reads w w.heap.size 2 A m (prCells ps)) (hR2 : Reads w w.heap.size 2 A2 m2 (prCells qs)) (h60 : ¬ 60 < m) (h602 : ¬ 60 < m2)
    (oa : Req.ok ⟨k, id, u, v, q, a⟩) (ob : Req.ok ⟨k', id', u', v', q', a'⟩) (op : Rep.ok ⟨i1, e1, d1, ps⟩) (oq : Rep.ok ⟨i2, e2, d2, qs⟩) (ma : Req.may ⟨k, id, u, v, q, a⟩ = false) (mb : Req.may ⟨k', id', u', v', q', a'⟩ = false) (mp : repB i1 e1 d1 ps = false) (mq : repB i2 e2 d2 qs = true) : Calls Try.prog 9 #[.agg #[.int .i64 k, .int .i64 id, .int .i64 u, .int .i64 v, .int .i64 q, .int .i64 a], .agg #[.int .i64 k', .int .i64 id', .int .i64 u', .int .i64 v', .int .i64 q', .int .i64 a'], .agg #[.int .i64 i1, .int .i64 e1, .bool d1, .slice A m x3], .agg #[.int .i64 i2, .int .i64 e2, .bool d2, .slice A2 m2 x4]] w fun e w' => e = .returned (.bool true) ∧ Below w.heap.size w w' := by
  have hpl := reads_plen hR
  have hql := reads_plen hR2
  have HP := Lib.hid hR
  have HQ := Lib.hid hR2
  have HA := Lib.hid oa
  have HBo := Lib.hid ob
  have HPo := Lib.hid op
  have HQo := Lib.hid oq
  have MA := Lib.hid ma
  have MB := Lib.hid mb
  have MP := Lib.hid mp
  have MQ := Lib.hid mq
  clear hR hR2 oa ob op oq ma mb mp mq hpl hql
  go_enter Try.func9, Try.ntmps9
  go_wp2_with fail
  refine (alive2_any _).mono ?_
  rintro en w1 ⟨rfl, hb⟩
  have K0 := Blk.on (g := w.heap.size) (t := 50) (cs := #[.int .i64 k, .int .i64 id, .int .i64 u, .int .i64 v, .int .i64 q, .int .i64 a]) (by repeat (first | exact Blk.at_ _ _ _ (by simp) | refine Blk.alloc ?_ _)) hb
  have K1 := Blk.on (g := w.heap.size + 1) (t := 50) (cs := #[.int .i64 k', .int .i64 id', .int .i64 u', .int .i64 v', .int .i64 q', .int .i64 a']) (by repeat (first | exact Blk.at_ _ _ _ (by simp) | refine Blk.alloc ?_ _)) hb
  have K2 := Blk.on (g := w.heap.size + 1 + 1) (t := 59) (cs := #[.int .i64 i1, .int .i64 e1, .bool d1, .slice A m x3]) (by repeat (first | exact Blk.at_ _ _ _ (by simp) | refine Blk.alloc ?_ _)) hb
  have K3 := Blk.on (g := w.heap.size + 1 + 1 + 1) (t := 59) (cs := #[.int .i64 i2, .int .i64 e2, .bool d2, .slice A2 m2 x4]) (by repeat (first | exact Blk.at_ _ _ _ (by simp) | refine Blk.alloc ?_ _)) hb
  have HB : Below w.heap.size w w1 := by repeat (first | exact Below.refl _ _ | refine Below.setCell ?_ (by first | omega | (simp; done) | (simp; omega)) _ | refine Below.alloc ?_ (by first | omega | (simp; done) | (simp; omega)) _ | refine Below.drew ?_ | refine below_drewN ?_ _ | refine below_after ?_ (by assumption) (by first | omega | (simp; done) | (simp; omega)))
  have c0 := K0.c
  have z0 := K0.lt
  have c1 := K1.c
  have z1 := K1.lt
  have c2 := K2.c
  have z2 := K2.lt
  have c3 := K3.c
  have z3 := K3.lt
  clear hb
  go_wp2_with fail
  refine (req_no ⟨k, id, u, v, q, a⟩ MA.out _).mono ?_
  rintro en wx ⟨rfl, hb⟩
  have K0 := K0.on hb
  have K1 := K1.on hb
  have K2 := K2.on hb
  have K3 := K3.on hb
  have HB := below_after HB hb HB.size
  clear hb c0 z0 c1 z1 c2 z2 c3 z3
  have c0 := K0.c
  have z0 := K0.lt
  have c1 := K1.c
  have z1 := K1.lt
  have c2 := K2.c
  have z2 := K2.lt
  have c3 := K3.c
  have z3 := K3.lt
  go_wp2_with fail
  refine (req_no ⟨k', id', u', v', q', a'⟩ MB.out _).mono ?_
  rintro en wy ⟨rfl, hb⟩
  have K0 := K0.on hb
  have K1 := K1.on hb
  have K2 := K2.on hb
  have K3 := K3.on hb
  have HB := below_after HB hb HB.size
  clear hb c0 z0 c1 z1 c2 z2 c3 z3
  have c0 := K0.c
  have z0 := K0.lt
  have c1 := K1.c
  have z1 := K1.lt
  have c2 := K2.c
  have z2 := K2.lt
  have c3 := K3.c
  have z3 := K3.lt
  go_wp2_with fail
  refine (rep_no (l := ps) i1 e1 d1 _ (HP.out.below HB) HB.size (by omega) MP.out).mono ?_
  rintro en wp ⟨rfl, hb⟩
  have K0 := K0.on hb
  have K1 := K1.on hb
  have K2 := K2.on hb
  have K3 := K3.on hb
  have HB := below_after HB hb HB.size
  clear hb c0 z0 c1 z1 c2 z2 c3 z3
  have c0 := K0.c
  have z0 := K0.lt
  have c1 := K1.c
  have z1 := K1.lt
  have c2 := K2.c
  have z2 := K2.lt
  have c3 := K3.c
  have z3 := K3.lt
  go_wp2_with fail
  refine (rep_yes (l := qs) i2 e2 d2 _ (HQ.out.below HB) HB.size (by omega) HQo.out.1 HQo.out.2.2 MQ.out).mono ?_
  rintro en wq ⟨xq, rfl, hown, hb⟩
  obtain ⟨nq_, hnq⟩ : ∃ n, n = (repBytes i2 e2 d2 qs).length := ⟨_, rfl⟩
  rw [← hnq] at hown
  obtain ⟨Aq, cq, rfl⟩ := own_form hown
  have K0 := K0.on hb
  have K1 := K1.on hb
  have K2 := K2.on hb
  have K3 := K3.on hb
  have HB := below_after HB hb HB.size
  have HRq := Lib.hid (Reads.of_own hown)
  clear hown hnq
  clear hb c0 z0 c1 z1 c2 z2 c3 z3
  have c0 := K0.c
  have z0 := K0.lt
  have c1 := K1.c
  have z1 := K1.lt
  have c2 := K2.c
  have z2 := K2.lt
  have c3 := K3.c
  have z3 := K3.lt
  go_wp2_with fail
  go_quiet ((go_at_call 35; exact quiet_w (wnum_any _ _)))
  obtain ⟨W, hW⟩ : ∃ W : World, W = wq.drewN nq := ⟨_, rfl⟩
  have HBW : Below w.heap.size w W := by rw [hW]; exact below_drewN HB _
  have K0 : Blk W (w.heap.size) 50 #[.int .i64 k, .int .i64 id, .int .i64 u, .int .i64 v, .int .i64 q, .int .i64 a] := by rw [hW]; exact K0
  have K1 : Blk W (w.heap.size + 1) 50 #[.int .i64 k', .int .i64 id', .int .i64 u', .int .i64 v', .int .i64 q', .int .i64 a'] := by rw [hW]; exact K1
  have K2 : Blk W (w.heap.size + 1 + 1) 59 #[.int .i64 i1, .int .i64 e1, .bool d1, .slice A m x3] := by rw [hW]; exact K2
  have K3 : Blk W (w.heap.size + 1 + 1 + 1) 59 #[.int .i64 i2, .int .i64 e2, .bool d2, .slice A2 m2 x4] := by rw [hW]; exact K3
  rw [← hW]
  clear hW c0 z0 c1 z1 c2 z2 c3 z3
  have c0 := K0.c
  have z0 := K0.lt
  have c1 := K1.c
  have z1 := K1.lt
  have c2 := K2.c
  have z2 := K2.lt
  have c3 := K3.c
  have z3 := K3.lt
  go_wp2_with fail
  go_quiet ((go_at_call 35; exact quiet_w (wnum_any _ _)))
  go_wp2_with fail
  go_ret
  exact ⟨rfl, below_drewN HBW _⟩

set_option maxRecDepth 100000 in
set_option maxHeartbeats 4000000 in
theorem apart_nnyn (k id u v q a k' id' u' v' q' a' i1 e1 i2 e2 : Int) (d1 d2 : Bool) {A A2 : Option Addr} {m x3 m2 x4 : Nat} {ps qs : List Pr} (w : World) (hR : Reads w w.heap.size 2 A m (prCells ps)) (hR2 : Reads w w.heap.size 2 A2 m2 (prCells qs)) (h60 : ¬ 60 < m) (h602 : ¬ 60 < m2)
    (oa : Req.ok ⟨k, id, u, v, q, a⟩) (ob : Req.ok ⟨k', id', u', v', q', a'⟩) (op : Rep.ok ⟨i1, e1, d1, ps⟩) (oq : Rep.ok ⟨i2, e2, d2, qs⟩) (ma : Req.may ⟨k, id, u, v, q, a⟩ = false) (mb : Req.may ⟨k', id', u', v', q', a'⟩ = false) (mp : repB i1 e1 d1 ps = true) (mq : repB i2 e2 d2 qs = false) : Calls Try.prog 9 #[.agg #[.int .i64 k, .int .i64 id, .int .i64 u, .int .i64 v, .int .i64 q, .int .i64 a], .agg #[.int .i64 k', .int .i64 id', .int .i64 u', .int .i64 v', .int .i64 q', .int .i64 a'], .agg #[.int .i64 i1, .int .i64 e1, .bool d1, .slice A m x3], .agg #[.int .i64 i2, .int .i64 e2, .bool d2, .slice A2 m2 x4]] w fun e w' => e = .returned (.bool true) ∧ Below w.heap.size w w' := by
  have hpl := reads_plen hR
  have hql := reads_plen hR2
  have HP := Lib.hid hR
  have HQ := Lib.hid hR2
  have HA := Lib.hid oa
  have HBo := Lib.hid ob
  have HPo := Lib.hid op
  have HQo := Lib.hid oq
  have MA := Lib.hid ma
  have MB := Lib.hid mb
  have MP := Lib.hid mp
  have MQ := Lib.hid mq
  clear hR hR2 oa ob op oq ma mb mp mq hpl hql
  go_enter Try.func9, Try.ntmps9
  go_wp2_with fail
  refine (alive2_any _).mono ?_
  rintro en w1 ⟨rfl, hb⟩
  have K0 := Blk.on (g := w.heap.size) (t := 50) (cs := #[.int .i64 k, .int .i64 id, .int .i64 u, .int .i64 v, .int .i64 q, .int .i64 a]) (by repeat (first | exact Blk.at_ _ _ _ (by simp) | refine Blk.alloc ?_ _)) hb
  have K1 := Blk.on (g := w.heap.size + 1) (t := 50) (cs := #[.int .i64 k', .int .i64 id', .int .i64 u', .int .i64 v', .int .i64 q', .int .i64 a']) (by repeat (first | exact Blk.at_ _ _ _ (by simp) | refine Blk.alloc ?_ _)) hb
  have K2 := Blk.on (g := w.heap.size + 1 + 1) (t := 59) (cs := #[.int .i64 i1, .int .i64 e1, .bool d1, .slice A m x3]) (by repeat (first | exact Blk.at_ _ _ _ (by simp) | refine Blk.alloc ?_ _)) hb
  have K3 := Blk.on (g := w.heap.size + 1 + 1 + 1) (t := 59) (cs := #[.int .i64 i2, .int .i64 e2, .bool d2, .slice A2 m2 x4]) (by repeat (first | exact Blk.at_ _ _ _ (by simp) | refine Blk.alloc ?_ _)) hb
  have HB : Below w.heap.size w w1 := by repeat (first | exact Below.refl _ _ | refine Below.setCell ?_ (by first | omega | (simp; done) | (simp; omega)) _ | refine Below.alloc ?_ (by first | omega | (simp; done) | (simp; omega)) _ | refine Below.drew ?_ | refine below_drewN ?_ _ | refine below_after ?_ (by assumption) (by first | omega | (simp; done) | (simp; omega)))
  have c0 := K0.c
  have z0 := K0.lt
  have c1 := K1.c
  have z1 := K1.lt
  have c2 := K2.c
  have z2 := K2.lt
  have c3 := K3.c
  have z3 := K3.lt
  clear hb
  go_wp2_with fail
  refine (req_no ⟨k, id, u, v, q, a⟩ MA.out _).mono ?_
  rintro en wx ⟨rfl, hb⟩
  have K0 := K0.on hb
  have K1 := K1.on hb
  have K2 := K2.on hb
  have K3 := K3.on hb
  have HB := below_after HB hb HB.size
  clear hb c0 z0 c1 z1 c2 z2 c3 z3
  have c0 := K0.c
  have z0 := K0.lt
  have c1 := K1.c
  have z1 := K1.lt
  have c2 := K2.c
  have z2 := K2.lt
  have c3 := K3.c
  have z3 := K3.lt
  go_wp2_with fail
  refine (req_no ⟨k', id', u', v', q', a'⟩ MB.out _).mono ?_
  rintro en wy ⟨rfl, hb⟩
  have K0 := K0.on hb
  have K1 := K1.on hb
  have K2 := K2.on hb
  have K3 := K3.on hb
  have HB := below_after HB hb HB.size
  clear hb c0 z0 c1 z1 c2 z2 c3 z3
  have c0 := K0.c
  have z0 := K0.lt
  have c1 := K1.c
  have z1 := K1.lt
  have c2 := K2.c
  have z2 := K2.lt
  have c3 := K3.c
  have z3 := K3.lt
  go_wp2_with fail
  refine (rep_yes (l := ps) i1 e1 d1 _ (HP.out.below HB) HB.size (by omega) HPo.out.1 HPo.out.2.2 MP.out).mono ?_
  rintro en wp ⟨xp, rfl, hown, hb⟩
  obtain ⟨np, hnp⟩ : ∃ n, n = (repBytes i1 e1 d1 ps).length := ⟨_, rfl⟩
  rw [← hnp] at hown
  obtain ⟨Ap, cp, rfl⟩ := own_form hown
  have K0 := K0.on hb
  have K1 := K1.on hb
  have K2 := K2.on hb
  have K3 := K3.on hb
  have HB := below_after HB hb HB.size
  have HRp := Lib.hid (Reads.of_own hown)
  clear hown hnp
  clear hb c0 z0 c1 z1 c2 z2 c3 z3
  have c0 := K0.c
  have z0 := K0.lt
  have c1 := K1.c
  have z1 := K1.lt
  have c2 := K2.c
  have z2 := K2.lt
  have c3 := K3.c
  have z3 := K3.lt
  go_wp2_with fail
  refine (rep_no (l := qs) i2 e2 d2 _ (HQ.out.below HB) HB.size (by omega) MQ.out).mono ?_
  rintro en wq ⟨rfl, hb⟩
  have K0 := K0.on hb
  have K1 := K1.on hb
  have K2 := K2.on hb
  have K3 := K3.on hb
  have HB := below_after HB hb HB.size
  have HRp := Lib.hid ((HRp.out.below hb).more hb.size)
  clear hb c0 z0 c1 z1 c2 z2 c3 z3
  have c0 := K0.c
  have z0 := K0.lt
  have c1 := K1.c
  have z1 := K1.lt
  have c2 := K2.c
  have z2 := K2.lt
  have c3 := K3.c
  have z3 := K3.lt
  go_wp2_with fail
  go_quiet ((go_at_call 35; exact quiet_w (wnum_any _ _)))
  obtain ⟨W, hW⟩ : ∃ W : World, W = wq.drewN nq := ⟨_, rfl⟩
  have HBW : Below w.heap.size w W := by rw [hW]; exact below_drewN HB _
  have K0 : Blk W (w.heap.size) 50 #[.int .i64 k, .int .i64 id, .int .i64 u, .int .i64 v, .int .i64 q, .int .i64 a] := by rw [hW]; exact K0
  have K1 : Blk W (w.heap.size + 1) 50 #[.int .i64 k', .int .i64 id', .int .i64 u', .int .i64 v', .int .i64 q', .int .i64 a'] := by rw [hW]; exact K1
  have K2 : Blk W (w.heap.size + 1 + 1) 59 #[.int .i64 i1, .int .i64 e1, .bool d1, .slice A m x3] := by rw [hW]; exact K2
  have K3 : Blk W (w.heap.size + 1 + 1 + 1) 59 #[.int .i64 i2, .int .i64 e2, .bool d2, .slice A2 m2 x4] := by rw [hW]; exact K3
  rw [← hW]
  clear hW c0 z0 c1 z1 c2 z2 c3 z3
  have c0 := K0.c
  have z0 := K0.lt
  have c1 := K1.c
  have z1 := K1.lt
  have c2 := K2.c
  have z2 := K2.lt
  have c3 := K3.c
  have z3 := K3.lt
  go_wp2_with fail
  go_quiet ((go_at_call 35; exact quiet_w (wnum_any _ _)))
  go_wp2_with fail
  go_ret
  exact ⟨rfl, below_drewN HBW _⟩

set_option maxRecDepth 100000 in
set_option maxHeartbeats 4000000 in
theorem apart_nnyy (k id u v q a k' id' u' v' q' a' i1 e1 i2 e2 : Int) (d1 d2 : Bool) {A A2 : Option Addr} {m x3 m2 x4 : Nat} {ps qs : List Pr} (w : World) (hR : Reads w w.heap.size 2 A m (prCells ps)) (hR2 : Reads w w.heap.size 2 A2 m2 (prCells qs)) (h60 : ¬ 60 < m) (h602 : ¬ 60 < m2)
    (oa : Req.ok ⟨k, id, u, v, q, a⟩) (ob : Req.ok ⟨k', id', u', v', q', a'⟩) (op : Rep.ok ⟨i1, e1, d1, ps⟩) (oq : Rep.ok ⟨i2, e2, d2, qs⟩) (ma : Req.may ⟨k, id, u, v, q, a⟩ = false) (mb : Req.may ⟨k', id', u', v', q', a'⟩ = false) (mp : repB i1 e1 d1 ps = true) (mq : repB i2 e2 d2 qs = true) : Calls Try.prog 9 #[.agg #[.int .i64 k, .int .i64 id, .int .i64 u, .int .i64 v, .int .i64 q, .int .i64 a], .agg #[.int .i64 k', .int .i64 id', .int .i64 u', .int .i64 v', .int .i64 q', .int .i64 a'], .agg #[.int .i64 i1, .int .i64 e1, .bool d1, .slice A m x3], .agg #[.int .i64 i2, .int .i64 e2, .bool d2, .slice A2 m2 x4]] w fun e w' => e = .returned (.bool true) ∧ Below w.heap.size w w' := by
  have hpl := reads_plen hR
  have hql := reads_plen hR2
  have HP := Lib.hid hR
  have HQ := Lib.hid hR2
  have HA := Lib.hid oa
  have HBo := Lib.hid ob
  have HPo := Lib.hid op
  have HQo := Lib.hid oq
  have MA := Lib.hid ma
  have MB := Lib.hid mb
  have MP := Lib.hid mp
  have MQ := Lib.hid mq
  obtain ⟨spq, hspq⟩ : ∃ s : Bool, s = true ↔ (⟨i1, e1, d1, ps⟩ : Rep) = ⟨i2, e2, d2, qs⟩ := bool_of _
  have HSP := Lib.hid (str_eq (b := spq) (xs := repBytes i1 e1 d1 ps) (ys := repBytes i2 e2 d2 qs) (rep_byte _ _ _ _) (rep_byte _ _ _ _) ⟨fun h => by have := hspq.1 h; injection this with x1 x2 x3 x4; rw [x1, x2, x3, x4], fun h => hspq.2 (rep_inj op oq mp mq (by show ps.length ≤ _; omega) (by show qs.length ≤ _; omega) h)⟩)
  have HSPQ := Lib.hid (show spq = true ↔ i1 = i2 ∧ e1 = e2 ∧ d1 = d2 ∧ ps = qs from ⟨fun h => by have := hspq.1 h; injection this with x1 x2 x3 x4; exact ⟨x1, x2, x3, x4⟩, fun h => hspq.2 (by rw [h.1, h.2.1, h.2.2.1, h.2.2.2])⟩)
  have hpp : (spq == spq) = true := by simp
  clear hspq
  clear hR hR2 oa ob op oq ma mb mp mq hpl hql
  go_enter Try.func9, Try.ntmps9
  go_wp2_with fail
  refine (alive2_any _).mono ?_
  rintro en w1 ⟨rfl, hb⟩
  have K0 := Blk.on (g := w.heap.size) (t := 50) (cs := #[.int .i64 k, .int .i64 id, .int .i64 u, .int .i64 v, .int .i64 q, .int .i64 a]) (by repeat (first | exact Blk.at_ _ _ _ (by simp) | refine Blk.alloc ?_ _)) hb
  have K1 := Blk.on (g := w.heap.size + 1) (t := 50) (cs := #[.int .i64 k', .int .i64 id', .int .i64 u', .int .i64 v', .int .i64 q', .int .i64 a']) (by repeat (first | exact Blk.at_ _ _ _ (by simp) | refine Blk.alloc ?_ _)) hb
  have K2 := Blk.on (g := w.heap.size + 1 + 1) (t := 59) (cs := #[.int .i64 i1, .int .i64 e1, .bool d1, .slice A m x3]) (by repeat (first | exact Blk.at_ _ _ _ (by simp) | refine Blk.alloc ?_ _)) hb
  have K3 := Blk.on (g := w.heap.size + 1 + 1 + 1) (t := 59) (cs := #[.int .i64 i2, .int .i64 e2, .bool d2, .slice A2 m2 x4]) (by repeat (first | exact Blk.at_ _ _ _ (by simp) | refine Blk.alloc ?_ _)) hb
  have HB : Below w.heap.size w w1 := by repeat (first | exact Below.refl _ _ | refine Below.setCell ?_ (by first | omega | (simp; done) | (simp; omega)) _ | refine Below.alloc ?_ (by first | omega | (simp; done) | (simp; omega)) _ | refine Below.drew ?_ | refine below_drewN ?_ _ | refine below_after ?_ (by assumption) (by first | omega | (simp; done) | (simp; omega)))
  have c0 := K0.c
  have z0 := K0.lt
  have c1 := K1.c
  have z1 := K1.lt
  have c2 := K2.c
  have z2 := K2.lt
  have c3 := K3.c
  have z3 := K3.lt
  clear hb
  go_wp2_with fail
  refine (req_no ⟨k, id, u, v, q, a⟩ MA.out _).mono ?_
  rintro en wx ⟨rfl, hb⟩
  have K0 := K0.on hb
  have K1 := K1.on hb
  have K2 := K2.on hb
  have K3 := K3.on hb
  have HB := below_after HB hb HB.size
  clear hb c0 z0 c1 z1 c2 z2 c3 z3
  have c0 := K0.c
  have z0 := K0.lt
  have c1 := K1.c
  have z1 := K1.lt
  have c2 := K2.c
  have z2 := K2.lt
  have c3 := K3.c
  have z3 := K3.lt
  go_wp2_with fail
  refine (req_no ⟨k', id', u', v', q', a'⟩ MB.out _).mono ?_
  rintro en wy ⟨rfl, hb⟩
  have K0 := K0.on hb
  have K1 := K1.on hb
  have K2 := K2.on hb
  have K3 := K3.on hb
  have HB := below_after HB hb HB.size
  clear hb c0 z0 c1 z1 c2 z2 c3 z3
  have c0 := K0.c
  have z0 := K0.lt
  have c1 := K1.c
  have z1 := K1.lt
  have c2 := K2.c
  have z2 := K2.lt
  have c3 := K3.c
  have z3 := K3.lt
  go_wp2_with fail
  refine (rep_yes (l := ps) i1 e1 d1 _ (HP.out.below HB) HB.size (by omega) HPo.out.1 HPo.out.2.2 MP.out).mono ?_
  rintro en wp ⟨xp, rfl, hown, hb⟩
  obtain ⟨np, hnp⟩ : ∃ n, n = (repBytes i1 e1 d1 ps).length := ⟨_, rfl⟩
  rw [← hnp] at hown
  obtain ⟨Ap, cp, rfl⟩ := own_form hown
  have K0 := K0.on hb
  have K1 := K1.on hb
  have K2 := K2.on hb
  have K3 := K3.on hb
  have HB := below_after HB hb HB.size
  have HRp := Lib.hid (Reads.of_own hown)
  clear hown hnp
  clear hb c0 z0 c1 z1 c2 z2 c3 z3
  have c0 := K0.c
  have z0 := K0.lt
  have c1 := K1.c
  have z1 := K1.lt
  have c2 := K2.c
  have z2 := K2.lt
  have c3 := K3.c
  have z3 := K3.lt
  go_wp2_with fail
  refine (rep_yes (l := qs) i2 e2 d2 _ (HQ.out.below HB) HB.size (by omega) HQo.out.1 HQo.out.2.2 MQ.out).mono ?_
  rintro en wq ⟨xq, rfl, hown, hb⟩
  obtain ⟨nq_, hnq⟩ : ∃ n, n = (repBytes i2 e2 d2 qs).length := ⟨_, rfl⟩
  rw [← hnq] at hown
  obtain ⟨Aq, cq, rfl⟩ := own_form hown
  have K0 := K0.on hb
  have K1 := K1.on hb
  have K2 := K2.on hb
  have K3 := K3.on hb
  have HB := below_after HB hb HB.size
  have HRp := Lib.hid ((HRp.out.below hb).more hb.size)
  have HRq := Lib.hid (Reads.of_own hown)
  clear hown hnq
  clear hb c0 z0 c1 z1 c2 z2 c3 z3
  have c0 := K0.c
  have z0 := K0.lt
  have c1 := K1.c
  have z1 := K1.lt
  have c2 := K2.c
  have z2 := K2.lt
  have c3 := K3.c
  have z3 := K3.lt
  go_wp2_with fail
  go_quiet ((go_at_call 35; exact quiet_w (wnum_any _ _)))
  obtain ⟨W, hW⟩ : ∃ W : World, W = wq.drewN nq := ⟨_, rfl⟩
  have HBW : Below w.heap.size w W := by rw [hW]; exact below_drewN HB _
  have K0 : Blk W (w.heap.size) 50 #[.int .i64 k, .int .i64 id, .int .i64 u, .int .i64 v, .int .i64 q, .int .i64 a] := by rw [hW]; exact K0
  have K1 : Blk W (w.heap.size + 1) 50 #[.int .i64 k', .int .i64 id', .int .i64 u', .int .i64 v', .int .i64 q', .int .i64 a'] := by rw [hW]; exact K1
  have K2 : Blk W (w.heap.size + 1 + 1) 59 #[.int .i64 i1, .int .i64 e1, .bool d1, .slice A m x3] := by rw [hW]; exact K2
  have K3 : Blk W (w.heap.size + 1 + 1 + 1) 59 #[.int .i64 i2, .int .i64 e2, .bool d2, .slice A2 m2 x4] := by rw [hW]; exact K3
  have HRp := Lib.hid (show Reads W wq.heap.size 1 Ap np (u8s (repBytes i1 e1 d1 ps)) by rw [hW]; exact HRp.out)
  have HRq := Lib.hid (show Reads W wq.heap.size 1 Aq nq_ (u8s (repBytes i2 e2 d2 qs)) by rw [hW]; exact HRq.out)
  have hWs : wq.heap.size ≤ W.heap.size := by rw [hW]; exact Nat.le_refl _
  rw [← hW]
  clear hW c0 z0 c1 z1 c2 z2 c3 z3
  have c0 := K0.c
  have z0 := K0.lt
  have c1 := K1.c
  have z1 := K1.lt
  have c2 := K2.c
  have z2 := K2.lt
  have c3 := K3.c
  have z3 := K3.lt
  go_wp2_with fail
  clear c0 c1 z0 z1 c2 c3
  have hsp := HSP.out
  refine wp_region_held_drew (S := (fun W' => Below W.heap.size W W' ∧ (∀ i, W'.cell? ⟨w.heap.size + 1 + 1, i, none⟩ = #[.int .i64 i1, .int .i64 e1, .bool d1, .slice A m x3][i]?) ∧ (∀ i, W'.cell? ⟨w.heap.size + 1 + 1 + 1, i, none⟩ = #[.int .i64 i2, .int .i64 e2, .bool d2, .slice A2 m2 x4][i]?) ∧ (convert 22 9 (.slice Ap np cp)).run Try.prog W' = .ok (.string (strOf (repBytes i1 e1 d1 ps))) W' ∧ (convert 22 9 (.slice Aq nq_ cq)).run Try.prog W' = .ok (.string (strOf (repBytes i2 e2 d2 qs))) W')) (by kernel_rfl) (⟨(Below.refl W.heap.size W).drew, (K2.below ((Below.refl W.heap.size W).drew) z2).c, (K3.below ((Below.refl W.heap.size W).drew) z3).c, run_str _ 22 9 5 Try.underlying22 Try.underlying5 Try.underlying9 (HRp.out.below (((Below.refl W.heap.size W).drew).mono hWs)), run_str _ 22 9 5 Try.underlying22 Try.underlying5 Try.underlying9 (HRq.out.below (((Below.refl W.heap.size W).drew).mono hWs))⟩) (fun hHeld => ?_)
  refine wpAnyH_take (i := 0) (v := ?_) rfl (by kernel_rfl) (by kernel_rfl) (by kernel_rfl) (fun _ _ _ h => h) (Or.inl ⟨by rfl, ?_⟩) hHeld ?_
  rotate_left
  · intro W hS
    try dsimp only at hS
    go_simp
    try with_reducible rfl
  try simp only [List.getElem_toArray, List.getElem_cons_succ, List.getElem_cons_zero, Act.put, List.setIfInBounds_toArray, List.set_cons_zero, List.set_cons_succ]
  refine wpAnyH_take (i := 1) (v := ?_) rfl (by kernel_rfl) (by kernel_rfl) (by kernel_rfl) (fun _ _ _ h => h) (Or.inl ⟨by rfl, ?_⟩) hHeld ?_
  rotate_left
  · intro W hS
    try dsimp only at hS
    go_simp
    try with_reducible rfl
  try simp only [List.getElem_toArray, List.getElem_cons_succ, List.getElem_cons_zero, Act.put, List.setIfInBounds_toArray, List.set_cons_zero, List.set_cons_succ]
  refine wpAnyH_take (i := 2) (v := ?_) rfl (by kernel_rfl) (by kernel_rfl) (by kernel_rfl) (fun _ _ _ h => h) (Or.inl ⟨by rfl, ?_⟩) hHeld ?_
  rotate_left
  · intro W hS
    try dsimp only at hS
    go_simp
    try with_reducible rfl
  try simp only [List.getElem_toArray, List.getElem_cons_succ, List.getElem_cons_zero, Act.put, List.setIfInBounds_toArray, List.set_cons_zero, List.set_cons_succ]
  refine wpAnyH_ready (rs := [3]) (by kernel_rfl) (by simp) ?_
  refine (AllReadyH.cons rfl (fun K hK => ?_) AllReadyH.nil)
  go_simp
  refine (wnum_any _ _).mono ?_
  rintro en w9 ⟨rfl, rfl⟩
  refine hK.out _ _ (hHeld) (fun hHeld => ?_)
  clear hK K
  try simp only [List.getElem_toArray, List.getElem_cons_succ, List.getElem_cons_zero, Act.put, List.setIfInBounds_toArray, List.set_cons_zero, List.set_cons_succ]
  refine wpAnyH_take (i := 4) (v := ?_) rfl (by kernel_rfl) (by kernel_rfl) (by kernel_rfl) (fun _ _ _ h => h) (Or.inl ⟨by rfl, ?_⟩) hHeld ?_
  rotate_left
  · intro W hS
    try dsimp only at hS
    go_simp
    try with_reducible rfl
  try simp only [List.getElem_toArray, List.getElem_cons_succ, List.getElem_cons_zero, Act.put, List.setIfInBounds_toArray, List.set_cons_zero, List.set_cons_succ]
  refine wpAnyH_take (i := 5) (v := ?_) rfl (by kernel_rfl) (by kernel_rfl) (by kernel_rfl) (fun _ _ _ h => h) (Or.inl ⟨by rfl, ?_⟩) hHeld ?_
  rotate_left
  · intro W hS
    try dsimp only at hS
    go_simp
    try with_reducible rfl
  try simp only [List.getElem_toArray, List.getElem_cons_succ, List.getElem_cons_zero, Act.put, List.setIfInBounds_toArray, List.set_cons_zero, List.set_cons_succ]
  refine wpAnyH_take (i := 6) (v := ?_) rfl (by kernel_rfl) (by kernel_rfl) (by kernel_rfl) (fun _ _ _ h => h) (Or.inl ⟨by rfl, ?_⟩) hHeld ?_
  rotate_left
  · intro W hS
    try dsimp only at hS
    go_simp
    try with_reducible rfl
  try simp only [List.getElem_toArray, List.getElem_cons_succ, List.getElem_cons_zero, Act.put, List.setIfInBounds_toArray, List.set_cons_zero, List.set_cons_succ]
  refine wpAnyH_ready (rs := [7]) (by kernel_rfl) (by simp) ?_
  refine (AllReadyH.cons rfl (fun K hK => ?_) AllReadyH.nil)
  go_simp
  refine (wnum_any _ _).mono ?_
  rintro en w9 ⟨rfl, rfl⟩
  refine hK.out _ _ (hHeld) (fun hHeld => ?_)
  clear hK K
  try simp only [List.getElem_toArray, List.getElem_cons_succ, List.getElem_cons_zero, Act.put, List.setIfInBounds_toArray, List.set_cons_zero, List.set_cons_succ]
  refine wpAnyH_take (i := 8) (v := ?_) rfl (by kernel_rfl) (by kernel_rfl) (by kernel_rfl) (fun _ _ _ h => h) (Or.inl ⟨by rfl, ?_⟩) hHeld ?_
  rotate_left
  · intro W hS
    try dsimp only at hS
    go_simp
    try with_reducible rfl
  try simp only [List.getElem_toArray, List.getElem_cons_succ, List.getElem_cons_zero, Act.put, List.setIfInBounds_toArray, List.set_cons_zero, List.set_cons_succ]
  refine wpAnyH_take (i := 9) (v := ?_) rfl (by kernel_rfl) (by kernel_rfl) (by kernel_rfl) (fun _ _ _ h => h) (Or.inl ⟨by rfl, ?_⟩) hHeld ?_
  rotate_left
  · intro W hS
    try dsimp only at hS
    go_simp
    try with_reducible rfl
  try simp only [List.getElem_toArray, List.getElem_cons_succ, List.getElem_cons_zero, Act.put, List.setIfInBounds_toArray, List.set_cons_zero, List.set_cons_succ]
  refine wpAnyH_take (i := 10) (v := ?_) rfl (by kernel_rfl) (by kernel_rfl) (by kernel_rfl) (fun _ _ _ h => h) (Or.inl ⟨by rfl, ?_⟩) hHeld ?_
  rotate_left
  · intro W hS
    try dsimp only at hS
    go_simp
    try with_reducible rfl
  try simp only [List.getElem_toArray, List.getElem_cons_succ, List.getElem_cons_zero, Act.put, List.setIfInBounds_toArray, List.set_cons_zero, List.set_cons_succ]
  refine wpAnyH_take (i := 11) (v := ?_) rfl (by kernel_rfl) (by kernel_rfl) (by kernel_rfl) (fun _ _ _ h => h) (Or.inl ⟨by rfl, ?_⟩) hHeld ?_
  rotate_left
  · intro W hS
    try dsimp only at hS
    go_simp
    try with_reducible rfl
  try simp only [List.getElem_toArray, List.getElem_cons_succ, List.getElem_cons_zero, Act.put, List.setIfInBounds_toArray, List.set_cons_zero, List.set_cons_succ]
  refine wpAnyH_take (i := 12) (v := ?_) rfl (by kernel_rfl) (by kernel_rfl) (by kernel_rfl) (fun _ _ _ h => h) (Or.inl ⟨by rfl, ?_⟩) hHeld ?_
  rotate_left
  · intro W hS
    try dsimp only at hS
    go_simp
    try with_reducible rfl
  try simp only [List.getElem_toArray, List.getElem_cons_succ, List.getElem_cons_zero, Act.put, List.setIfInBounds_toArray, List.set_cons_zero, List.set_cons_succ]
  refine wpAnyH_take (i := 13) (v := ?_) rfl (by kernel_rfl) (by kernel_rfl) (by kernel_rfl) (fun _ _ _ h => h) (Or.inl ⟨by rfl, ?_⟩) hHeld ?_
  rotate_left
  · intro W hS
    try dsimp only at hS
    go_simp
    try with_reducible rfl
  try simp only [List.getElem_toArray, List.getElem_cons_succ, List.getElem_cons_zero, Act.put, List.setIfInBounds_toArray, List.set_cons_zero, List.set_cons_succ]
  refine wpAnyH_take (i := 14) (v := ?_) rfl (by kernel_rfl) (by kernel_rfl) (by kernel_rfl) (fun _ _ _ h => h) (Or.inl ⟨by rfl, ?_⟩) hHeld ?_
  rotate_left
  · intro W hS
    try dsimp only at hS
    go_simp
    try with_reducible rfl
  try simp only [List.getElem_toArray, List.getElem_cons_succ, List.getElem_cons_zero, Act.put, List.setIfInBounds_toArray, List.set_cons_zero, List.set_cons_succ]
  refine wpAnyH_take (i := 15) (v := ?_) rfl (by kernel_rfl) (by kernel_rfl) (by kernel_rfl) (fun _ _ _ h => h) (Or.inl ⟨by rfl, ?_⟩) hHeld ?_
  rotate_left
  · intro W hS
    try dsimp only at hS
    go_simp
    try with_reducible rfl
  try simp only [List.getElem_toArray, List.getElem_cons_succ, List.getElem_cons_zero, Act.put, List.setIfInBounds_toArray, List.set_cons_zero, List.set_cons_succ]
  refine wpAnyH_take (i := 16) (v := ?_) rfl (by kernel_rfl) (by kernel_rfl) (by kernel_rfl) (fun _ _ _ h => h) (Or.inl ⟨by rfl, ?_⟩) hHeld ?_
  rotate_left
  · intro W hS
    try dsimp only at hS
    go_simp
    try with_reducible rfl
  try simp only [List.getElem_toArray, List.getElem_cons_succ, List.getElem_cons_zero, Act.put, List.setIfInBounds_toArray, List.set_cons_zero, List.set_cons_succ]
  refine wpAnyH_take (i := 17) (v := ?_) rfl (by kernel_rfl) (by kernel_rfl) (by kernel_rfl) (fun _ _ _ h => h) (Or.inl ⟨by rfl, ?_⟩) hHeld ?_
  rotate_left
  · intro W hS
    try dsimp only at hS
    go_simp
    try with_reducible rfl
  try simp only [List.getElem_toArray, List.getElem_cons_succ, List.getElem_cons_zero, Act.put, List.setIfInBounds_toArray, List.set_cons_zero, List.set_cons_succ]
  refine wpAnyH_ready (rs := [18]) (by kernel_rfl) (by simp) ?_
  refine (AllReadyH.cons rfl (fun K hK => ?_) AllReadyH.nil)
  go_simp
  refine (samerep_any (B := w.heap.size) (b := spq) _ ((HP.out.below HBW).below (hHeld.1.mono HBW.size)) ((HQ.out.below HBW).below (hHeld.1.mono HBW.size)) (Nat.le_trans HBW.size hHeld.1.size) HSPQ.out (by omega) (by omega)).mono ?_
  rintro en w9 ⟨rfl, hb⟩
  refine hK.out _ _ (⟨below_after hHeld.1 hb hHeld.1.size, (K2.below (below_after hHeld.1 hb hHeld.1.size) z2).c, (K3.below (below_after hHeld.1 hb hHeld.1.size) z3).c, run_str _ 22 9 5 Try.underlying22 Try.underlying5 Try.underlying9 (HRp.out.below ((below_after hHeld.1 hb hHeld.1.size).mono hWs)), run_str _ 22 9 5 Try.underlying22 Try.underlying5 Try.underlying9 (HRq.out.below ((below_after hHeld.1 hb hHeld.1.size).mono hWs))⟩) (fun hHeld => ?_)
  clear hK K
  try simp only [List.getElem_toArray, List.getElem_cons_succ, List.getElem_cons_zero, Act.put, List.setIfInBounds_toArray, List.set_cons_zero, List.set_cons_succ]
  refine wpAnyH_take (i := 19) (v := ?_) rfl (by kernel_rfl) (by kernel_rfl) (by kernel_rfl) (fun _ _ _ h => h) (Or.inl ⟨by rfl, ?_⟩) hHeld ?_
  rotate_left
  · intro W hS
    try dsimp only at hS
    go_simp
    try with_reducible rfl
  try simp only [List.getElem_toArray, List.getElem_cons_succ, List.getElem_cons_zero, Act.put, List.setIfInBounds_toArray, List.set_cons_zero, List.set_cons_succ]
  refine wpAnyH_take (i := 20) (v := ?_) rfl (by kernel_rfl) (by kernel_rfl) (by kernel_rfl) (fun _ _ _ h => h) (Or.inl ⟨by rfl, ?_⟩) hHeld ?_
  rotate_left
  · intro W hS
    try dsimp only at hS
    go_simp
    try with_reducible rfl
  try simp only [List.getElem_toArray, List.getElem_cons_succ, List.getElem_cons_zero, Act.put, List.setIfInBounds_toArray, List.set_cons_zero, List.set_cons_succ]
  refine wpAnyH_take (i := 21) (v := ?_) rfl (by kernel_rfl) (by kernel_rfl) (by kernel_rfl) (fun _ _ _ h => h) (Or.inl ⟨by rfl, ?_⟩) hHeld ?_
  rotate_left
  · intro W hS
    try dsimp only at hS
    go_simp
    try with_reducible rfl
  try simp only [List.getElem_toArray, List.getElem_cons_succ, List.getElem_cons_zero, Act.put, List.setIfInBounds_toArray, List.set_cons_zero, List.set_cons_succ]
  refine wpAnyH_take (i := 22) (v := ?_) rfl (by kernel_rfl) (by kernel_rfl) (by kernel_rfl) (fun _ _ _ h => h) (Or.inl ⟨by rfl, ?_⟩) hHeld ?_
  rotate_left
  · intro W hS
    try dsimp only at hS
    go_simp
    try with_reducible rfl
  try simp only [List.getElem_toArray, List.getElem_cons_succ, List.getElem_cons_zero, Act.put, List.setIfInBounds_toArray, List.set_cons_zero, List.set_cons_succ]
  refine wpAnyH_done (by kernel_rfl) ?_ _
  go_wp2_with fail
  go_ret
  exact ⟨rfl, HBW.trans (hHeld.1.mono HBW.size)⟩

set_option maxRecDepth 100000 in
set_option maxHeartbeats 4000000 in
theorem apart_nynn (k id u v q a k' id' u' v' q' a' i1 e1 i2 e2 : Int) (d1 d2 : Bool) {A A2 : Option Addr} {m x3 m2 x4 : Nat} {ps qs : List Pr} (w : World) (hR : Reads w w.heap.size 2 A m (prCells ps)) (hR2 : Reads w w.heap.size 2 A2 m2 (prCells qs)) (h60 : ¬ 60 < m) (h602 : ¬ 60 < m2)
    (oa : Req.ok ⟨k, id, u, v, q, a⟩) (ob : Req.ok ⟨k', id', u', v', q', a'⟩) (op : Rep.ok ⟨i1, e1, d1, ps⟩) (oq : Rep.ok ⟨i2, e2, d2, qs⟩) (ma : Req.may ⟨k, id, u, v, q, a⟩ = false) (mb : Req.may ⟨k', id', u', v', q', a'⟩ = true) (mp : repB i1 e1 d1 ps = false) (mq : repB i2 e2 d2 qs = false) : Calls Try.prog 9 #[.agg #[.int .i64 k, .int .i64 id, .int .i64 u, .int .i64 v, .int .i64 q, .int .i64 a], .agg #[.int .i64 k', .int .i64 id', .int .i64 u', .int .i64 v', .int .i64 q', .int .i64 a'], .agg #[.int .i64 i1, .int .i64 e1, .bool d1, .slice A m x3], .agg #[.int .i64 i2, .int .i64 e2, .bool d2, .slice A2 m2 x4]] w fun e w' => e = .returned (.bool true) ∧ Below w.heap.size w w' := by
  have hpl := reads_plen hR
  have hql := reads_plen hR2
  have HP := Lib.hid hR
  have HQ := Lib.hid hR2
  have HA := Lib.hid oa
  have HBo := Lib.hid ob
  have HPo := Lib.hid op
  have HQo := Lib.hid oq
  have MA := Lib.hid ma
  have MB := Lib.hid mb
  have MP := Lib.hid mp
  have MQ := Lib.hid mq
  clear hR hR2 oa ob op oq ma mb mp mq hpl hql
  go_enter Try.func9, Try.ntmps9
  go_wp2_with fail
  refine (alive2_any _).mono ?_
  rintro en w1 ⟨rfl, hb⟩
  have K0 := Blk.on (g := w.heap.size) (t := 50) (cs := #[.int .i64 k, .int .i64 id, .int .i64 u, .int .i64 v, .int .i64 q, .int .i64 a]) (by repeat (first | exact Blk.at_ _ _ _ (by simp) | refine Blk.alloc ?_ _)) hb
  have K1 := Blk.on (g := w.heap.size + 1) (t := 50) (cs := #[.int .i64 k', .int .i64 id', .int .i64 u', .int .i64 v', .int .i64 q', .int .i64 a']) (by repeat (first | exact Blk.at_ _ _ _ (by simp) | refine Blk.alloc ?_ _)) hb
  have K2 := Blk.on (g := w.heap.size + 1 + 1) (t := 59) (cs := #[.int .i64 i1, .int .i64 e1, .bool d1, .slice A m x3]) (by repeat (first | exact Blk.at_ _ _ _ (by simp) | refine Blk.alloc ?_ _)) hb
  have K3 := Blk.on (g := w.heap.size + 1 + 1 + 1) (t := 59) (cs := #[.int .i64 i2, .int .i64 e2, .bool d2, .slice A2 m2 x4]) (by repeat (first | exact Blk.at_ _ _ _ (by simp) | refine Blk.alloc ?_ _)) hb
  have HB : Below w.heap.size w w1 := by repeat (first | exact Below.refl _ _ | refine Below.setCell ?_ (by first | omega | (simp; done) | (simp; omega)) _ | refine Below.alloc ?_ (by first | omega | (simp; done) | (simp; omega)) _ | refine Below.drew ?_ | refine below_drewN ?_ _ | refine below_after ?_ (by assumption) (by first | omega | (simp; done) | (simp; omega)))
  have c0 := K0.c
  have z0 := K0.lt
  have c1 := K1.c
  have z1 := K1.lt
  have c2 := K2.c
  have z2 := K2.lt
  have c3 := K3.c
  have z3 := K3.lt
  clear hb
  go_wp2_with fail
  refine (req_no ⟨k, id, u, v, q, a⟩ MA.out _).mono ?_
  rintro en wx ⟨rfl, hb⟩
  have K0 := K0.on hb
  have K1 := K1.on hb
  have K2 := K2.on hb
  have K3 := K3.on hb
  have HB := below_after HB hb HB.size
  clear hb c0 z0 c1 z1 c2 z2 c3 z3
  have c0 := K0.c
  have z0 := K0.lt
  have c1 := K1.c
  have z1 := K1.lt
  have c2 := K2.c
  have z2 := K2.lt
  have c3 := K3.c
  have z3 := K3.lt
  go_wp2_with fail
  refine (req_yes ⟨k', id', u', v', q', a'⟩ HBo.out MB.out _).mono ?_
  rintro en wy ⟨xy, rfl, hown, hb⟩
  obtain ⟨ny, hny⟩ : ∃ n, n = (Req.bytes ⟨k', id', u', v', q', a'⟩).length := ⟨_, rfl⟩
  rw [← hny] at hown
  obtain ⟨Ay, cy, rfl⟩ := own_form hown
  have K0 := K0.on hb
  have K1 := K1.on hb
  have K2 := K2.on hb
  have K3 := K3.on hb
  have HB := below_after HB hb HB.size
  have HRy := Lib.hid (Reads.of_own hown)
  clear hown hny
  clear hb c0 z0 c1 z1 c2 z2 c3 z3
  have c0 := K0.c
  have z0 := K0.lt
  have c1 := K1.c
  have z1 := K1.lt
  have c2 := K2.c
  have z2 := K2.lt
  have c3 := K3.c
  have z3 := K3.lt
  go_wp2_with fail
  refine (rep_no (l := ps) i1 e1 d1 _ (HP.out.below HB) HB.size (by omega) MP.out).mono ?_
  rintro en wp ⟨rfl, hb⟩
  have K0 := K0.on hb
  have K1 := K1.on hb
  have K2 := K2.on hb
  have K3 := K3.on hb
  have HB := below_after HB hb HB.size
  have HRy := Lib.hid ((HRy.out.below hb).more hb.size)
  clear hb c0 z0 c1 z1 c2 z2 c3 z3
  have c0 := K0.c
  have z0 := K0.lt
  have c1 := K1.c
  have z1 := K1.lt
  have c2 := K2.c
  have z2 := K2.lt
  have c3 := K3.c
  have z3 := K3.lt
  go_wp2_with fail
  refine (rep_no (l := qs) i2 e2 d2 _ (HQ.out.below HB) HB.size (by omega) MQ.out).mono ?_
  rintro en wq ⟨rfl, hb⟩
  have K0 := K0.on hb
  have K1 := K1.on hb
  have K2 := K2.on hb
  have K3 := K3.on hb
  have HB := below_after HB hb HB.size
  have HRy := Lib.hid ((HRy.out.below hb).more hb.size)
  clear hb c0 z0 c1 z1 c2 z2 c3 z3
  have c0 := K0.c
  have z0 := K0.lt
  have c1 := K1.c
  have z1 := K1.lt
  have c2 := K2.c
  have z2 := K2.lt
  have c3 := K3.c
  have z3 := K3.lt
  go_wp2_with fail
  go_quiet ((go_at_call 35; exact quiet_w (wnum_any _ _)))
  obtain ⟨W, hW⟩ : ∃ W : World, W = wq.drewN nq := ⟨_, rfl⟩
  have HBW : Below w.heap.size w W := by rw [hW]; exact below_drewN HB _
  have K0 : Blk W (w.heap.size) 50 #[.int .i64 k, .int .i64 id, .int .i64 u, .int .i64 v, .int .i64 q, .int .i64 a] := by rw [hW]; exact K0
  have K1 : Blk W (w.heap.size + 1) 50 #[.int .i64 k', .int .i64 id', .int .i64 u', .int .i64 v', .int .i64 q', .int .i64 a'] := by rw [hW]; exact K1
  have K2 : Blk W (w.heap.size + 1 + 1) 59 #[.int .i64 i1, .int .i64 e1, .bool d1, .slice A m x3] := by rw [hW]; exact K2
  have K3 : Blk W (w.heap.size + 1 + 1 + 1) 59 #[.int .i64 i2, .int .i64 e2, .bool d2, .slice A2 m2 x4] := by rw [hW]; exact K3
  rw [← hW]
  clear hW c0 z0 c1 z1 c2 z2 c3 z3
  have c0 := K0.c
  have z0 := K0.lt
  have c1 := K1.c
  have z1 := K1.lt
  have c2 := K2.c
  have z2 := K2.lt
  have c3 := K3.c
  have z3 := K3.lt
  go_wp2_with fail
  go_quiet ((go_at_call 35; exact quiet_w (wnum_any _ _)))
  go_wp2_with fail
  go_ret
  exact ⟨rfl, below_drewN HBW _⟩

set_option maxRecDepth 100000 in
set_option maxHeartbeats 4000000 in
theorem apart_nyny (k id u v q a k' id' u' v' q' a' i1 e1 i2 e2 : Int) (d1 d2 : Bool) {A A2 : Option Addr} {m x3 m2 x4 : Nat} {ps qs : List Pr} (w : World) (hR : Reads w w.heap.size 2 A m (prCells ps)) (hR2 : Reads w w.heap.size 2 A2 m2 (prCells qs)) (h60 : ¬ 60 < m) (h602 : ¬ 60 < m2)
    (oa : Req.ok ⟨k, id, u, v, q, a⟩) (ob : Req.ok ⟨k', id', u', v', q', a'⟩) (op : Rep.ok ⟨i1, e1, d1, ps⟩) (oq : Rep.ok ⟨i2, e2, d2, qs⟩) (ma : Req.may ⟨k, id, u, v, q, a⟩ = false) (mb : Req.may ⟨k', id', u', v', q', a'⟩ = true) (mp : repB i1 e1 d1 ps = false) (mq : repB i2 e2 d2 qs = true) : Calls Try.prog 9 #[.agg #[.int .i64 k, .int .i64 id, .int .i64 u, .int .i64 v, .int .i64 q, .int .i64 a], .agg #[.int .i64 k', .int .i64 id', .int .i64 u', .int .i64 v', .int .i64 q', .int .i64 a'], .agg #[.int .i64 i1, .int .i64 e1, .bool d1, .slice A m x3], .agg #[.int .i64 i2, .int .i64 e2, .bool d2, .slice A2 m2 x4]] w fun e w' => e = .returned (.bool true) ∧ Below w.heap.size w w' := by
  have hpl := reads_plen hR
  have hql := reads_plen hR2
  have HP := Lib.hid hR
  have HQ := Lib.hid hR2
  have HA := Lib.hid oa
  have HBo := Lib.hid ob
  have HPo := Lib.hid op
  have HQo := Lib.hid oq
  have MA := Lib.hid ma
  have MB := Lib.hid mb
  have MP := Lib.hid mp
  have MQ := Lib.hid mq
  clear hR hR2 oa ob op oq ma mb mp mq hpl hql
  go_enter Try.func9, Try.ntmps9
  go_wp2_with fail
  refine (alive2_any _).mono ?_
  rintro en w1 ⟨rfl, hb⟩
  have K0 := Blk.on (g := w.heap.size) (t := 50) (cs := #[.int .i64 k, .int .i64 id, .int .i64 u, .int .i64 v, .int .i64 q, .int .i64 a]) (by repeat (first | exact Blk.at_ _ _ _ (by simp) | refine Blk.alloc ?_ _)) hb
  have K1 := Blk.on (g := w.heap.size + 1) (t := 50) (cs := #[.int .i64 k', .int .i64 id', .int .i64 u', .int .i64 v', .int .i64 q', .int .i64 a']) (by repeat (first | exact Blk.at_ _ _ _ (by simp) | refine Blk.alloc ?_ _)) hb
  have K2 := Blk.on (g := w.heap.size + 1 + 1) (t := 59) (cs := #[.int .i64 i1, .int .i64 e1, .bool d1, .slice A m x3]) (by repeat (first | exact Blk.at_ _ _ _ (by simp) | refine Blk.alloc ?_ _)) hb
  have K3 := Blk.on (g := w.heap.size + 1 + 1 + 1) (t := 59) (cs := #[.int .i64 i2, .int .i64 e2, .bool d2, .slice A2 m2 x4]) (by repeat (first | exact Blk.at_ _ _ _ (by simp) | refine Blk.alloc ?_ _)) hb
  have HB : Below w.heap.size w w1 := by repeat (first | exact Below.refl _ _ | refine Below.setCell ?_ (by first | omega | (simp; done) | (simp; omega)) _ | refine Below.alloc ?_ (by first | omega | (simp; done) | (simp; omega)) _ | refine Below.drew ?_ | refine below_drewN ?_ _ | refine below_after ?_ (by assumption) (by first | omega | (simp; done) | (simp; omega)))
  have c0 := K0.c
  have z0 := K0.lt
  have c1 := K1.c
  have z1 := K1.lt
  have c2 := K2.c
  have z2 := K2.lt
  have c3 := K3.c
  have z3 := K3.lt
  clear hb
  go_wp2_with fail
  refine (req_no ⟨k, id, u, v, q, a⟩ MA.out _).mono ?_
  rintro en wx ⟨rfl, hb⟩
  have K0 := K0.on hb
  have K1 := K1.on hb
  have K2 := K2.on hb
  have K3 := K3.on hb
  have HB := below_after HB hb HB.size
  clear hb c0 z0 c1 z1 c2 z2 c3 z3
  have c0 := K0.c
  have z0 := K0.lt
  have c1 := K1.c
  have z1 := K1.lt
  have c2 := K2.c
  have z2 := K2.lt
  have c3 := K3.c
  have z3 := K3.lt
  go_wp2_with fail
  refine (req_yes ⟨k', id', u', v', q', a'⟩ HBo.out MB.out _).mono ?_
  rintro en wy ⟨xy, rfl, hown, hb⟩
  obtain ⟨ny, hny⟩ : ∃ n, n = (Req.bytes ⟨k', id', u', v', q', a'⟩).length := ⟨_, rfl⟩
  rw [← hny] at hown
  obtain ⟨Ay, cy, rfl⟩ := own_form hown
  have K0 := K0.on hb
  have K1 := K1.on hb
  have K2 := K2.on hb
  have K3 := K3.on hb
  have HB := below_after HB hb HB.size
  have HRy := Lib.hid (Reads.of_own hown)
  clear hown hny
  clear hb c0 z0 c1 z1 c2 z2 c3 z3
  have c0 := K0.c
  have z0 := K0.lt
  have c1 := K1.c
  have z1 := K1.lt
  have c2 := K2.c
  have z2 := K2.lt
  have c3 := K3.c
  have z3 := K3.lt
  go_wp2_with fail
  refine (rep_no (l := ps) i1 e1 d1 _ (HP.out.below HB) HB.size (by omega) MP.out).mono ?_
  rintro en wp ⟨rfl, hb⟩
  have K0 := K0.on hb
  have K1 := K1.on hb
  have K2 := K2.on hb
  have K3 := K3.on hb
  have HB := below_after HB hb HB.size
  have HRy := Lib.hid ((HRy.out.below hb).more hb.size)
  clear hb c0 z0 c1 z1 c2 z2 c3 z3
  have c0 := K0.c
  have z0 := K0.lt
  have c1 := K1.c
  have z1 := K1.lt
  have c2 := K2.c
  have z2 := K2.lt
  have c3 := K3.c
  have z3 := K3.lt
  go_wp2_with fail
  refine (rep_yes (l := qs) i2 e2 d2 _ (HQ.out.below HB) HB.size (by omega) HQo.out.1 HQo.out.2.2 MQ.out).mono ?_
  rintro en wq ⟨xq, rfl, hown, hb⟩
  obtain ⟨nq_, hnq⟩ : ∃ n, n = (repBytes i2 e2 d2 qs).length := ⟨_, rfl⟩
  rw [← hnq] at hown
  obtain ⟨Aq, cq, rfl⟩ := own_form hown
  have K0 := K0.on hb
  have K1 := K1.on hb
  have K2 := K2.on hb
  have K3 := K3.on hb
  have HB := below_after HB hb HB.size
  have HRy := Lib.hid ((HRy.out.below hb).more hb.size)
  have HRq := Lib.hid (Reads.of_own hown)
  clear hown hnq
  clear hb c0 z0 c1 z1 c2 z2 c3 z3
  have c0 := K0.c
  have z0 := K0.lt
  have c1 := K1.c
  have z1 := K1.lt
  have c2 := K2.c
  have z2 := K2.lt
  have c3 := K3.c
  have z3 := K3.lt
  go_wp2_with fail
  go_quiet ((go_at_call 35; exact quiet_w (wnum_any _ _)))
  obtain ⟨W, hW⟩ : ∃ W : World, W = wq.drewN nq := ⟨_, rfl⟩
  have HBW : Below w.heap.size w W := by rw [hW]; exact below_drewN HB _
  have K0 : Blk W (w.heap.size) 50 #[.int .i64 k, .int .i64 id, .int .i64 u, .int .i64 v, .int .i64 q, .int .i64 a] := by rw [hW]; exact K0
  have K1 : Blk W (w.heap.size + 1) 50 #[.int .i64 k', .int .i64 id', .int .i64 u', .int .i64 v', .int .i64 q', .int .i64 a'] := by rw [hW]; exact K1
  have K2 : Blk W (w.heap.size + 1 + 1) 59 #[.int .i64 i1, .int .i64 e1, .bool d1, .slice A m x3] := by rw [hW]; exact K2
  have K3 : Blk W (w.heap.size + 1 + 1 + 1) 59 #[.int .i64 i2, .int .i64 e2, .bool d2, .slice A2 m2 x4] := by rw [hW]; exact K3
  rw [← hW]
  clear hW c0 z0 c1 z1 c2 z2 c3 z3
  have c0 := K0.c
  have z0 := K0.lt
  have c1 := K1.c
  have z1 := K1.lt
  have c2 := K2.c
  have z2 := K2.lt
  have c3 := K3.c
  have z3 := K3.lt
  go_wp2_with fail
  go_quiet ((go_at_call 35; exact quiet_w (wnum_any _ _)))
  go_wp2_with fail
  go_ret
  exact ⟨rfl, below_drewN HBW _⟩

set_option maxRecDepth 100000 in
set_option maxHeartbeats 4000000 in
theorem apart_nyyn (k id u v q a k' id' u' v' q' a' i1 e1 i2 e2 : Int) (d1 d2 : Bool) {A A2 : Option Addr} {m x3 m2 x4 : Nat} {ps qs : List Pr} (w : World) (hR : Reads w w.heap.size 2 A m (prCells ps)) (hR2 : Reads w w.heap.size 2 A2 m2 (prCells qs)) (h60 : ¬ 60 < m) (h602 : ¬ 60 < m2)
    (oa : Req.ok ⟨k, id, u, v, q, a⟩) (ob : Req.ok ⟨k', id', u', v', q', a'⟩) (op : Rep.ok ⟨i1, e1, d1, ps⟩) (oq : Rep.ok ⟨i2, e2, d2, qs⟩) (ma : Req.may ⟨k, id, u, v, q, a⟩ = false) (mb : Req.may ⟨k', id', u', v', q', a'⟩ = true) (mp : repB i1 e1 d1 ps = true) (mq : repB i2 e2 d2 qs = false) : Calls Try.prog 9 #[.agg #[.int .i64 k, .int .i64 id, .int .i64 u, .int .i64 v, .int .i64 q, .int .i64 a], .agg #[.int .i64 k', .int .i64 id', .int .i64 u', .int .i64 v', .int .i64 q', .int .i64 a'], .agg #[.int .i64 i1, .int .i64 e1, .bool d1, .slice A m x3], .agg #[.int .i64 i2, .int .i64 e2, .bool d2, .slice A2 m2 x4]] w fun e w' => e = .returned (.bool true) ∧ Below w.heap.size w w' := by
  have hpl := reads_plen hR
  have hql := reads_plen hR2
  have HP := Lib.hid hR
  have HQ := Lib.hid hR2
  have HA := Lib.hid oa
  have HBo := Lib.hid ob
  have HPo := Lib.hid op
  have HQo := Lib.hid oq
  have MA := Lib.hid ma
  have MB := Lib.hid mb
  have MP := Lib.hid mp
  have MQ := Lib.hid mq
  clear hR hR2 oa ob op oq ma mb mp mq hpl hql
  go_enter Try.func9, Try.ntmps9
  go_wp2_with fail
  refine (alive2_any _).mono ?_
  rintro en w1 ⟨rfl, hb⟩
  have K0 := Blk.on (g := w.heap.size) (t := 50) (cs := #[.int .i64 k, .int .i64 id, .int .i64 u, .int .i64 v, .int .i64 q, .int .i64 a]) (by repeat (first | exact Blk.at_ _ _ _ (by simp) | refine Blk.alloc ?_ _)) hb
  have K1 := Blk.on (g := w.heap.size + 1) (t := 50) (cs := #[.int .i64 k', .int .i64 id', .int .i64 u', .int .i64 v', .int .i64 q', .int .i64 a']) (by repeat (first | exact Blk.at_ _ _ _ (by simp) | refine Blk.alloc ?_ _)) hb
  have K2 := Blk.on (g := w.heap.size + 1 + 1) (t := 59) (cs := #[.int .i64 i1, .int .i64 e1, .bool d1, .slice A m x3]) (by repeat (first | exact Blk.at_ _ _ _ (by simp) | refine Blk.alloc ?_ _)) hb
  have K3 := Blk.on (g := w.heap.size + 1 + 1 + 1) (t := 59) (cs := #[.int .i64 i2, .int .i64 e2, .bool d2, .slice A2 m2 x4]) (by repeat (first | exact Blk.at_ _ _ _ (by simp) | refine Blk.alloc ?_ _)) hb
  have HB : Below w.heap.size w w1 := by repeat (first | exact Below.refl _ _ | refine Below.setCell ?_ (by first | omega | (simp; done) | (simp; omega)) _ | refine Below.alloc ?_ (by first | omega | (simp; done) | (simp; omega)) _ | refine Below.drew ?_ | refine below_drewN ?_ _ | refine below_after ?_ (by assumption) (by first | omega | (simp; done) | (simp; omega)))
  have c0 := K0.c
  have z0 := K0.lt
  have c1 := K1.c
  have z1 := K1.lt
  have c2 := K2.c
  have z2 := K2.lt
  have c3 := K3.c
  have z3 := K3.lt
  clear hb
  go_wp2_with fail
  refine (req_no ⟨k, id, u, v, q, a⟩ MA.out _).mono ?_
  rintro en wx ⟨rfl, hb⟩
  have K0 := K0.on hb
  have K1 := K1.on hb
  have K2 := K2.on hb
  have K3 := K3.on hb
  have HB := below_after HB hb HB.size
  clear hb c0 z0 c1 z1 c2 z2 c3 z3
  have c0 := K0.c
  have z0 := K0.lt
  have c1 := K1.c
  have z1 := K1.lt
  have c2 := K2.c
  have z2 := K2.lt
  have c3 := K3.c
  have z3 := K3.lt
  go_wp2_with fail
  refine (req_yes ⟨k', id', u', v', q', a'⟩ HBo.out MB.out _).mono ?_
  rintro en wy ⟨xy, rfl, hown, hb⟩
  obtain ⟨ny, hny⟩ : ∃ n, n = (Req.bytes ⟨k', id', u', v', q', a'⟩).length := ⟨_, rfl⟩
  rw [← hny] at hown
  obtain ⟨Ay, cy, rfl⟩ := own_form hown
  have K0 := K0.on hb
  have K1 := K1.on hb
  have K2 := K2.on hb
  have K3 := K3.on hb
  have HB := below_after HB hb HB.size
  have HRy := Lib.hid (Reads.of_own hown)
  clear hown hny
  clear hb c0 z0 c1 z1 c2 z2 c3 z3
  have c0 := K0.c
  have z0 := K0.lt
  have c1 := K1.c
  have z1 := K1.lt
  have c2 := K2.c
  have z2 := K2.lt
  have c3 := K3.c
  have z3 := K3.lt
  go_wp2_with fail
  refine (rep_yes (l := ps) i1 e1 d1 _ (HP.out.below HB) HB.size (by omega) HPo.out.1 HPo.out.2.2 MP.out).mono ?_
  rintro en wp ⟨xp, rfl, hown, hb⟩
  obtain ⟨np, hnp⟩ : ∃ n, n = (repBytes i1 e1 d1 ps).length := ⟨_, rfl⟩
  rw [← hnp] at hown
  obtain ⟨Ap, cp, rfl⟩ := own_form hown
  have K0 := K0.on hb
  have K1 := K1.on hb
  have K2 := K2.on hb
  have K3 := K3.on hb
  have HB := below_after HB hb HB.size
  have HRy := Lib.hid ((HRy.out.below hb).more hb.size)
  have HRp := Lib.hid (Reads.of_own hown)
  clear hown hnp
  clear hb c0 z0 c1 z1 c2 z2 c3 z3
  have c0 := K0.c
  have z0 := K0.lt
  have c1 := K1.c
  have z1 := K1.lt
  have c2 := K2.c
  have z2 := K2.lt
  have c3 := K3.c
  have z3 := K3.lt
  go_wp2_with fail
  refine (rep_no (l := qs) i2 e2 d2 _ (HQ.out.below HB) HB.size (by omega) MQ.out).mono ?_
  rintro en wq ⟨rfl, hb⟩
  have K0 := K0.on hb
  have K1 := K1.on hb
  have K2 := K2.on hb
  have K3 := K3.on hb
  have HB := below_after HB hb HB.size
  have HRy := Lib.hid ((HRy.out.below hb).more hb.size)
  have HRp := Lib.hid ((HRp.out.below hb).more hb.size)
  clear hb c0 z0 c1 z1 c2 z2 c3 z3
  have c0 := K0.c
  have z0 := K0.lt
  have c1 := K1.c
  have z1 := K1.lt
  have c2 := K2.c
  have z2 := K2.lt
  have c3 := K3.c
  have z3 := K3.lt
  go_wp2_with fail
  go_quiet ((go_at_call 35; exact quiet_w (wnum_any _ _)))
  obtain ⟨W, hW⟩ : ∃ W : World, W = wq.drewN nq := ⟨_, rfl⟩
  have HBW : Below w.heap.size w W := by rw [hW]; exact below_drewN HB _
  have K0 : Blk W (w.heap.size) 50 #[.int .i64 k, .int .i64 id, .int .i64 u, .int .i64 v, .int .i64 q, .int .i64 a] := by rw [hW]; exact K0
  have K1 : Blk W (w.heap.size + 1) 50 #[.int .i64 k', .int .i64 id', .int .i64 u', .int .i64 v', .int .i64 q', .int .i64 a'] := by rw [hW]; exact K1
  have K2 : Blk W (w.heap.size + 1 + 1) 59 #[.int .i64 i1, .int .i64 e1, .bool d1, .slice A m x3] := by rw [hW]; exact K2
  have K3 : Blk W (w.heap.size + 1 + 1 + 1) 59 #[.int .i64 i2, .int .i64 e2, .bool d2, .slice A2 m2 x4] := by rw [hW]; exact K3
  rw [← hW]
  clear hW c0 z0 c1 z1 c2 z2 c3 z3
  have c0 := K0.c
  have z0 := K0.lt
  have c1 := K1.c
  have z1 := K1.lt
  have c2 := K2.c
  have z2 := K2.lt
  have c3 := K3.c
  have z3 := K3.lt
  go_wp2_with fail
  go_quiet ((go_at_call 35; exact quiet_w (wnum_any _ _)))
  go_wp2_with fail
  go_ret
  exact ⟨rfl, below_drewN HBW _⟩

set_option maxRecDepth 100000 in
set_option maxHeartbeats 4000000 in
theorem apart_nyyy (k id u v q a k' id' u' v' q' a' i1 e1 i2 e2 : Int) (d1 d2 : Bool) {A A2 : Option Addr} {m x3 m2 x4 : Nat} {ps qs : List Pr} (w : World) (hR : Reads w w.heap.size 2 A m (prCells ps)) (hR2 : Reads w w.heap.size 2 A2 m2 (prCells qs)) (h60 : ¬ 60 < m) (h602 : ¬ 60 < m2)
    (oa : Req.ok ⟨k, id, u, v, q, a⟩) (ob : Req.ok ⟨k', id', u', v', q', a'⟩) (op : Rep.ok ⟨i1, e1, d1, ps⟩) (oq : Rep.ok ⟨i2, e2, d2, qs⟩) (ma : Req.may ⟨k, id, u, v, q, a⟩ = false) (mb : Req.may ⟨k', id', u', v', q', a'⟩ = true) (mp : repB i1 e1 d1 ps = true) (mq : repB i2 e2 d2 qs = true) : Calls Try.prog 9 #[.agg #[.int .i64 k, .int .i64 id, .int .i64 u, .int .i64 v, .int .i64 q, .int .i64 a], .agg #[.int .i64 k', .int .i64 id', .int .i64 u', .int .i64 v', .int .i64 q', .int .i64 a'], .agg #[.int .i64 i1, .int .i64 e1, .bool d1, .slice A m x3], .agg #[.int .i64 i2, .int .i64 e2, .bool d2, .slice A2 m2 x4]] w fun e w' => e = .returned (.bool true) ∧ Below w.heap.size w w' := by
  have hpl := reads_plen hR
  have hql := reads_plen hR2
  have HP := Lib.hid hR
  have HQ := Lib.hid hR2
  have HA := Lib.hid oa
  have HBo := Lib.hid ob
  have HPo := Lib.hid op
  have HQo := Lib.hid oq
  have MA := Lib.hid ma
  have MB := Lib.hid mb
  have MP := Lib.hid mp
  have MQ := Lib.hid mq
  obtain ⟨spq, hspq⟩ : ∃ s : Bool, s = true ↔ (⟨i1, e1, d1, ps⟩ : Rep) = ⟨i2, e2, d2, qs⟩ := bool_of _
  have HSP := Lib.hid (str_eq (b := spq) (xs := repBytes i1 e1 d1 ps) (ys := repBytes i2 e2 d2 qs) (rep_byte _ _ _ _) (rep_byte _ _ _ _) ⟨fun h => by have := hspq.1 h; injection this with x1 x2 x3 x4; rw [x1, x2, x3, x4], fun h => hspq.2 (rep_inj op oq mp mq (by show ps.length ≤ _; omega) (by show qs.length ≤ _; omega) h)⟩)
  have HSPQ := Lib.hid (show spq = true ↔ i1 = i2 ∧ e1 = e2 ∧ d1 = d2 ∧ ps = qs from ⟨fun h => by have := hspq.1 h; injection this with x1 x2 x3 x4; exact ⟨x1, x2, x3, x4⟩, fun h => hspq.2 (by rw [h.1, h.2.1, h.2.2.1, h.2.2.2])⟩)
  have hpp : (spq == spq) = true := by simp
  clear hspq
  clear hR hR2 oa ob op oq ma mb mp mq hpl hql
  go_enter Try.func9, Try.ntmps9
  go_wp2_with fail
  refine (alive2_any _).mono ?_
  rintro en w1 ⟨rfl, hb⟩
  have K0 := Blk.on (g := w.heap.size) (t := 50) (cs := #[.int .i64 k, .int .i64 id, .int .i64 u, .int .i64 v, .int .i64 q, .int .i64 a]) (by repeat (first | exact Blk.at_ _ _ _ (by simp) | refine Blk.alloc ?_ _)) hb
  have K1 := Blk.on (g := w.heap.size + 1) (t := 50) (cs := #[.int .i64 k', .int .i64 id', .int .i64 u', .int .i64 v', .int .i64 q', .int .i64 a']) (by repeat (first | exact Blk.at_ _ _ _ (by simp) | refine Blk.alloc ?_ _)) hb
  have K2 := Blk.on (g := w.heap.size + 1 + 1) (t := 59) (cs := #[.int .i64 i1, .int .i64 e1, .bool d1, .slice A m x3]) (by repeat (first | exact Blk.at_ _ _ _ (by simp) | refine Blk.alloc ?_ _)) hb
  have K3 := Blk.on (g := w.heap.size + 1 + 1 + 1) (t := 59) (cs := #[.int .i64 i2, .int .i64 e2, .bool d2, .slice A2 m2 x4]) (by repeat (first | exact Blk.at_ _ _ _ (by simp) | refine Blk.alloc ?_ _)) hb
  have HB : Below w.heap.size w w1 := by repeat (first | exact Below.refl _ _ | refine Below.setCell ?_ (by first | omega | (simp; done) | (simp; omega)) _ | refine Below.alloc ?_ (by first | omega | (simp; done) | (simp; omega)) _ | refine Below.drew ?_ | refine below_drewN ?_ _ | refine below_after ?_ (by assumption) (by first | omega | (simp; done) | (simp; omega)))
  have c0 := K0.c
  have z0 := K0.lt
  have c1 := K1.c
  have z1 := K1.lt
  have c2 := K2.c
  have z2 := K2.lt
  have c3 := K3.c
  have z3 := K3.lt
  clear hb
  go_wp2_with fail
  refine (req_no ⟨k, id, u, v, q, a⟩ MA.out _).mono ?_
  rintro en wx ⟨rfl, hb⟩
  have K0 := K0.on hb
  have K1 := K1.on hb
  have K2 := K2.on hb
  have K3 := K3.on hb
  have HB := below_after HB hb HB.size
  clear hb c0 z0 c1 z1 c2 z2 c3 z3
  have c0 := K0.c
  have z0 := K0.lt
  have c1 := K1.c
  have z1 := K1.lt
  have c2 := K2.c
  have z2 := K2.lt
  have c3 := K3.c
  have z3 := K3.lt
  go_wp2_with fail
  refine (req_yes ⟨k', id', u', v', q', a'⟩ HBo.out MB.out _).mono ?_
  rintro en wy ⟨xy, rfl, hown, hb⟩
  obtain ⟨ny, hny⟩ : ∃ n, n = (Req.bytes ⟨k', id', u', v', q', a'⟩).length := ⟨_, rfl⟩
  rw [← hny] at hown
  obtain ⟨Ay, cy, rfl⟩ := own_form hown
  have K0 := K0.on hb
  have K1 := K1.on hb
  have K2 := K2.on hb
  have K3 := K3.on hb
  have HB := below_after HB hb HB.size
  have HRy := Lib.hid (Reads.of_own hown)
  clear hown hny
  clear hb c0 z0 c1 z1 c2 z2 c3 z3
  have c0 := K0.c
  have z0 := K0.lt
  have c1 := K1.c
  have z1 := K1.lt
  have c2 := K2.c
  have z2 := K2.lt
  have c3 := K3.c
  have z3 := K3.lt
  go_wp2_with fail
  refine (rep_yes (l := ps) i1 e1 d1 _ (HP.out.below HB) HB.size (by omega) HPo.out.1 HPo.out.2.2 MP.out).mono ?_
  rintro en wp ⟨xp, rfl, hown, hb⟩
  obtain ⟨np, hnp⟩ : ∃ n, n = (repBytes i1 e1 d1 ps).length := ⟨_, rfl⟩
  rw [← hnp] at hown
  obtain ⟨Ap, cp, rfl⟩ := own_form hown
  have K0 := K0.on hb
  have K1 := K1.on hb
  have K2 := K2.on hb
  have K3 := K3.on hb
  have HB := below_after HB hb HB.size
  have HRy := Lib.hid ((HRy.out.below hb).more hb.size)
  have HRp := Lib.hid (Reads.of_own hown)
  clear hown hnp
  clear hb c0 z0 c1 z1 c2 z2 c3 z3
  have c0 := K0.c
  have z0 := K0.lt
  have c1 := K1.c
  have z1 := K1.lt
  have c2 := K2.c
  have z2 := K2.lt
  have c3 := K3.c
  have z3 := K3.lt
  go_wp2_with fail
  refine (rep_yes (l := qs) i2 e2 d2 _ (HQ.out.below HB) HB.size (by omega) HQo.out.1 HQo.out.2.2 MQ.out).mono ?_
  rintro en wq ⟨xq, rfl, hown, hb⟩
  obtain ⟨nq_, hnq⟩ : ∃ n, n = (repBytes i2 e2 d2 qs).length := ⟨_, rfl⟩
  rw [← hnq] at hown
  obtain ⟨Aq, cq, rfl⟩ := own_form hown
  have K0 := K0.on hb
  have K1 := K1.on hb
  have K2 := K2.on hb
  have K3 := K3.on hb
  have HB := below_after HB hb HB.size
  have HRy := Lib.hid ((HRy.out.below hb).more hb.size)
  have HRp := Lib.hid ((HRp.out.below hb).more hb.size)
  have HRq := Lib.hid (Reads.of_own hown)
  clear hown hnq
  clear hb c0 z0 c1 z1 c2 z2 c3 z3
  have c0 := K0.c
  have z0 := K0.lt
  have c1 := K1.c
  have z1 := K1.lt
  have c2 := K2.c
  have z2 := K2.lt
  have c3 := K3.c
  have z3 := K3.lt
  go_wp2_with fail
  go_quiet ((go_at_call 35; exact quiet_w (wnum_any _ _)))
  obtain ⟨W, hW⟩ : ∃ W : World, W = wq.drewN nq := ⟨_, rfl⟩
  have HBW : Below w.heap.size w W := by rw [hW]; exact below_drewN HB _
  have K0 : Blk W (w.heap.size) 50 #[.int .i64 k, .int .i64 id, .int .i64 u, .int .i64 v, .int .i64 q, .int .i64 a] := by rw [hW]; exact K0
  have K1 : Blk W (w.heap.size + 1) 50 #[.int .i64 k', .int .i64 id', .int .i64 u', .int .i64 v', .int .i64 q', .int .i64 a'] := by rw [hW]; exact K1
  have K2 : Blk W (w.heap.size + 1 + 1) 59 #[.int .i64 i1, .int .i64 e1, .bool d1, .slice A m x3] := by rw [hW]; exact K2
  have K3 : Blk W (w.heap.size + 1 + 1 + 1) 59 #[.int .i64 i2, .int .i64 e2, .bool d2, .slice A2 m2 x4] := by rw [hW]; exact K3
  have HRp := Lib.hid (show Reads W wq.heap.size 1 Ap np (u8s (repBytes i1 e1 d1 ps)) by rw [hW]; exact HRp.out)
  have HRq := Lib.hid (show Reads W wq.heap.size 1 Aq nq_ (u8s (repBytes i2 e2 d2 qs)) by rw [hW]; exact HRq.out)
  have hWs : wq.heap.size ≤ W.heap.size := by rw [hW]; exact Nat.le_refl _
  rw [← hW]
  clear hW c0 z0 c1 z1 c2 z2 c3 z3
  have c0 := K0.c
  have z0 := K0.lt
  have c1 := K1.c
  have z1 := K1.lt
  have c2 := K2.c
  have z2 := K2.lt
  have c3 := K3.c
  have z3 := K3.lt
  go_wp2_with fail
  clear c0 c1 z0 z1 c2 c3
  have hsp := HSP.out
  refine wp_region_held_drew (S := (fun W' => Below W.heap.size W W' ∧ (∀ i, W'.cell? ⟨w.heap.size + 1 + 1, i, none⟩ = #[.int .i64 i1, .int .i64 e1, .bool d1, .slice A m x3][i]?) ∧ (∀ i, W'.cell? ⟨w.heap.size + 1 + 1 + 1, i, none⟩ = #[.int .i64 i2, .int .i64 e2, .bool d2, .slice A2 m2 x4][i]?) ∧ (convert 22 9 (.slice Ap np cp)).run Try.prog W' = .ok (.string (strOf (repBytes i1 e1 d1 ps))) W' ∧ (convert 22 9 (.slice Aq nq_ cq)).run Try.prog W' = .ok (.string (strOf (repBytes i2 e2 d2 qs))) W')) (by kernel_rfl) (⟨(Below.refl W.heap.size W).drew, (K2.below ((Below.refl W.heap.size W).drew) z2).c, (K3.below ((Below.refl W.heap.size W).drew) z3).c, run_str _ 22 9 5 Try.underlying22 Try.underlying5 Try.underlying9 (HRp.out.below (((Below.refl W.heap.size W).drew).mono hWs)), run_str _ 22 9 5 Try.underlying22 Try.underlying5 Try.underlying9 (HRq.out.below (((Below.refl W.heap.size W).drew).mono hWs))⟩) (fun hHeld => ?_)
  refine wpAnyH_take (i := 0) (v := ?_) rfl (by kernel_rfl) (by kernel_rfl) (by kernel_rfl) (fun _ _ _ h => h) (Or.inl ⟨by rfl, ?_⟩) hHeld ?_
  rotate_left
  · intro W hS
    try dsimp only at hS
    go_simp
    try with_reducible rfl
  try simp only [List.getElem_toArray, List.getElem_cons_succ, List.getElem_cons_zero, Act.put, List.setIfInBounds_toArray, List.set_cons_zero, List.set_cons_succ]
  refine wpAnyH_take (i := 1) (v := ?_) rfl (by kernel_rfl) (by kernel_rfl) (by kernel_rfl) (fun _ _ _ h => h) (Or.inl ⟨by rfl, ?_⟩) hHeld ?_
  rotate_left
  · intro W hS
    try dsimp only at hS
    go_simp
    try with_reducible rfl
  try simp only [List.getElem_toArray, List.getElem_cons_succ, List.getElem_cons_zero, Act.put, List.setIfInBounds_toArray, List.set_cons_zero, List.set_cons_succ]
  refine wpAnyH_take (i := 2) (v := ?_) rfl (by kernel_rfl) (by kernel_rfl) (by kernel_rfl) (fun _ _ _ h => h) (Or.inl ⟨by rfl, ?_⟩) hHeld ?_
  rotate_left
  · intro W hS
    try dsimp only at hS
    go_simp
    try with_reducible rfl
  try simp only [List.getElem_toArray, List.getElem_cons_succ, List.getElem_cons_zero, Act.put, List.setIfInBounds_toArray, List.set_cons_zero, List.set_cons_succ]
  refine wpAnyH_ready (rs := [3]) (by kernel_rfl) (by simp) ?_
  refine (AllReadyH.cons rfl (fun K hK => ?_) AllReadyH.nil)
  go_simp
  refine (wnum_any _ _).mono ?_
  rintro en w9 ⟨rfl, rfl⟩
  refine hK.out _ _ (hHeld) (fun hHeld => ?_)
  clear hK K
  try simp only [List.getElem_toArray, List.getElem_cons_succ, List.getElem_cons_zero, Act.put, List.setIfInBounds_toArray, List.set_cons_zero, List.set_cons_succ]
  refine wpAnyH_take (i := 4) (v := ?_) rfl (by kernel_rfl) (by kernel_rfl) (by kernel_rfl) (fun _ _ _ h => h) (Or.inl ⟨by rfl, ?_⟩) hHeld ?_
  rotate_left
  · intro W hS
    try dsimp only at hS
    go_simp
    try with_reducible rfl
  try simp only [List.getElem_toArray, List.getElem_cons_succ, List.getElem_cons_zero, Act.put, List.setIfInBounds_toArray, List.set_cons_zero, List.set_cons_succ]
  refine wpAnyH_take (i := 5) (v := ?_) rfl (by kernel_rfl) (by kernel_rfl) (by kernel_rfl) (fun _ _ _ h => h) (Or.inl ⟨by rfl, ?_⟩) hHeld ?_
  rotate_left
  · intro W hS
    try dsimp only at hS
    go_simp
    try with_reducible rfl
  try simp only [List.getElem_toArray, List.getElem_cons_succ, List.getElem_cons_zero, Act.put, List.setIfInBounds_toArray, List.set_cons_zero, List.set_cons_succ]
  refine wpAnyH_take (i := 6) (v := ?_) rfl (by kernel_rfl) (by kernel_rfl) (by kernel_rfl) (fun _ _ _ h => h) (Or.inl ⟨by rfl, ?_⟩) hHeld ?_
  rotate_left
  · intro W hS
    try dsimp only at hS
    go_simp
    try with_reducible rfl
  try simp only [List.getElem_toArray, List.getElem_cons_succ, List.getElem_cons_zero, Act.put, List.setIfInBounds_toArray, List.set_cons_zero, List.set_cons_succ]
  refine wpAnyH_ready (rs := [7]) (by kernel_rfl) (by simp) ?_
  refine (AllReadyH.cons rfl (fun K hK => ?_) AllReadyH.nil)
  go_simp
  refine (wnum_any _ _).mono ?_
  rintro en w9 ⟨rfl, rfl⟩
  refine hK.out _ _ (hHeld) (fun hHeld => ?_)
  clear hK K
  try simp only [List.getElem_toArray, List.getElem_cons_succ, List.getElem_cons_zero, Act.put, List.setIfInBounds_toArray, List.set_cons_zero, List.set_cons_succ]
  refine wpAnyH_take (i := 8) (v := ?_) rfl (by kernel_rfl) (by kernel_rfl) (by kernel_rfl) (fun _ _ _ h => h) (Or.inl ⟨by rfl, ?_⟩) hHeld ?_
  rotate_left
  · intro W hS
    try dsimp only at hS
    go_simp
    try with_reducible rfl
  try simp only [List.getElem_toArray, List.getElem_cons_succ, List.getElem_cons_zero, Act.put, List.setIfInBounds_toArray, List.set_cons_zero, List.set_cons_succ]
  refine wpAnyH_take (i := 9) (v := ?_) rfl (by kernel_rfl) (by kernel_rfl) (by kernel_rfl) (fun _ _ _ h => h) (Or.inl ⟨by rfl, ?_⟩) hHeld ?_
  rotate_left
  · intro W hS
    try dsimp only at hS
    go_simp
    try with_reducible rfl
  try simp only [List.getElem_toArray, List.getElem_cons_succ, List.getElem_cons_zero, Act.put, List.setIfInBounds_toArray, List.set_cons_zero, List.set_cons_succ]
  refine wpAnyH_take (i := 10) (v := ?_) rfl (by kernel_rfl) (by kernel_rfl) (by kernel_rfl) (fun _ _ _ h => h) (Or.inl ⟨by rfl, ?_⟩) hHeld ?_
  rotate_left
  · intro W hS
    try dsimp only at hS
    go_simp
    try with_reducible rfl
  try simp only [List.getElem_toArray, List.getElem_cons_succ, List.getElem_cons_zero, Act.put, List.setIfInBounds_toArray, List.set_cons_zero, List.set_cons_succ]
  refine wpAnyH_take (i := 11) (v := ?_) rfl (by kernel_rfl) (by kernel_rfl) (by kernel_rfl) (fun _ _ _ h => h) (Or.inl ⟨by rfl, ?_⟩) hHeld ?_
  rotate_left
  · intro W hS
    try dsimp only at hS
    go_simp
    try with_reducible rfl
  try simp only [List.getElem_toArray, List.getElem_cons_succ, List.getElem_cons_zero, Act.put, List.setIfInBounds_toArray, List.set_cons_zero, List.set_cons_succ]
  refine wpAnyH_take (i := 12) (v := ?_) rfl (by kernel_rfl) (by kernel_rfl) (by kernel_rfl) (fun _ _ _ h => h) (Or.inl ⟨by rfl, ?_⟩) hHeld ?_
  rotate_left
  · intro W hS
    try dsimp only at hS
    go_simp
    try with_reducible rfl
  try simp only [List.getElem_toArray, List.getElem_cons_succ, List.getElem_cons_zero, Act.put, List.setIfInBounds_toArray, List.set_cons_zero, List.set_cons_succ]
  refine wpAnyH_take (i := 13) (v := ?_) rfl (by kernel_rfl) (by kernel_rfl) (by kernel_rfl) (fun _ _ _ h => h) (Or.inl ⟨by rfl, ?_⟩) hHeld ?_
  rotate_left
  · intro W hS
    try dsimp only at hS
    go_simp
    try with_reducible rfl
  try simp only [List.getElem_toArray, List.getElem_cons_succ, List.getElem_cons_zero, Act.put, List.setIfInBounds_toArray, List.set_cons_zero, List.set_cons_succ]
  refine wpAnyH_take (i := 14) (v := ?_) rfl (by kernel_rfl) (by kernel_rfl) (by kernel_rfl) (fun _ _ _ h => h) (Or.inl ⟨by rfl, ?_⟩) hHeld ?_
  rotate_left
  · intro W hS
    try dsimp only at hS
    go_simp
    try with_reducible rfl
  try simp only [List.getElem_toArray, List.getElem_cons_succ, List.getElem_cons_zero, Act.put, List.setIfInBounds_toArray, List.set_cons_zero, List.set_cons_succ]
  refine wpAnyH_take (i := 15) (v := ?_) rfl (by kernel_rfl) (by kernel_rfl) (by kernel_rfl) (fun _ _ _ h => h) (Or.inl ⟨by rfl, ?_⟩) hHeld ?_
  rotate_left
  · intro W hS
    try dsimp only at hS
    go_simp
    try with_reducible rfl
  try simp only [List.getElem_toArray, List.getElem_cons_succ, List.getElem_cons_zero, Act.put, List.setIfInBounds_toArray, List.set_cons_zero, List.set_cons_succ]
  refine wpAnyH_take (i := 16) (v := ?_) rfl (by kernel_rfl) (by kernel_rfl) (by kernel_rfl) (fun _ _ _ h => h) (Or.inl ⟨by rfl, ?_⟩) hHeld ?_
  rotate_left
  · intro W hS
    try dsimp only at hS
    go_simp
    try with_reducible rfl
  try simp only [List.getElem_toArray, List.getElem_cons_succ, List.getElem_cons_zero, Act.put, List.setIfInBounds_toArray, List.set_cons_zero, List.set_cons_succ]
  refine wpAnyH_take (i := 17) (v := ?_) rfl (by kernel_rfl) (by kernel_rfl) (by kernel_rfl) (fun _ _ _ h => h) (Or.inl ⟨by rfl, ?_⟩) hHeld ?_
  rotate_left
  · intro W hS
    try dsimp only at hS
    go_simp
    try with_reducible rfl
  try simp only [List.getElem_toArray, List.getElem_cons_succ, List.getElem_cons_zero, Act.put, List.setIfInBounds_toArray, List.set_cons_zero, List.set_cons_succ]
  refine wpAnyH_ready (rs := [18]) (by kernel_rfl) (by simp) ?_
  refine (AllReadyH.cons rfl (fun K hK => ?_) AllReadyH.nil)
  go_simp
  refine (samerep_any (B := w.heap.size) (b := spq) _ ((HP.out.below HBW).below (hHeld.1.mono HBW.size)) ((HQ.out.below HBW).below (hHeld.1.mono HBW.size)) (Nat.le_trans HBW.size hHeld.1.size) HSPQ.out (by omega) (by omega)).mono ?_
  rintro en w9 ⟨rfl, hb⟩
  refine hK.out _ _ (⟨below_after hHeld.1 hb hHeld.1.size, (K2.below (below_after hHeld.1 hb hHeld.1.size) z2).c, (K3.below (below_after hHeld.1 hb hHeld.1.size) z3).c, run_str _ 22 9 5 Try.underlying22 Try.underlying5 Try.underlying9 (HRp.out.below ((below_after hHeld.1 hb hHeld.1.size).mono hWs)), run_str _ 22 9 5 Try.underlying22 Try.underlying5 Try.underlying9 (HRq.out.below ((below_after hHeld.1 hb hHeld.1.size).mono hWs))⟩) (fun hHeld => ?_)
  clear hK K
  try simp only [List.getElem_toArray, List.getElem_cons_succ, List.getElem_cons_zero, Act.put, List.setIfInBounds_toArray, List.set_cons_zero, List.set_cons_succ]
  refine wpAnyH_take (i := 19) (v := ?_) rfl (by kernel_rfl) (by kernel_rfl) (by kernel_rfl) (fun _ _ _ h => h) (Or.inl ⟨by rfl, ?_⟩) hHeld ?_
  rotate_left
  · intro W hS
    try dsimp only at hS
    go_simp
    try with_reducible rfl
  try simp only [List.getElem_toArray, List.getElem_cons_succ, List.getElem_cons_zero, Act.put, List.setIfInBounds_toArray, List.set_cons_zero, List.set_cons_succ]
  refine wpAnyH_take (i := 20) (v := ?_) rfl (by kernel_rfl) (by kernel_rfl) (by kernel_rfl) (fun _ _ _ h => h) (Or.inl ⟨by rfl, ?_⟩) hHeld ?_
  rotate_left
  · intro W hS
    try dsimp only at hS
    go_simp
    try with_reducible rfl
  try simp only [List.getElem_toArray, List.getElem_cons_succ, List.getElem_cons_zero, Act.put, List.setIfInBounds_toArray, List.set_cons_zero, List.set_cons_succ]
  refine wpAnyH_take (i := 21) (v := ?_) rfl (by kernel_rfl) (by kernel_rfl) (by kernel_rfl) (fun _ _ _ h => h) (Or.inl ⟨by rfl, ?_⟩) hHeld ?_
  rotate_left
  · intro W hS
    try dsimp only at hS
    go_simp
    try with_reducible rfl
  try simp only [List.getElem_toArray, List.getElem_cons_succ, List.getElem_cons_zero, Act.put, List.setIfInBounds_toArray, List.set_cons_zero, List.set_cons_succ]
  refine wpAnyH_take (i := 22) (v := ?_) rfl (by kernel_rfl) (by kernel_rfl) (by kernel_rfl) (fun _ _ _ h => h) (Or.inl ⟨by rfl, ?_⟩) hHeld ?_
  rotate_left
  · intro W hS
    try dsimp only at hS
    go_simp
    try with_reducible rfl
  try simp only [List.getElem_toArray, List.getElem_cons_succ, List.getElem_cons_zero, Act.put, List.setIfInBounds_toArray, List.set_cons_zero, List.set_cons_succ]
  refine wpAnyH_done (by kernel_rfl) ?_ _
  go_wp2_with fail
  go_ret
  exact ⟨rfl, HBW.trans (hHeld.1.mono HBW.size)⟩

set_option maxRecDepth 100000 in
set_option maxHeartbeats 4000000 in
theorem apart_ynnn (k id u v q a k' id' u' v' q' a' i1 e1 i2 e2 : Int) (d1 d2 : Bool) {A A2 : Option Addr} {m x3 m2 x4 : Nat} {ps qs : List Pr} (w : World) (hR : Reads w w.heap.size 2 A m (prCells ps)) (hR2 : Reads w w.heap.size 2 A2 m2 (prCells qs)) (h60 : ¬ 60 < m) (h602 : ¬ 60 < m2)
    (oa : Req.ok ⟨k, id, u, v, q, a⟩) (ob : Req.ok ⟨k', id', u', v', q', a'⟩) (op : Rep.ok ⟨i1, e1, d1, ps⟩) (oq : Rep.ok ⟨i2, e2, d2, qs⟩) (ma : Req.may ⟨k, id, u, v, q, a⟩ = true) (mb : Req.may ⟨k', id', u', v', q', a'⟩ = false) (mp : repB i1 e1 d1 ps = false) (mq : repB i2 e2 d2 qs = false) : Calls Try.prog 9 #[.agg #[.int .i64 k, .int .i64 id, .int .i64 u, .int .i64 v, .int .i64 q, .int .i64 a], .agg #[.int .i64 k', .int .i64 id', .int .i64 u', .int .i64 v', .int .i64 q', .int .i64 a'], .agg #[.int .i64 i1, .int .i64 e1, .bool d1, .slice A m x3], .agg #[.int .i64 i2, .int .i64 e2, .bool d2, .slice A2 m2 x4]] w fun e w' => e = .returned (.bool true) ∧ Below w.heap.size w w' := by
  have hpl := reads_plen hR
  have hql := reads_plen hR2
  have HP := Lib.hid hR
  have HQ := Lib.hid hR2
  have HA := Lib.hid oa
  have HBo := Lib.hid ob
  have HPo := Lib.hid op
  have HQo := Lib.hid oq
  have MA := Lib.hid ma
  have MB := Lib.hid mb
  have MP := Lib.hid mp
  have MQ := Lib.hid mq
  clear hR hR2 oa ob op oq ma mb mp mq hpl hql
  go_enter Try.func9, Try.ntmps9
  go_wp2_with fail
  refine (alive2_any _).mono ?_
  rintro en w1 ⟨rfl, hb⟩
  have K0 := Blk.on (g := w.heap.size) (t := 50) (cs := #[.int .i64 k, .int .i64 id, .int .i64 u, .int .i64 v, .int .i64 q, .int .i64 a]) (by repeat (first | exact Blk.at_ _ _ _ (by simp) | refine Blk.alloc ?_ _)) hb
  have K1 := Blk.on (g := w.heap.size + 1) (t := 50) (cs := #[.int .i64 k', .int .i64 id', .int .i64 u', .int .i64 v', .int .i64 q', .int .i64 a']) (by repeat (first | exact Blk.at_ _ _ _ (by simp) | refine Blk.alloc ?_ _)) hb
  have K2 := Blk.on (g := w.heap.size + 1 + 1) (t := 59) (cs := #[.int .i64 i1, .int .i64 e1, .bool d1, .slice A m x3]) (by repeat (first | exact Blk.at_ _ _ _ (by simp) | refine Blk.alloc ?_ _)) hb
  have K3 := Blk.on (g := w.heap.size + 1 + 1 + 1) (t := 59) (cs := #[.int .i64 i2, .int .i64 e2, .bool d2, .slice A2 m2 x4]) (by repeat (first | exact Blk.at_ _ _ _ (by simp) | refine Blk.alloc ?_ _)) hb
  have HB : Below w.heap.size w w1 := by repeat (first | exact Below.refl _ _ | refine Below.setCell ?_ (by first | omega | (simp; done) | (simp; omega)) _ | refine Below.alloc ?_ (by first | omega | (simp; done) | (simp; omega)) _ | refine Below.drew ?_ | refine below_drewN ?_ _ | refine below_after ?_ (by assumption) (by first | omega | (simp; done) | (simp; omega)))
  have c0 := K0.c
  have z0 := K0.lt
  have c1 := K1.c
  have z1 := K1.lt
  have c2 := K2.c
  have z2 := K2.lt
  have c3 := K3.c
  have z3 := K3.lt
  clear hb
  go_wp2_with fail
  refine (req_yes ⟨k, id, u, v, q, a⟩ HA.out MA.out _).mono ?_
  rintro en wx ⟨xx, rfl, hown, hb⟩
  obtain ⟨nx, hnx⟩ : ∃ n, n = (Req.bytes ⟨k, id, u, v, q, a⟩).length := ⟨_, rfl⟩
  rw [← hnx] at hown
  obtain ⟨Ax, cx, rfl⟩ := own_form hown
  have K0 := K0.on hb
  have K1 := K1.on hb
  have K2 := K2.on hb
  have K3 := K3.on hb
  have HB := below_after HB hb HB.size
  have HRx := Lib.hid (Reads.of_own hown)
  clear hown hnx
  clear hb c0 z0 c1 z1 c2 z2 c3 z3
  have c0 := K0.c
  have z0 := K0.lt
  have c1 := K1.c
  have z1 := K1.lt
  have c2 := K2.c
  have z2 := K2.lt
  have c3 := K3.c
  have z3 := K3.lt
  go_wp2_with fail
  refine (req_no ⟨k', id', u', v', q', a'⟩ MB.out _).mono ?_
  rintro en wy ⟨rfl, hb⟩
  have K0 := K0.on hb
  have K1 := K1.on hb
  have K2 := K2.on hb
  have K3 := K3.on hb
  have HB := below_after HB hb HB.size
  have HRx := Lib.hid ((HRx.out.below hb).more hb.size)
  clear hb c0 z0 c1 z1 c2 z2 c3 z3
  have c0 := K0.c
  have z0 := K0.lt
  have c1 := K1.c
  have z1 := K1.lt
  have c2 := K2.c
  have z2 := K2.lt
  have c3 := K3.c
  have z3 := K3.lt
  go_wp2_with fail
  refine (rep_no (l := ps) i1 e1 d1 _ (HP.out.below HB) HB.size (by omega) MP.out).mono ?_
  rintro en wp ⟨rfl, hb⟩
  have K0 := K0.on hb
  have K1 := K1.on hb
  have K2 := K2.on hb
  have K3 := K3.on hb
  have HB := below_after HB hb HB.size
  have HRx := Lib.hid ((HRx.out.below hb).more hb.size)
  clear hb c0 z0 c1 z1 c2 z2 c3 z3
  have c0 := K0.c
  have z0 := K0.lt
  have c1 := K1.c
  have z1 := K1.lt
  have c2 := K2.c
  have z2 := K2.lt
  have c3 := K3.c
  have z3 := K3.lt
  go_wp2_with fail
  refine (rep_no (l := qs) i2 e2 d2 _ (HQ.out.below HB) HB.size (by omega) MQ.out).mono ?_
  rintro en wq ⟨rfl, hb⟩
  have K0 := K0.on hb
  have K1 := K1.on hb
  have K2 := K2.on hb
  have K3 := K3.on hb
  have HB := below_after HB hb HB.size
  have HRx := Lib.hid ((HRx.out.below hb).more hb.size)
  clear hb c0 z0 c1 z1 c2 z2 c3 z3
  have c0 := K0.c
  have z0 := K0.lt
  have c1 := K1.c
  have z1 := K1.lt
  have c2 := K2.c
  have z2 := K2.lt
  have c3 := K3.c
  have z3 := K3.lt
  go_wp2_with fail
  go_quiet ((go_at_call 35; exact quiet_w (wnum_any _ _)))
  obtain ⟨W, hW⟩ : ∃ W : World, W = wq.drewN nq := ⟨_, rfl⟩
  have HBW : Below w.heap.size w W := by rw [hW]; exact below_drewN HB _
  have K0 : Blk W (w.heap.size) 50 #[.int .i64 k, .int .i64 id, .int .i64 u, .int .i64 v, .int .i64 q, .int .i64 a] := by rw [hW]; exact K0
  have K1 : Blk W (w.heap.size + 1) 50 #[.int .i64 k', .int .i64 id', .int .i64 u', .int .i64 v', .int .i64 q', .int .i64 a'] := by rw [hW]; exact K1
  have K2 : Blk W (w.heap.size + 1 + 1) 59 #[.int .i64 i1, .int .i64 e1, .bool d1, .slice A m x3] := by rw [hW]; exact K2
  have K3 : Blk W (w.heap.size + 1 + 1 + 1) 59 #[.int .i64 i2, .int .i64 e2, .bool d2, .slice A2 m2 x4] := by rw [hW]; exact K3
  rw [← hW]
  clear hW c0 z0 c1 z1 c2 z2 c3 z3
  have c0 := K0.c
  have z0 := K0.lt
  have c1 := K1.c
  have z1 := K1.lt
  have c2 := K2.c
  have z2 := K2.lt
  have c3 := K3.c
  have z3 := K3.lt
  go_wp2_with fail
  go_quiet ((go_at_call 35; exact quiet_w (wnum_any _ _)))
  go_wp2_with fail
  go_ret
  exact ⟨rfl, below_drewN HBW _⟩

set_option maxRecDepth 100000 in
set_option maxHeartbeats 4000000 in
theorem apart_ynny (k id u v q a k' id' u' v' q' a' i1 e1 i2 e2 : Int) (d1 d2 : Bool) {A A2 : Option Addr} {m x3 m2 x4 : Nat} {ps qs : List Pr} (w : World) (hR : Reads w w.heap.size 2 A m (prCells ps)) (hR2 : Reads w w.heap.size 2 A2 m2 (prCells qs)) (h60 : ¬ 60 < m) (h602 : ¬ 60 < m2)
    (oa : Req.ok ⟨k, id, u, v, q, a⟩) (ob : Req.ok ⟨k', id', u', v', q', a'⟩) (op : Rep.ok ⟨i1, e1, d1, ps⟩) (oq : Rep.ok ⟨i2, e2, d2, qs⟩) (ma : Req.may ⟨k, id, u, v, q, a⟩ = true) (mb : Req.may ⟨k', id', u', v', q', a'⟩ = false) (mp : repB i1 e1 d1 ps = false) (mq : repB i2 e2 d2 qs = true) : Calls Try.prog 9 #[.agg #[.int .i64 k, .int .i64 id, .int .i64 u, .int .i64 v, .int .i64 q, .int .i64 a], .agg #[.int .i64 k', .int .i64 id', .int .i64 u', .int .i64 v', .int .i64 q', .int .i64 a'], .agg #[.int .i64 i1, .int .i64 e1, .bool d1, .slice A m x3], .agg #[.int .i64 i2, .int .i64 e2, .bool d2, .slice A2 m2 x4]] w fun e w' => e = .returned (.bool true) ∧ Below w.heap.size w w' := by
  have hpl := reads_plen hR
  have hql := reads_plen hR2
  have HP := Lib.hid hR
  have HQ := Lib.hid hR2
  have HA := Lib.hid oa
  have HBo := Lib.hid ob
  have HPo := Lib.hid op
  have HQo := Lib.hid oq
  have MA := Lib.hid ma
  have MB := Lib.hid mb
  have MP := Lib.hid mp
  have MQ := Lib.hid mq
  clear hR hR2 oa ob op oq ma mb mp mq hpl hql
  go_enter Try.func9, Try.ntmps9
  go_wp2_with fail
  refine (alive2_any _).mono ?_
  rintro en w1 ⟨rfl, hb⟩
  have K0 := Blk.on (g := w.heap.size) (t := 50) (cs := #[.int .i64 k, .int .i64 id, .int .i64 u, .int .i64 v, .int .i64 q, .int .i64 a]) (by repeat (first | exact Blk.at_ _ _ _ (by simp) | refine Blk.alloc ?_ _)) hb
  have K1 := Blk.on (g := w.heap.size + 1) (t := 50) (cs := #[.int .i64 k', .int .i64 id', .int .i64 u', .int .i64 v', .int .i64 q', .int .i64 a']) (by repeat (first | exact Blk.at_ _ _ _ (by simp) | refine Blk.alloc ?_ _)) hb
  have K2 := Blk.on (g := w.heap.size + 1 + 1) (t := 59) (cs := #[.int .i64 i1, .int .i64 e1, .bool d1, .slice A m x3]) (by repeat (first | exact Blk.at_ _ _ _ (by simp) | refine Blk.alloc ?_ _)) hb
  have K3 := Blk.on (g := w.heap.size + 1 + 1 + 1) (t := 59) (cs := #[.int .i64 i2, .int .i64 e2, .bool d2, .slice A2 m2 x4]) (by repeat (first | exact Blk.at_ _ _ _ (by simp) | refine Blk.alloc ?_ _)) hb
  have HB : Below w.heap.size w w1 := by repeat (first | exact Below.refl _ _ | refine Below.setCell ?_ (by first | omega | (simp; done) | (simp; omega)) _ | refine Below.alloc ?_ (by first | omega | (simp; done) | (simp; omega)) _ | refine Below.drew ?_ | refine below_drewN ?_ _ | refine below_after ?_ (by assumption) (by first | omega | (simp; done) | (simp; omega)))
  have c0 := K0.c
  have z0 := K0.lt
  have c1 := K1.c
  have z1 := K1.lt
  have c2 := K2.c
  have z2 := K2.lt
  have c3 := K3.c
  have z3 := K3.lt
  clear hb
  go_wp2_with fail
  refine (req_yes ⟨k, id, u, v, q, a⟩ HA.out MA.out _).mono ?_
  rintro en wx ⟨xx, rfl, hown, hb⟩
  obtain ⟨nx, hnx⟩ : ∃ n, n = (Req.bytes ⟨k, id, u, v, q, a⟩).length := ⟨_, rfl⟩
  rw [← hnx] at hown
  obtain ⟨Ax, cx, rfl⟩ := own_form hown
  have K0 := K0.on hb
  have K1 := K1.on hb
  have K2 := K2.on hb
  have K3 := K3.on hb
  have HB := below_after HB hb HB.size
  have HRx := Lib.hid (Reads.of_own hown)
  clear hown hnx
  clear hb c0 z0 c1 z1 c2 z2 c3 z3
  have c0 := K0.c
  have z0 := K0.lt
  have c1 := K1.c
  have z1 := K1.lt
  have c2 := K2.c
  have z2 := K2.lt
  have c3 := K3.c
  have z3 := K3.lt
  go_wp2_with fail
  refine (req_no ⟨k', id', u', v', q', a'⟩ MB.out _).mono ?_
  rintro en wy ⟨rfl, hb⟩
  have K0 := K0.on hb
  have K1 := K1.on hb
  have K2 := K2.on hb
  have K3 := K3.on hb
  have HB := below_after HB hb HB.size
  have HRx := Lib.hid ((HRx.out.below hb).more hb.size)
  clear hb c0 z0 c1 z1 c2 z2 c3 z3
  have c0 := K0.c
  have z0 := K0.lt
  have c1 := K1.c
  have z1 := K1.lt
  have c2 := K2.c
  have z2 := K2.lt
  have c3 := K3.c
  have z3 := K3.lt
  go_wp2_with fail
  refine (rep_no (l := ps) i1 e1 d1 _ (HP.out.below HB) HB.size (by omega) MP.out).mono ?_
  rintro en wp ⟨rfl, hb⟩
  have K0 := K0.on hb
  have K1 := K1.on hb
  have K2 := K2.on hb
  have K3 := K3.on hb
  have HB := below_after HB hb HB.size
  have HRx := Lib.hid ((HRx.out.below hb).more hb.size)
  clear hb c0 z0 c1 z1 c2 z2 c3 z3
  have c0 := K0.c
  have z0 := K0.lt
  have c1 := K1.c
  have z1 := K1.lt
  have c2 := K2.c
  have z2 := K2.lt
  have c3 := K3.c
  have z3 := K3.lt
  go_wp2_with fail
  refine (rep_yes (l := qs) i2 e2 d2 _ (HQ.out.below HB) HB.size (by omega) HQo.out.1 HQo.out.2.2 MQ.out).mono ?_
  rintro en wq ⟨xq, rfl, hown, hb⟩
  obtain ⟨nq_, hnq⟩ : ∃ n, n = (repBytes i2 e2 d2 qs).length := ⟨_, rfl⟩
  rw [← hnq] at hown
  obtain ⟨Aq, cq, rfl⟩ := own_form hown
  have K0 := K0.on hb
  have K1 := K1.on hb
  have K2 := K2.on hb
  have K3 := K3.on hb
  have HB := below_after HB hb HB.size
  have HRx := Lib.hid ((HRx.out.below hb).more hb.size)
  have HRq := Lib.hid (Reads.of_own hown)
  clear hown hnq
  clear hb c0 z0 c1 z1 c2 z2 c3 z3
  have c0 := K0.c
  have z0 := K0.lt
  have c1 := K1.c
  have z1 := K1.lt
  have c2 := K2.c
  have z2 := K2.lt
  have c3 := K3.c
  have z3 := K3.lt
  go_wp2_with fail
  go_quiet ((go_at_call 35; exact quiet_w (wnum_any _ _)))
  obtain ⟨W, hW⟩ : ∃ W : World, W = wq.drewN nq := ⟨_, rfl⟩
  have HBW : Below w.heap.size w W := by rw [hW]; exact below_drewN HB _
  have K0 : Blk W (w.heap.size) 50 #[.int .i64 k, .int .i64 id, .int .i64 u, .int .i64 v, .int .i64 q, .int .i64 a] := by rw [hW]; exact K0
  have K1 : Blk W (w.heap.size + 1) 50 #[.int .i64 k', .int .i64 id', .int .i64 u', .int .i64 v', .int .i64 q', .int .i64 a'] := by rw [hW]; exact K1
  have K2 : Blk W (w.heap.size + 1 + 1) 59 #[.int .i64 i1, .int .i64 e1, .bool d1, .slice A m x3] := by rw [hW]; exact K2
  have K3 : Blk W (w.heap.size + 1 + 1 + 1) 59 #[.int .i64 i2, .int .i64 e2, .bool d2, .slice A2 m2 x4] := by rw [hW]; exact K3
  rw [← hW]
  clear hW c0 z0 c1 z1 c2 z2 c3 z3
  have c0 := K0.c
  have z0 := K0.lt
  have c1 := K1.c
  have z1 := K1.lt
  have c2 := K2.c
  have z2 := K2.lt
  have c3 := K3.c
  have z3 := K3.lt
  go_wp2_with fail
  go_quiet ((go_at_call 35; exact quiet_w (wnum_any _ _)))
  go_wp2_with fail
  go_ret
  exact ⟨rfl, below_drewN HBW _⟩

set_option maxRecDepth 100000 in
set_option maxHeartbeats 4000000 in
theorem apart_ynyn (k id u v q a k' id' u' v' q' a' i1 e1 i2 e2 : Int) (d1 d2 : Bool) {A A2 : Option Addr} {m x3 m2 x4 : Nat} {ps qs : List Pr} (w : World) (hR : Reads w w.heap.size 2 A m (prCells ps)) (hR2 : Reads w w.heap.size 2 A2 m2 (prCells qs)) (h60 : ¬ 60 < m) (h602 : ¬ 60 < m2)
    (oa : Req.ok ⟨k, id, u, v, q, a⟩) (ob : Req.ok ⟨k', id', u', v', q', a'⟩) (op : Rep.ok ⟨i1, e1, d1, ps⟩) (oq : Rep.ok ⟨i2, e2, d2, qs⟩) (ma : Req.may ⟨k, id, u, v, q, a⟩ = true) (mb : Req.may ⟨k', id', u', v', q', a'⟩ = false) (mp : repB i1 e1 d1 ps = true) (mq : repB i2 e2 d2 qs = false) : Calls Try.prog 9 #[.agg #[.int .i64 k, .int .i64 id, .int .i64 u, .int .i64 v, .int .i64 q, .int .i64 a], .agg #[.int .i64 k', .int .i64 id', .int .i64 u', .int .i64 v', .int .i64 q', .int .i64 a'], .agg #[.int .i64 i1, .int .i64 e1, .bool d1, .slice A m x3], .agg #[.int .i64 i2, .int .i64 e2, .bool d2, .slice A2 m2 x4]] w fun e w' => e = .returned (.bool true) ∧ Below w.heap.size w w' := by
  have hpl := reads_plen hR
  have hql := reads_plen hR2
  have HP := Lib.hid hR
  have HQ := Lib.hid hR2
  have HA := Lib.hid oa
  have HBo := Lib.hid ob
  have HPo := Lib.hid op
  have HQo := Lib.hid oq
  have MA := Lib.hid ma
  have MB := Lib.hid mb
  have MP := Lib.hid mp
  have MQ := Lib.hid mq
  clear hR hR2 oa ob op oq ma mb mp mq hpl hql
  go_enter Try.func9, Try.ntmps9
  go_wp2_with fail
  refine (alive2_any _).mono ?_
  rintro en w1 ⟨rfl, hb⟩
  have K0 := Blk.on (g := w.heap.size) (t := 50) (cs := #[.int .i64 k, .int .i64 id, .int .i64 u, .int .i64 v, .int .i64 q, .int .i64 a]) (by repeat (first | exact Blk.at_ _ _ _ (by simp) | refine Blk.alloc ?_ _)) hb
  have K1 := Blk.on (g := w.heap.size + 1) (t := 50) (cs := #[.int .i64 k', .int .i64 id', .int .i64 u', .int .i64 v', .int .i64 q', .int .i64 a']) (by repeat (first | exact Blk.at_ _ _ _ (by simp) | refine Blk.alloc ?_ _)) hb
  have K2 := Blk.on (g := w.heap.size + 1 + 1) (t := 59) (cs := #[.int .i64 i1, .int .i64 e1, .bool d1, .slice A m x3]) (by repeat (first | exact Blk.at_ _ _ _ (by simp) | refine Blk.alloc ?_ _)) hb
  have K3 := Blk.on (g := w.heap.size + 1 + 1 + 1) (t := 59) (cs := #[.int .i64 i2, .int .i64 e2, .bool d2, .slice A2 m2 x4]) (by repeat (first | exact Blk.at_ _ _ _ (by simp) | refine Blk.alloc ?_ _)) hb
  have HB : Below w.heap.size w w1 := by repeat (first | exact Below.refl _ _ | refine Below.setCell ?_ (by first | omega | (simp; done) | (simp; omega)) _ | refine Below.alloc ?_ (by first | omega | (simp; done) | (simp; omega)) _ | refine Below.drew ?_ | refine below_drewN ?_ _ | refine below_after ?_ (by assumption) (by first | omega | (simp; done) | (simp; omega)))
  have c0 := K0.c
  have z0 := K0.lt
  have c1 := K1.c
  have z1 := K1.lt
  have c2 := K2.c
  have z2 := K2.lt
  have c3 := K3.c
  have z3 := K3.lt
  clear hb
  go_wp2_with fail
  refine (req_yes ⟨k, id, u, v, q, a⟩ HA.out MA.out _).mono ?_
  rintro en wx ⟨xx, rfl, hown, hb⟩
  obtain ⟨nx, hnx⟩ : ∃ n, n = (Req.bytes ⟨k, id, u, v, q, a⟩).length := ⟨_, rfl⟩
  rw [← hnx] at hown
  obtain ⟨Ax, cx, rfl⟩ := own_form hown
  have K0 := K0.on hb
  have K1 := K1.on hb
  have K2 := K2.on hb
  have K3 := K3.on hb
  have HB := below_after HB hb HB.size
  have HRx := Lib.hid (Reads.of_own hown)
  clear hown hnx
  clear hb c0 z0 c1 z1 c2 z2 c3 z3
  have c0 := K0.c
  have z0 := K0.lt
  have c1 := K1.c
  have z1 := K1.lt
  have c2 := K2.c
  have z2 := K2.lt
  have c3 := K3.c
  have z3 := K3.lt
  go_wp2_with fail
  refine (req_no ⟨k', id', u', v', q', a'⟩ MB.out _).mono ?_
  rintro en wy ⟨rfl, hb⟩
  have K0 := K0.on hb
  have K1 := K1.on hb
  have K2 := K2.on hb
  have K3 := K3.on hb
  have HB := below_after HB hb HB.size
  have HRx := Lib.hid ((HRx.out.below hb).more hb.size)
  clear hb c0 z0 c1 z1 c2 z2 c3 z3
  have c0 := K0.c
  have z0 := K0.lt
  have c1 := K1.c
  have z1 := K1.lt
  have c2 := K2.c
  have z2 := K2.lt
  have c3 := K3.c
  have z3 := K3.lt
  go_wp2_with fail
  refine (rep_yes (l := ps) i1 e1 d1 _ (HP.out.below HB) HB.size (by omega) HPo.out.1 HPo.out.2.2 MP.out).mono ?_
  rintro en wp ⟨xp, rfl, hown, hb⟩
  obtain ⟨np, hnp⟩ : ∃ n, n = (repBytes i1 e1 d1 ps).length := ⟨_, rfl⟩
  rw [← hnp] at hown
  obtain ⟨Ap, cp, rfl⟩ := own_form hown
  have K0 := K0.on hb
  have K1 := K1.on hb
  have K2 := K2.on hb
  have K3 := K3.on hb
  have HB := below_after HB hb HB.size
  have HRx := Lib.hid ((HRx.out.below hb).more hb.size)
  have HRp := Lib.hid (Reads.of_own hown)
  clear hown hnp
  clear hb c0 z0 c1 z1 c2 z2 c3 z3
  have c0 := K0.c
  have z0 := K0.lt
  have c1 := K1.c
  have z1 := K1.lt
  have c2 := K2.c
  have z2 := K2.lt
  have c3 := K3.c
  have z3 := K3.lt
  go_wp2_with fail
  refine (rep_no (l := qs) i2 e2 d2 _ (HQ.out.below HB) HB.size (by omega) MQ.out).mono ?_
  rintro en wq ⟨rfl, hb⟩
  have K0 := K0.on hb
  have K1 := K1.on hb
  have K2 := K2.on hb
  have K3 := K3.on hb
  have HB := below_after HB hb HB.size
  have HRx := Lib.hid ((HRx.out.below hb).more hb.size)
  have HRp := Lib.hid ((HRp.out.below hb).more hb.size)
  clear hb c0 z0 c1 z1 c2 z2 c3 z3
  have c0 := K0.c
  have z0 := K0.lt
  have c1 := K1.c
  have z1 := K1.lt
  have c2 := K2.c
  have z2 := K2.lt
  have c3 := K3.c
  have z3 := K3.lt
  go_wp2_with fail
  go_quiet ((go_at_call 35; exact quiet_w (wnum_any _ _)))
  obtain ⟨W, hW⟩ : ∃ W : World, W = wq.drewN nq := ⟨_, rfl⟩
  have HBW : Below w.heap.size w W := by rw [hW]; exact below_drewN HB _
  have K0 : Blk W (w.heap.size) 50 #[.int .i64 k, .int .i64 id, .int .i64 u, .int .i64 v, .int .i64 q, .int .i64 a] := by rw [hW]; exact K0
  have K1 : Blk W (w.heap.size + 1) 50 #[.int .i64 k', .int .i64 id', .int .i64 u', .int .i64 v', .int .i64 q', .int .i64 a'] := by rw [hW]; exact K1
  have K2 : Blk W (w.heap.size + 1 + 1) 59 #[.int .i64 i1, .int .i64 e1, .bool d1, .slice A m x3] := by rw [hW]; exact K2
  have K3 : Blk W (w.heap.size + 1 + 1 + 1) 59 #[.int .i64 i2, .int .i64 e2, .bool d2, .slice A2 m2 x4] := by rw [hW]; exact K3
  rw [← hW]
  clear hW c0 z0 c1 z1 c2 z2 c3 z3
  have c0 := K0.c
  have z0 := K0.lt
  have c1 := K1.c
  have z1 := K1.lt
  have c2 := K2.c
  have z2 := K2.lt
  have c3 := K3.c
  have z3 := K3.lt
  go_wp2_with fail
  go_quiet ((go_at_call 35; exact quiet_w (wnum_any _ _)))
  go_wp2_with fail
  go_ret
  exact ⟨rfl, below_drewN HBW _⟩

set_option maxRecDepth 100000 in
set_option maxHeartbeats 4000000 in
theorem apart_ynyy (k id u v q a k' id' u' v' q' a' i1 e1 i2 e2 : Int) (d1 d2 : Bool) {A A2 : Option Addr} {m x3 m2 x4 : Nat} {ps qs : List Pr} (w : World) (hR : Reads w w.heap.size 2 A m (prCells ps)) (hR2 : Reads w w.heap.size 2 A2 m2 (prCells qs)) (h60 : ¬ 60 < m) (h602 : ¬ 60 < m2)
    (oa : Req.ok ⟨k, id, u, v, q, a⟩) (ob : Req.ok ⟨k', id', u', v', q', a'⟩) (op : Rep.ok ⟨i1, e1, d1, ps⟩) (oq : Rep.ok ⟨i2, e2, d2, qs⟩) (ma : Req.may ⟨k, id, u, v, q, a⟩ = true) (mb : Req.may ⟨k', id', u', v', q', a'⟩ = false) (mp : repB i1 e1 d1 ps = true) (mq : repB i2 e2 d2 qs = true) : Calls Try.prog 9 #[.agg #[.int .i64 k, .int .i64 id, .int .i64 u, .int .i64 v, .int .i64 q, .int .i64 a], .agg #[.int .i64 k', .int .i64 id', .int .i64 u', .int .i64 v', .int .i64 q', .int .i64 a'], .agg #[.int .i64 i1, .int .i64 e1, .bool d1, .slice A m x3], .agg #[.int .i64 i2, .int .i64 e2, .bool d2, .slice A2 m2 x4]] w fun e w' => e = .returned (.bool true) ∧ Below w.heap.size w w' := by
  have hpl := reads_plen hR
  have hql := reads_plen hR2
  have HP := Lib.hid hR
  have HQ := Lib.hid hR2
  have HA := Lib.hid oa
  have HBo := Lib.hid ob
  have HPo := Lib.hid op
  have HQo := Lib.hid oq
  have MA := Lib.hid ma
  have MB := Lib.hid mb
  have MP := Lib.hid mp
  have MQ := Lib.hid mq
  obtain ⟨spq, hspq⟩ : ∃ s : Bool, s = true ↔ (⟨i1, e1, d1, ps⟩ : Rep) = ⟨i2, e2, d2, qs⟩ := bool_of _
  have HSP := Lib.hid (str_eq (b := spq) (xs := repBytes i1 e1 d1 ps) (ys := repBytes i2 e2 d2 qs) (rep_byte _ _ _ _) (rep_byte _ _ _ _) ⟨fun h => by have := hspq.1 h; injection this with x1 x2 x3 x4; rw [x1, x2, x3, x4], fun h => hspq.2 (rep_inj op oq mp mq (by show ps.length ≤ _; omega) (by show qs.length ≤ _; omega) h)⟩)
  have HSPQ := Lib.hid (show spq = true ↔ i1 = i2 ∧ e1 = e2 ∧ d1 = d2 ∧ ps = qs from ⟨fun h => by have := hspq.1 h; injection this with x1 x2 x3 x4; exact ⟨x1, x2, x3, x4⟩, fun h => hspq.2 (by rw [h.1, h.2.1, h.2.2.1, h.2.2.2])⟩)
  have hpp : (spq == spq) = true := by simp
  clear hspq
  clear hR hR2 oa ob op oq ma mb mp mq hpl hql
  go_enter Try.func9, Try.ntmps9
  go_wp2_with fail
  refine (alive2_any _).mono ?_
  rintro en w1 ⟨rfl, hb⟩
  have K0 := Blk.on (g := w.heap.size) (t := 50) (cs := #[.int .i64 k, .int .i64 id, .int .i64 u, .int .i64 v, .int .i64 q, .int .i64 a]) (by repeat (first | exact Blk.at_ _ _ _ (by simp) | refine Blk.alloc ?_ _)) hb
  have K1 := Blk.on (g := w.heap.size + 1) (t := 50) (cs := #[.int .i64 k', .int .i64 id', .int .i64 u', .int .i64 v', .int .i64 q', .int .i64 a']) (by repeat (first | exact Blk.at_ _ _ _ (by simp) | refine Blk.alloc ?_ _)) hb
  have K2 := Blk.on (g := w.heap.size + 1 + 1) (t := 59) (cs := #[.int .i64 i1, .int .i64 e1, .bool d1, .slice A m x3]) (by repeat (first | exact Blk.at_ _ _ _ (by simp) | refine Blk.alloc ?_ _)) hb
  have K3 := Blk.on (g := w.heap.size + 1 + 1 + 1) (t := 59) (cs := #[.int .i64 i2, .int .i64 e2, .bool d2, .slice A2 m2 x4]) (by repeat (first | exact Blk.at_ _ _ _ (by simp) | refine Blk.alloc ?_ _)) hb
  have HB : Below w.heap.size w w1 := by repeat (first | exact Below.refl _ _ | refine Below.setCell ?_ (by first | omega | (simp; done) | (simp; omega)) _ | refine Below.alloc ?_ (by first | omega | (simp; done) | (simp; omega)) _ | refine Below.drew ?_ | refine below_drewN ?_ _ | refine below_after ?_ (by assumption) (by first | omega | (simp; done) | (simp; omega)))
  have c0 := K0.c
  have z0 := K0.lt
  have c1 := K1.c
  have z1 := K1.lt
  have c2 := K2.c
  have z2 := K2.lt
  have c3 := K3.c
  have z3 := K3.lt
  clear hb
  go_wp2_with fail
  refine (req_yes ⟨k, id, u, v, q, a⟩ HA.out MA.out _).mono ?_
  rintro en wx ⟨xx, rfl, hown, hb⟩
  obtain ⟨nx, hnx⟩ : ∃ n, n = (Req.bytes ⟨k, id, u, v, q, a⟩).length := ⟨_, rfl⟩
  rw [← hnx] at hown
  obtain ⟨Ax, cx, rfl⟩ := own_form hown
  have K0 := K0.on hb
  have K1 := K1.on hb
  have K2 := K2.on hb
  have K3 := K3.on hb
  have HB := below_after HB hb HB.size
  have HRx := Lib.hid (Reads.of_own hown)
  clear hown hnx
  clear hb c0 z0 c1 z1 c2 z2 c3 z3
  have c0 := K0.c
  have z0 := K0.lt
  have c1 := K1.c
  have z1 := K1.lt
  have c2 := K2.c
  have z2 := K2.lt
  have c3 := K3.c
  have z3 := K3.lt
  go_wp2_with fail
  refine (req_no ⟨k', id', u', v', q', a'⟩ MB.out _).mono ?_
  rintro en wy ⟨rfl, hb⟩
  have K0 := K0.on hb
  have K1 := K1.on hb
  have K2 := K2.on hb
  have K3 := K3.on hb
  have HB := below_after HB hb HB.size
  have HRx := Lib.hid ((HRx.out.below hb).more hb.size)
  clear hb c0 z0 c1 z1 c2 z2 c3 z3
  have c0 := K0.c
  have z0 := K0.lt
  have c1 := K1.c
  have z1 := K1.lt
  have c2 := K2.c
  have z2 := K2.lt
  have c3 := K3.c
  have z3 := K3.lt
  go_wp2_with fail
  refine (rep_yes (l := ps) i1 e1 d1 _ (HP.out.below HB) HB.size (by omega) HPo.out.1 HPo.out.2.2 MP.out).mono ?_
  rintro en wp ⟨xp, rfl, hown, hb⟩
  obtain ⟨np, hnp⟩ : ∃ n, n = (repBytes i1 e1 d1 ps).length := ⟨_, rfl⟩
  rw [← hnp] at hown
  obtain ⟨Ap, cp, rfl⟩ := own_form hown
  have K0 := K0.on hb
  have K1 := K1.on hb
  have K2 := K2.on hb
  have K3 := K3.on hb
  have HB := below_after HB hb HB.size
  have HRx := Lib.hid ((HRx.out.below hb).more hb.size)
  have HRp := Lib.hid (Reads.of_own hown)
  clear hown hnp
  clear hb c0 z0 c1 z1 c2 z2 c3 z3
  have c0 := K0.c
  have z0 := K0.lt
  have c1 := K1.c
  have z1 := K1.lt
  have c2 := K2.c
  have z2 := K2.lt
  have c3 := K3.c
  have z3 := K3.lt
  go_wp2_with fail
  refine (rep_yes (l := qs) i2 e2 d2 _ (HQ.out.below HB) HB.size (by omega) HQo.out.1 HQo.out.2.2 MQ.out).mono ?_
  rintro en wq ⟨xq, rfl, hown, hb⟩
  obtain ⟨nq_, hnq⟩ : ∃ n, n = (repBytes i2 e2 d2 qs).length := ⟨_, rfl⟩
  rw [← hnq] at hown
  obtain ⟨Aq, cq, rfl⟩ := own_form hown
  have K0 := K0.on hb
  have K1 := K1.on hb
  have K2 := K2.on hb
  have K3 := K3.on hb
  have HB := below_after HB hb HB.size
  have HRx := Lib.hid ((HRx.out.below hb).more hb.size)
  have HRp := Lib.hid ((HRp.out.below hb).more hb.size)
  have HRq := Lib.hid (Reads.of_own hown)
  clear hown hnq
  clear hb c0 z0 c1 z1 c2 z2 c3 z3
  have c0 := K0.c
  have z0 := K0.lt
  have c1 := K1.c
  have z1 := K1.lt
  have c2 := K2.c
  have z2 := K2.lt
  have c3 := K3.c
  have z3 := K3.lt
  go_wp2_with fail
  go_quiet ((go_at_call 35; exact quiet_w (wnum_any _ _)))
  obtain ⟨W, hW⟩ : ∃ W : World, W = wq.drewN nq := ⟨_, rfl⟩
  have HBW : Below w.heap.size w W := by rw [hW]; exact below_drewN HB _
  have K0 : Blk W (w.heap.size) 50 #[.int .i64 k, .int .i64 id, .int .i64 u, .int .i64 v, .int .i64 q, .int .i64 a] := by rw [hW]; exact K0
  have K1 : Blk W (w.heap.size + 1) 50 #[.int .i64 k', .int .i64 id', .int .i64 u', .int .i64 v', .int .i64 q', .int .i64 a'] := by rw [hW]; exact K1
  have K2 : Blk W (w.heap.size + 1 + 1) 59 #[.int .i64 i1, .int .i64 e1, .bool d1, .slice A m x3] := by rw [hW]; exact K2
  have K3 : Blk W (w.heap.size + 1 + 1 + 1) 59 #[.int .i64 i2, .int .i64 e2, .bool d2, .slice A2 m2 x4] := by rw [hW]; exact K3
  have HRp := Lib.hid (show Reads W wq.heap.size 1 Ap np (u8s (repBytes i1 e1 d1 ps)) by rw [hW]; exact HRp.out)
  have HRq := Lib.hid (show Reads W wq.heap.size 1 Aq nq_ (u8s (repBytes i2 e2 d2 qs)) by rw [hW]; exact HRq.out)
  have hWs : wq.heap.size ≤ W.heap.size := by rw [hW]; exact Nat.le_refl _
  rw [← hW]
  clear hW c0 z0 c1 z1 c2 z2 c3 z3
  have c0 := K0.c
  have z0 := K0.lt
  have c1 := K1.c
  have z1 := K1.lt
  have c2 := K2.c
  have z2 := K2.lt
  have c3 := K3.c
  have z3 := K3.lt
  go_wp2_with fail
  clear c0 c1 z0 z1 c2 c3
  have hsp := HSP.out
  refine wp_region_held_drew (S := (fun W' => Below W.heap.size W W' ∧ (∀ i, W'.cell? ⟨w.heap.size + 1 + 1, i, none⟩ = #[.int .i64 i1, .int .i64 e1, .bool d1, .slice A m x3][i]?) ∧ (∀ i, W'.cell? ⟨w.heap.size + 1 + 1 + 1, i, none⟩ = #[.int .i64 i2, .int .i64 e2, .bool d2, .slice A2 m2 x4][i]?) ∧ (convert 22 9 (.slice Ap np cp)).run Try.prog W' = .ok (.string (strOf (repBytes i1 e1 d1 ps))) W' ∧ (convert 22 9 (.slice Aq nq_ cq)).run Try.prog W' = .ok (.string (strOf (repBytes i2 e2 d2 qs))) W')) (by kernel_rfl) (⟨(Below.refl W.heap.size W).drew, (K2.below ((Below.refl W.heap.size W).drew) z2).c, (K3.below ((Below.refl W.heap.size W).drew) z3).c, run_str _ 22 9 5 Try.underlying22 Try.underlying5 Try.underlying9 (HRp.out.below (((Below.refl W.heap.size W).drew).mono hWs)), run_str _ 22 9 5 Try.underlying22 Try.underlying5 Try.underlying9 (HRq.out.below (((Below.refl W.heap.size W).drew).mono hWs))⟩) (fun hHeld => ?_)
  refine wpAnyH_take (i := 0) (v := ?_) rfl (by kernel_rfl) (by kernel_rfl) (by kernel_rfl) (fun _ _ _ h => h) (Or.inl ⟨by rfl, ?_⟩) hHeld ?_
  rotate_left
  · intro W hS
    try dsimp only at hS
    go_simp
    try with_reducible rfl
  try simp only [List.getElem_toArray, List.getElem_cons_succ, List.getElem_cons_zero, Act.put, List.setIfInBounds_toArray, List.set_cons_zero, List.set_cons_succ]
  refine wpAnyH_take (i := 1) (v := ?_) rfl (by kernel_rfl) (by kernel_rfl) (by kernel_rfl) (fun _ _ _ h => h) (Or.inl ⟨by rfl, ?_⟩) hHeld ?_
  rotate_left
  · intro W hS
    try dsimp only at hS
    go_simp
    try with_reducible rfl
  try simp only [List.getElem_toArray, List.getElem_cons_succ, List.getElem_cons_zero, Act.put, List.setIfInBounds_toArray, List.set_cons_zero, List.set_cons_succ]
  refine wpAnyH_take (i := 2) (v := ?_) rfl (by kernel_rfl) (by kernel_rfl) (by kernel_rfl) (fun _ _ _ h => h) (Or.inl ⟨by rfl, ?_⟩) hHeld ?_
  rotate_left
  · intro W hS
    try dsimp only at hS
    go_simp
    try with_reducible rfl
  try simp only [List.getElem_toArray, List.getElem_cons_succ, List.getElem_cons_zero, Act.put, List.setIfInBounds_toArray, List.set_cons_zero, List.set_cons_succ]
  refine wpAnyH_ready (rs := [3]) (by kernel_rfl) (by simp) ?_
  refine (AllReadyH.cons rfl (fun K hK => ?_) AllReadyH.nil)
  go_simp
  refine (wnum_any _ _).mono ?_
  rintro en w9 ⟨rfl, rfl⟩
  refine hK.out _ _ (hHeld) (fun hHeld => ?_)
  clear hK K
  try simp only [List.getElem_toArray, List.getElem_cons_succ, List.getElem_cons_zero, Act.put, List.setIfInBounds_toArray, List.set_cons_zero, List.set_cons_succ]
  refine wpAnyH_take (i := 4) (v := ?_) rfl (by kernel_rfl) (by kernel_rfl) (by kernel_rfl) (fun _ _ _ h => h) (Or.inl ⟨by rfl, ?_⟩) hHeld ?_
  rotate_left
  · intro W hS
    try dsimp only at hS
    go_simp
    try with_reducible rfl
  try simp only [List.getElem_toArray, List.getElem_cons_succ, List.getElem_cons_zero, Act.put, List.setIfInBounds_toArray, List.set_cons_zero, List.set_cons_succ]
  refine wpAnyH_take (i := 5) (v := ?_) rfl (by kernel_rfl) (by kernel_rfl) (by kernel_rfl) (fun _ _ _ h => h) (Or.inl ⟨by rfl, ?_⟩) hHeld ?_
  rotate_left
  · intro W hS
    try dsimp only at hS
    go_simp
    try with_reducible rfl
  try simp only [List.getElem_toArray, List.getElem_cons_succ, List.getElem_cons_zero, Act.put, List.setIfInBounds_toArray, List.set_cons_zero, List.set_cons_succ]
  refine wpAnyH_take (i := 6) (v := ?_) rfl (by kernel_rfl) (by kernel_rfl) (by kernel_rfl) (fun _ _ _ h => h) (Or.inl ⟨by rfl, ?_⟩) hHeld ?_
  rotate_left
  · intro W hS
    try dsimp only at hS
    go_simp
    try with_reducible rfl
  try simp only [List.getElem_toArray, List.getElem_cons_succ, List.getElem_cons_zero, Act.put, List.setIfInBounds_toArray, List.set_cons_zero, List.set_cons_succ]
  refine wpAnyH_ready (rs := [7]) (by kernel_rfl) (by simp) ?_
  refine (AllReadyH.cons rfl (fun K hK => ?_) AllReadyH.nil)
  go_simp
  refine (wnum_any _ _).mono ?_
  rintro en w9 ⟨rfl, rfl⟩
  refine hK.out _ _ (hHeld) (fun hHeld => ?_)
  clear hK K
  try simp only [List.getElem_toArray, List.getElem_cons_succ, List.getElem_cons_zero, Act.put, List.setIfInBounds_toArray, List.set_cons_zero, List.set_cons_succ]
  refine wpAnyH_take (i := 8) (v := ?_) rfl (by kernel_rfl) (by kernel_rfl) (by kernel_rfl) (fun _ _ _ h => h) (Or.inl ⟨by rfl, ?_⟩) hHeld ?_
  rotate_left
  · intro W hS
    try dsimp only at hS
    go_simp
    try with_reducible rfl
  try simp only [List.getElem_toArray, List.getElem_cons_succ, List.getElem_cons_zero, Act.put, List.setIfInBounds_toArray, List.set_cons_zero, List.set_cons_succ]
  refine wpAnyH_take (i := 9) (v := ?_) rfl (by kernel_rfl) (by kernel_rfl) (by kernel_rfl) (fun _ _ _ h => h) (Or.inl ⟨by rfl, ?_⟩) hHeld ?_
  rotate_left
  · intro W hS
    try dsimp only at hS
    go_simp
    try with_reducible rfl
  try simp only [List.getElem_toArray, List.getElem_cons_succ, List.getElem_cons_zero, Act.put, List.setIfInBounds_toArray, List.set_cons_zero, List.set_cons_succ]
  refine wpAnyH_take (i := 10) (v := ?_) rfl (by kernel_rfl) (by kernel_rfl) (by kernel_rfl) (fun _ _ _ h => h) (Or.inl ⟨by rfl, ?_⟩) hHeld ?_
  rotate_left
  · intro W hS
    try dsimp only at hS
    go_simp
    try with_reducible rfl
  try simp only [List.getElem_toArray, List.getElem_cons_succ, List.getElem_cons_zero, Act.put, List.setIfInBounds_toArray, List.set_cons_zero, List.set_cons_succ]
  refine wpAnyH_take (i := 11) (v := ?_) rfl (by kernel_rfl) (by kernel_rfl) (by kernel_rfl) (fun _ _ _ h => h) (Or.inl ⟨by rfl, ?_⟩) hHeld ?_
  rotate_left
  · intro W hS
    try dsimp only at hS
    go_simp
    try with_reducible rfl
  try simp only [List.getElem_toArray, List.getElem_cons_succ, List.getElem_cons_zero, Act.put, List.setIfInBounds_toArray, List.set_cons_zero, List.set_cons_succ]
  refine wpAnyH_take (i := 12) (v := ?_) rfl (by kernel_rfl) (by kernel_rfl) (by kernel_rfl) (fun _ _ _ h => h) (Or.inl ⟨by rfl, ?_⟩) hHeld ?_
  rotate_left
  · intro W hS
    try dsimp only at hS
    go_simp
    try with_reducible rfl
  try simp only [List.getElem_toArray, List.getElem_cons_succ, List.getElem_cons_zero, Act.put, List.setIfInBounds_toArray, List.set_cons_zero, List.set_cons_succ]
  refine wpAnyH_take (i := 13) (v := ?_) rfl (by kernel_rfl) (by kernel_rfl) (by kernel_rfl) (fun _ _ _ h => h) (Or.inl ⟨by rfl, ?_⟩) hHeld ?_
  rotate_left
  · intro W hS
    try dsimp only at hS
    go_simp
    try with_reducible rfl
  try simp only [List.getElem_toArray, List.getElem_cons_succ, List.getElem_cons_zero, Act.put, List.setIfInBounds_toArray, List.set_cons_zero, List.set_cons_succ]
  refine wpAnyH_take (i := 14) (v := ?_) rfl (by kernel_rfl) (by kernel_rfl) (by kernel_rfl) (fun _ _ _ h => h) (Or.inl ⟨by rfl, ?_⟩) hHeld ?_
  rotate_left
  · intro W hS
    try dsimp only at hS
    go_simp
    try with_reducible rfl
  try simp only [List.getElem_toArray, List.getElem_cons_succ, List.getElem_cons_zero, Act.put, List.setIfInBounds_toArray, List.set_cons_zero, List.set_cons_succ]
  refine wpAnyH_take (i := 15) (v := ?_) rfl (by kernel_rfl) (by kernel_rfl) (by kernel_rfl) (fun _ _ _ h => h) (Or.inl ⟨by rfl, ?_⟩) hHeld ?_
  rotate_left
  · intro W hS
    try dsimp only at hS
    go_simp
    try with_reducible rfl
  try simp only [List.getElem_toArray, List.getElem_cons_succ, List.getElem_cons_zero, Act.put, List.setIfInBounds_toArray, List.set_cons_zero, List.set_cons_succ]
  refine wpAnyH_take (i := 16) (v := ?_) rfl (by kernel_rfl) (by kernel_rfl) (by kernel_rfl) (fun _ _ _ h => h) (Or.inl ⟨by rfl, ?_⟩) hHeld ?_
  rotate_left
  · intro W hS
    try dsimp only at hS
    go_simp
    try with_reducible rfl
  try simp only [List.getElem_toArray, List.getElem_cons_succ, List.getElem_cons_zero, Act.put, List.setIfInBounds_toArray, List.set_cons_zero, List.set_cons_succ]
  refine wpAnyH_take (i := 17) (v := ?_) rfl (by kernel_rfl) (by kernel_rfl) (by kernel_rfl) (fun _ _ _ h => h) (Or.inl ⟨by rfl, ?_⟩) hHeld ?_
  rotate_left
  · intro W hS
    try dsimp only at hS
    go_simp
    try with_reducible rfl
  try simp only [List.getElem_toArray, List.getElem_cons_succ, List.getElem_cons_zero, Act.put, List.setIfInBounds_toArray, List.set_cons_zero, List.set_cons_succ]
  refine wpAnyH_ready (rs := [18]) (by kernel_rfl) (by simp) ?_
  refine (AllReadyH.cons rfl (fun K hK => ?_) AllReadyH.nil)
  go_simp
  refine (samerep_any (B := w.heap.size) (b := spq) _ ((HP.out.below HBW).below (hHeld.1.mono HBW.size)) ((HQ.out.below HBW).below (hHeld.1.mono HBW.size)) (Nat.le_trans HBW.size hHeld.1.size) HSPQ.out (by omega) (by omega)).mono ?_
  rintro en w9 ⟨rfl, hb⟩
  refine hK.out _ _ (⟨below_after hHeld.1 hb hHeld.1.size, (K2.below (below_after hHeld.1 hb hHeld.1.size) z2).c, (K3.below (below_after hHeld.1 hb hHeld.1.size) z3).c, run_str _ 22 9 5 Try.underlying22 Try.underlying5 Try.underlying9 (HRp.out.below ((below_after hHeld.1 hb hHeld.1.size).mono hWs)), run_str _ 22 9 5 Try.underlying22 Try.underlying5 Try.underlying9 (HRq.out.below ((below_after hHeld.1 hb hHeld.1.size).mono hWs))⟩) (fun hHeld => ?_)
  clear hK K
  try simp only [List.getElem_toArray, List.getElem_cons_succ, List.getElem_cons_zero, Act.put, List.setIfInBounds_toArray, List.set_cons_zero, List.set_cons_succ]
  refine wpAnyH_take (i := 19) (v := ?_) rfl (by kernel_rfl) (by kernel_rfl) (by kernel_rfl) (fun _ _ _ h => h) (Or.inl ⟨by rfl, ?_⟩) hHeld ?_
  rotate_left
  · intro W hS
    try dsimp only at hS
    go_simp
    try with_reducible rfl
  try simp only [List.getElem_toArray, List.getElem_cons_succ, List.getElem_cons_zero, Act.put, List.setIfInBounds_toArray, List.set_cons_zero, List.set_cons_succ]
  refine wpAnyH_take (i := 20) (v := ?_) rfl (by kernel_rfl) (by kernel_rfl) (by kernel_rfl) (fun _ _ _ h => h) (Or.inl ⟨by rfl, ?_⟩) hHeld ?_
  rotate_left
  · intro W hS
    try dsimp only at hS
    go_simp
    try with_reducible rfl
  try simp only [List.getElem_toArray, List.getElem_cons_succ, List.getElem_cons_zero, Act.put, List.setIfInBounds_toArray, List.set_cons_zero, List.set_cons_succ]
  refine wpAnyH_take (i := 21) (v := ?_) rfl (by kernel_rfl) (by kernel_rfl) (by kernel_rfl) (fun _ _ _ h => h) (Or.inl ⟨by rfl, ?_⟩) hHeld ?_
  rotate_left
  · intro W hS
    try dsimp only at hS
    go_simp
    try with_reducible rfl
  try simp only [List.getElem_toArray, List.getElem_cons_succ, List.getElem_cons_zero, Act.put, List.setIfInBounds_toArray, List.set_cons_zero, List.set_cons_succ]
  refine wpAnyH_take (i := 22) (v := ?_) rfl (by kernel_rfl) (by kernel_rfl) (by kernel_rfl) (fun _ _ _ h => h) (Or.inl ⟨by rfl, ?_⟩) hHeld ?_
  rotate_left
  · intro W hS
    try dsimp only at hS
    go_simp
    try with_reducible rfl
  try simp only [List.getElem_toArray, List.getElem_cons_succ, List.getElem_cons_zero, Act.put, List.setIfInBounds_toArray, List.set_cons_zero, List.set_cons_succ]
  refine wpAnyH_done (by kernel_rfl) ?_ _
  go_wp2_with fail
  go_ret
  exact ⟨rfl, HBW.trans (hHeld.1.mono HBW.size)⟩

set_option maxRecDepth 100000 in
set_option maxHeartbeats 4000000 in
theorem apart_yynn (k id u v q a k' id' u' v' q' a' i1 e1 i2 e2 : Int) (d1 d2 : Bool) {A A2 : Option Addr} {m x3 m2 x4 : Nat} {ps qs : List Pr} (w : World) (hR : Reads w w.heap.size 2 A m (prCells ps)) (hR2 : Reads w w.heap.size 2 A2 m2 (prCells qs)) (h60 : ¬ 60 < m) (h602 : ¬ 60 < m2)
    (oa : Req.ok ⟨k, id, u, v, q, a⟩) (ob : Req.ok ⟨k', id', u', v', q', a'⟩) (op : Rep.ok ⟨i1, e1, d1, ps⟩) (oq : Rep.ok ⟨i2, e2, d2, qs⟩) (ma : Req.may ⟨k, id, u, v, q, a⟩ = true) (mb : Req.may ⟨k', id', u', v', q', a'⟩ = true) (mp : repB i1 e1 d1 ps = false) (mq : repB i2 e2 d2 qs = false) : Calls Try.prog 9 #[.agg #[.int .i64 k, .int .i64 id, .int .i64 u, .int .i64 v, .int .i64 q, .int .i64 a], .agg #[.int .i64 k', .int .i64 id', .int .i64 u', .int .i64 v', .int .i64 q', .int .i64 a'], .agg #[.int .i64 i1, .int .i64 e1, .bool d1, .slice A m x3], .agg #[.int .i64 i2, .int .i64 e2, .bool d2, .slice A2 m2 x4]] w fun e w' => e = .returned (.bool true) ∧ Below w.heap.size w w' := by
  have hpl := reads_plen hR
  have hql := reads_plen hR2
  have HP := Lib.hid hR
  have HQ := Lib.hid hR2
  have HA := Lib.hid oa
  have HBo := Lib.hid ob
  have HPo := Lib.hid op
  have HQo := Lib.hid oq
  have MA := Lib.hid ma
  have MB := Lib.hid mb
  have MP := Lib.hid mp
  have MQ := Lib.hid mq
  obtain ⟨sab, hsab⟩ : ∃ s : Bool, s = true ↔ (⟨k, id, u, v, q, a⟩ : Req) = ⟨k', id', u', v', q', a'⟩ := bool_of _
  have HSA := Lib.hid (str_eq (b := sab) (xs := Req.bytes ⟨k, id, u, v, q, a⟩) (ys := Req.bytes ⟨k', id', u', v', q', a'⟩) (encs_byte _) (encs_byte _) ⟨fun h => by rw [hsab.1 h], fun h => hsab.2 (req_inj oa ob ma mb h)⟩)
  have heqr := run_req hsab
  have HEQR := Lib.hid heqr
  have hss : (sab == sab) = true := by simp
  clear heqr hsab
  clear hR hR2 oa ob op oq ma mb mp mq hpl hql
  go_enter Try.func9, Try.ntmps9
  go_wp2_with fail
  refine (alive2_any _).mono ?_
  rintro en w1 ⟨rfl, hb⟩
  have K0 := Blk.on (g := w.heap.size) (t := 50) (cs := #[.int .i64 k, .int .i64 id, .int .i64 u, .int .i64 v, .int .i64 q, .int .i64 a]) (by repeat (first | exact Blk.at_ _ _ _ (by simp) | refine Blk.alloc ?_ _)) hb
  have K1 := Blk.on (g := w.heap.size + 1) (t := 50) (cs := #[.int .i64 k', .int .i64 id', .int .i64 u', .int .i64 v', .int .i64 q', .int .i64 a']) (by repeat (first | exact Blk.at_ _ _ _ (by simp) | refine Blk.alloc ?_ _)) hb
  have K2 := Blk.on (g := w.heap.size + 1 + 1) (t := 59) (cs := #[.int .i64 i1, .int .i64 e1, .bool d1, .slice A m x3]) (by repeat (first | exact Blk.at_ _ _ _ (by simp) | refine Blk.alloc ?_ _)) hb
  have K3 := Blk.on (g := w.heap.size + 1 + 1 + 1) (t := 59) (cs := #[.int .i64 i2, .int .i64 e2, .bool d2, .slice A2 m2 x4]) (by repeat (first | exact Blk.at_ _ _ _ (by simp) | refine Blk.alloc ?_ _)) hb
  have HB : Below w.heap.size w w1 := by repeat (first | exact Below.refl _ _ | refine Below.setCell ?_ (by first | omega | (simp; done) | (simp; omega)) _ | refine Below.alloc ?_ (by first | omega | (simp; done) | (simp; omega)) _ | refine Below.drew ?_ | refine below_drewN ?_ _ | refine below_after ?_ (by assumption) (by first | omega | (simp; done) | (simp; omega)))
  have c0 := K0.c
  have z0 := K0.lt
  have c1 := K1.c
  have z1 := K1.lt
  have c2 := K2.c
  have z2 := K2.lt
  have c3 := K3.c
  have z3 := K3.lt
  clear hb
  go_wp2_with fail
  refine (req_yes ⟨k, id, u, v, q, a⟩ HA.out MA.out _).mono ?_
  rintro en wx ⟨xx, rfl, hown, hb⟩
  obtain ⟨nx, hnx⟩ : ∃ n, n = (Req.bytes ⟨k, id, u, v, q, a⟩).length := ⟨_, rfl⟩
  rw [← hnx] at hown
  obtain ⟨Ax, cx, rfl⟩ := own_form hown
  have K0 := K0.on hb
  have K1 := K1.on hb
  have K2 := K2.on hb
  have K3 := K3.on hb
  have HB := below_after HB hb HB.size
  have HRx := Lib.hid (Reads.of_own hown)
  clear hown hnx
  clear hb c0 z0 c1 z1 c2 z2 c3 z3
  have c0 := K0.c
  have z0 := K0.lt
  have c1 := K1.c
  have z1 := K1.lt
  have c2 := K2.c
  have z2 := K2.lt
  have c3 := K3.c
  have z3 := K3.lt
  go_wp2_with fail
  refine (req_yes ⟨k', id', u', v', q', a'⟩ HBo.out MB.out _).mono ?_
  rintro en wy ⟨xy, rfl, hown, hb⟩
  obtain ⟨ny, hny⟩ : ∃ n, n = (Req.bytes ⟨k', id', u', v', q', a'⟩).length := ⟨_, rfl⟩
  rw [← hny] at hown
  obtain ⟨Ay, cy, rfl⟩ := own_form hown
  have K0 := K0.on hb
  have K1 := K1.on hb
  have K2 := K2.on hb
  have K3 := K3.on hb
  have HB := below_after HB hb HB.size
  have HRx := Lib.hid ((HRx.out.below hb).more hb.size)
  have HRy := Lib.hid (Reads.of_own hown)
  clear hown hny
  clear hb c0 z0 c1 z1 c2 z2 c3 z3
  have c0 := K0.c
  have z0 := K0.lt
  have c1 := K1.c
  have z1 := K1.lt
  have c2 := K2.c
  have z2 := K2.lt
  have c3 := K3.c
  have z3 := K3.lt
  go_wp2_with fail
  refine (rep_no (l := ps) i1 e1 d1 _ (HP.out.below HB) HB.size (by omega) MP.out).mono ?_
  rintro en wp ⟨rfl, hb⟩
  have K0 := K0.on hb
  have K1 := K1.on hb
  have K2 := K2.on hb
  have K3 := K3.on hb
  have HB := below_after HB hb HB.size
  have HRx := Lib.hid ((HRx.out.below hb).more hb.size)
  have HRy := Lib.hid ((HRy.out.below hb).more hb.size)
  clear hb c0 z0 c1 z1 c2 z2 c3 z3
  have c0 := K0.c
  have z0 := K0.lt
  have c1 := K1.c
  have z1 := K1.lt
  have c2 := K2.c
  have z2 := K2.lt
  have c3 := K3.c
  have z3 := K3.lt
  go_wp2_with fail
  refine (rep_no (l := qs) i2 e2 d2 _ (HQ.out.below HB) HB.size (by omega) MQ.out).mono ?_
  rintro en wq ⟨rfl, hb⟩
  have K0 := K0.on hb
  have K1 := K1.on hb
  have K2 := K2.on hb
  have K3 := K3.on hb
  have HB := below_after HB hb HB.size
  have HRx := Lib.hid ((HRx.out.below hb).more hb.size)
  have HRy := Lib.hid ((HRy.out.below hb).more hb.size)
  clear hb c0 z0 c1 z1 c2 z2 c3 z3
  have c0 := K0.c
  have z0 := K0.lt
  have c1 := K1.c
  have z1 := K1.lt
  have c2 := K2.c
  have z2 := K2.lt
  have c3 := K3.c
  have z3 := K3.lt
  have hx1 := fun nn : Nat => run_str (wq.drewN nn) 22 9 5 (c := cx) Try.underlying22 Try.underlying5 Try.underlying9 (HRx.out.drewN nn)
  have hy1 := fun nn : Nat => run_str (wq.drewN nn) 22 9 5 (c := cy) Try.underlying22 Try.underlying5 Try.underlying9 (HRy.out.drewN nn)
  have hsa := HSA.out
  have heqr := HEQR.out
  go_wp2_with fail
  go_quiet ((go_at_call 35; exact quiet_w (wnum_any _ _)))
  clear hx1 hy1 hsa heqr hss
  obtain ⟨W, hW⟩ : ∃ W : World, W = wq.drewN nq := ⟨_, rfl⟩
  have HBW : Below w.heap.size w W := by rw [hW]; exact below_drewN HB _
  have K0 : Blk W (w.heap.size) 50 #[.int .i64 k, .int .i64 id, .int .i64 u, .int .i64 v, .int .i64 q, .int .i64 a] := by rw [hW]; exact K0
  have K1 : Blk W (w.heap.size + 1) 50 #[.int .i64 k', .int .i64 id', .int .i64 u', .int .i64 v', .int .i64 q', .int .i64 a'] := by rw [hW]; exact K1
  have K2 : Blk W (w.heap.size + 1 + 1) 59 #[.int .i64 i1, .int .i64 e1, .bool d1, .slice A m x3] := by rw [hW]; exact K2
  have K3 : Blk W (w.heap.size + 1 + 1 + 1) 59 #[.int .i64 i2, .int .i64 e2, .bool d2, .slice A2 m2 x4] := by rw [hW]; exact K3
  rw [← hW]
  clear hW c0 z0 c1 z1 c2 z2 c3 z3
  have c0 := K0.c
  have z0 := K0.lt
  have c1 := K1.c
  have z1 := K1.lt
  have c2 := K2.c
  have z2 := K2.lt
  have c3 := K3.c
  have z3 := K3.lt
  go_wp2_with fail
  go_quiet ((go_at_call 35; exact quiet_w (wnum_any _ _)))
  go_wp2_with fail
  go_ret
  exact ⟨rfl, below_drewN HBW _⟩

set_option maxRecDepth 100000 in
set_option maxHeartbeats 4000000 in
theorem apart_yyny (k id u v q a k' id' u' v' q' a' i1 e1 i2 e2 : Int) (d1 d2 : Bool) {A A2 : Option Addr} {m x3 m2 x4 : Nat} {ps qs : List Pr} (w : World) (hR : Reads w w.heap.size 2 A m (prCells ps)) (hR2 : Reads w w.heap.size 2 A2 m2 (prCells qs)) (h60 : ¬ 60 < m) (h602 : ¬ 60 < m2)
    (oa : Req.ok ⟨k, id, u, v, q, a⟩) (ob : Req.ok ⟨k', id', u', v', q', a'⟩) (op : Rep.ok ⟨i1, e1, d1, ps⟩) (oq : Rep.ok ⟨i2, e2, d2, qs⟩) (ma : Req.may ⟨k, id, u, v, q, a⟩ = true) (mb : Req.may ⟨k', id', u', v', q', a'⟩ = true) (mp : repB i1 e1 d1 ps = false) (mq : repB i2 e2 d2 qs = true) : Calls Try.prog 9 #[.agg #[.int .i64 k, .int .i64 id, .int .i64 u, .int .i64 v, .int .i64 q, .int .i64 a], .agg #[.int .i64 k', .int .i64 id', .int .i64 u', .int .i64 v', .int .i64 q', .int .i64 a'], .agg #[.int .i64 i1, .int .i64 e1, .bool d1, .slice A m x3], .agg #[.int .i64 i2, .int .i64 e2, .bool d2, .slice A2 m2 x4]] w fun e w' => e = .returned (.bool true) ∧ Below w.heap.size w w' := by
  have hpl := reads_plen hR
  have hql := reads_plen hR2
  have HP := Lib.hid hR
  have HQ := Lib.hid hR2
  have HA := Lib.hid oa
  have HBo := Lib.hid ob
  have HPo := Lib.hid op
  have HQo := Lib.hid oq
  have MA := Lib.hid ma
  have MB := Lib.hid mb
  have MP := Lib.hid mp
  have MQ := Lib.hid mq
  obtain ⟨sab, hsab⟩ : ∃ s : Bool, s = true ↔ (⟨k, id, u, v, q, a⟩ : Req) = ⟨k', id', u', v', q', a'⟩ := bool_of _
  have HSA := Lib.hid (str_eq (b := sab) (xs := Req.bytes ⟨k, id, u, v, q, a⟩) (ys := Req.bytes ⟨k', id', u', v', q', a'⟩) (encs_byte _) (encs_byte _) ⟨fun h => by rw [hsab.1 h], fun h => hsab.2 (req_inj oa ob ma mb h)⟩)
  have heqr := run_req hsab
  have HEQR := Lib.hid heqr
  have hss : (sab == sab) = true := by simp
  clear heqr hsab
  clear hR hR2 oa ob op oq ma mb mp mq hpl hql
  go_enter Try.func9, Try.ntmps9
  go_wp2_with fail
  refine (alive2_any _).mono ?_
  rintro en w1 ⟨rfl, hb⟩
  have K0 := Blk.on (g := w.heap.size) (t := 50) (cs := #[.int .i64 k, .int .i64 id, .int .i64 u, .int .i64 v, .int .i64 q, .int .i64 a]) (by repeat (first | exact Blk.at_ _ _ _ (by simp) | refine Blk.alloc ?_ _)) hb
  have K1 := Blk.on (g := w.heap.size + 1) (t := 50) (cs := #[.int .i64 k', .int .i64 id', .int .i64 u', .int .i64 v', .int .i64 q', .int .i64 a']) (by repeat (first | exact Blk.at_ _ _ _ (by simp) | refine Blk.alloc ?_ _)) hb
  have K2 := Blk.on (g := w.heap.size + 1 + 1) (t := 59) (cs := #[.int .i64 i1, .int .i64 e1, .bool d1, .slice A m x3]) (by repeat (first | exact Blk.at_ _ _ _ (by simp) | refine Blk.alloc ?_ _)) hb
  have K3 := Blk.on (g := w.heap.size + 1 + 1 + 1) (t := 59) (cs := #[.int .i64 i2, .int .i64 e2, .bool d2, .slice A2 m2 x4]) (by repeat (first | exact Blk.at_ _ _ _ (by simp) | refine Blk.alloc ?_ _)) hb
  have HB : Below w.heap.size w w1 := by repeat (first | exact Below.refl _ _ | refine Below.setCell ?_ (by first | omega | (simp; done) | (simp; omega)) _ | refine Below.alloc ?_ (by first | omega | (simp; done) | (simp; omega)) _ | refine Below.drew ?_ | refine below_drewN ?_ _ | refine below_after ?_ (by assumption) (by first | omega | (simp; done) | (simp; omega)))
  have c0 := K0.c
  have z0 := K0.lt
  have c1 := K1.c
  have z1 := K1.lt
  have c2 := K2.c
  have z2 := K2.lt
  have c3 := K3.c
  have z3 := K3.lt
  clear hb
  go_wp2_with fail
  refine (req_yes ⟨k, id, u, v, q, a⟩ HA.out MA.out _).mono ?_
  rintro en wx ⟨xx, rfl, hown, hb⟩
  obtain ⟨nx, hnx⟩ : ∃ n, n = (Req.bytes ⟨k, id, u, v, q, a⟩).length := ⟨_, rfl⟩
  rw [← hnx] at hown
  obtain ⟨Ax, cx, rfl⟩ := own_form hown
  have K0 := K0.on hb
  have K1 := K1.on hb
  have K2 := K2.on hb
  have K3 := K3.on hb
  have HB := below_after HB hb HB.size
  have HRx := Lib.hid (Reads.of_own hown)
  clear hown hnx
  clear hb c0 z0 c1 z1 c2 z2 c3 z3
  have c0 := K0.c
  have z0 := K0.lt
  have c1 := K1.c
  have z1 := K1.lt
  have c2 := K2.c
  have z2 := K2.lt
  have c3 := K3.c
  have z3 := K3.lt
  go_wp2_with fail
  refine (req_yes ⟨k', id', u', v', q', a'⟩ HBo.out MB.out _).mono ?_
  rintro en wy ⟨xy, rfl, hown, hb⟩
  obtain ⟨ny, hny⟩ : ∃ n, n = (Req.bytes ⟨k', id', u', v', q', a'⟩).length := ⟨_, rfl⟩
  rw [← hny] at hown
  obtain ⟨Ay, cy, rfl⟩ := own_form hown
  have K0 := K0.on hb
  have K1 := K1.on hb
  have K2 := K2.on hb
  have K3 := K3.on hb
  have HB := below_after HB hb HB.size
  have HRx := Lib.hid ((HRx.out.below hb).more hb.size)
  have HRy := Lib.hid (Reads.of_own hown)
  clear hown hny
  clear hb c0 z0 c1 z1 c2 z2 c3 z3
  have c0 := K0.c
  have z0 := K0.lt
  have c1 := K1.c
  have z1 := K1.lt
  have c2 := K2.c
  have z2 := K2.lt
  have c3 := K3.c
  have z3 := K3.lt
  go_wp2_with fail
  refine (rep_no (l := ps) i1 e1 d1 _ (HP.out.below HB) HB.size (by omega) MP.out).mono ?_
  rintro en wp ⟨rfl, hb⟩
  have K0 := K0.on hb
  have K1 := K1.on hb
  have K2 := K2.on hb
  have K3 := K3.on hb
  have HB := below_after HB hb HB.size
  have HRx := Lib.hid ((HRx.out.below hb).more hb.size)
  have HRy := Lib.hid ((HRy.out.below hb).more hb.size)
  clear hb c0 z0 c1 z1 c2 z2 c3 z3
  have c0 := K0.c
  have z0 := K0.lt
  have c1 := K1.c
  have z1 := K1.lt
  have c2 := K2.c
  have z2 := K2.lt
  have c3 := K3.c
  have z3 := K3.lt
  go_wp2_with fail
  refine (rep_yes (l := qs) i2 e2 d2 _ (HQ.out.below HB) HB.size (by omega) HQo.out.1 HQo.out.2.2 MQ.out).mono ?_
  rintro en wq ⟨xq, rfl, hown, hb⟩
  obtain ⟨nq_, hnq⟩ : ∃ n, n = (repBytes i2 e2 d2 qs).length := ⟨_, rfl⟩
  rw [← hnq] at hown
  obtain ⟨Aq, cq, rfl⟩ := own_form hown
  have K0 := K0.on hb
  have K1 := K1.on hb
  have K2 := K2.on hb
  have K3 := K3.on hb
  have HB := below_after HB hb HB.size
  have HRx := Lib.hid ((HRx.out.below hb).more hb.size)
  have HRy := Lib.hid ((HRy.out.below hb).more hb.size)
  have HRq := Lib.hid (Reads.of_own hown)
  clear hown hnq
  clear hb c0 z0 c1 z1 c2 z2 c3 z3
  have c0 := K0.c
  have z0 := K0.lt
  have c1 := K1.c
  have z1 := K1.lt
  have c2 := K2.c
  have z2 := K2.lt
  have c3 := K3.c
  have z3 := K3.lt
  have hx1 := fun nn : Nat => run_str (wq.drewN nn) 22 9 5 (c := cx) Try.underlying22 Try.underlying5 Try.underlying9 (HRx.out.drewN nn)
  have hy1 := fun nn : Nat => run_str (wq.drewN nn) 22 9 5 (c := cy) Try.underlying22 Try.underlying5 Try.underlying9 (HRy.out.drewN nn)
  have hsa := HSA.out
  have heqr := HEQR.out
  go_wp2_with fail
  go_quiet ((go_at_call 35; exact quiet_w (wnum_any _ _)))
  clear hx1 hy1 hsa heqr hss
  obtain ⟨W, hW⟩ : ∃ W : World, W = wq.drewN nq := ⟨_, rfl⟩
  have HBW : Below w.heap.size w W := by rw [hW]; exact below_drewN HB _
  have K0 : Blk W (w.heap.size) 50 #[.int .i64 k, .int .i64 id, .int .i64 u, .int .i64 v, .int .i64 q, .int .i64 a] := by rw [hW]; exact K0
  have K1 : Blk W (w.heap.size + 1) 50 #[.int .i64 k', .int .i64 id', .int .i64 u', .int .i64 v', .int .i64 q', .int .i64 a'] := by rw [hW]; exact K1
  have K2 : Blk W (w.heap.size + 1 + 1) 59 #[.int .i64 i1, .int .i64 e1, .bool d1, .slice A m x3] := by rw [hW]; exact K2
  have K3 : Blk W (w.heap.size + 1 + 1 + 1) 59 #[.int .i64 i2, .int .i64 e2, .bool d2, .slice A2 m2 x4] := by rw [hW]; exact K3
  rw [← hW]
  clear hW c0 z0 c1 z1 c2 z2 c3 z3
  have c0 := K0.c
  have z0 := K0.lt
  have c1 := K1.c
  have z1 := K1.lt
  have c2 := K2.c
  have z2 := K2.lt
  have c3 := K3.c
  have z3 := K3.lt
  go_wp2_with fail
  go_quiet ((go_at_call 35; exact quiet_w (wnum_any _ _)))
  go_wp2_with fail
  go_ret
  exact ⟨rfl, below_drewN HBW _⟩

set_option maxRecDepth 100000 in
set_option maxHeartbeats 4000000 in
theorem apart_yyyn (k id u v q a k' id' u' v' q' a' i1 e1 i2 e2 : Int) (d1 d2 : Bool) {A A2 : Option Addr} {m x3 m2 x4 : Nat} {ps qs : List Pr} (w : World) (hR : Reads w w.heap.size 2 A m (prCells ps)) (hR2 : Reads w w.heap.size 2 A2 m2 (prCells qs)) (h60 : ¬ 60 < m) (h602 : ¬ 60 < m2)
    (oa : Req.ok ⟨k, id, u, v, q, a⟩) (ob : Req.ok ⟨k', id', u', v', q', a'⟩) (op : Rep.ok ⟨i1, e1, d1, ps⟩) (oq : Rep.ok ⟨i2, e2, d2, qs⟩) (ma : Req.may ⟨k, id, u, v, q, a⟩ = true) (mb : Req.may ⟨k', id', u', v', q', a'⟩ = true) (mp : repB i1 e1 d1 ps = true) (mq : repB i2 e2 d2 qs = false) : Calls Try.prog 9 #[.agg #[.int .i64 k, .int .i64 id, .int .i64 u, .int .i64 v, .int .i64 q, .int .i64 a], .agg #[.int .i64 k', .int .i64 id', .int .i64 u', .int .i64 v', .int .i64 q', .int .i64 a'], .agg #[.int .i64 i1, .int .i64 e1, .bool d1, .slice A m x3], .agg #[.int .i64 i2, .int .i64 e2, .bool d2, .slice A2 m2 x4]] w fun e w' => e = .returned (.bool true) ∧ Below w.heap.size w w' := by
  have hpl := reads_plen hR
  have hql := reads_plen hR2
  have HP := Lib.hid hR
  have HQ := Lib.hid hR2
  have HA := Lib.hid oa
  have HBo := Lib.hid ob
  have HPo := Lib.hid op
  have HQo := Lib.hid oq
  have MA := Lib.hid ma
  have MB := Lib.hid mb
  have MP := Lib.hid mp
  have MQ := Lib.hid mq
  obtain ⟨sab, hsab⟩ : ∃ s : Bool, s = true ↔ (⟨k, id, u, v, q, a⟩ : Req) = ⟨k', id', u', v', q', a'⟩ := bool_of _
  have HSA := Lib.hid (str_eq (b := sab) (xs := Req.bytes ⟨k, id, u, v, q, a⟩) (ys := Req.bytes ⟨k', id', u', v', q', a'⟩) (encs_byte _) (encs_byte _) ⟨fun h => by rw [hsab.1 h], fun h => hsab.2 (req_inj oa ob ma mb h)⟩)
  have heqr := run_req hsab
  have HEQR := Lib.hid heqr
  have hss : (sab == sab) = true := by simp
  clear heqr hsab
  clear hR hR2 oa ob op oq ma mb mp mq hpl hql
  go_enter Try.func9, Try.ntmps9
  go_wp2_with fail
  refine (alive2_any _).mono ?_
  rintro en w1 ⟨rfl, hb⟩
  have K0 := Blk.on (g := w.heap.size) (t := 50) (cs := #[.int .i64 k, .int .i64 id, .int .i64 u, .int .i64 v, .int .i64 q, .int .i64 a]) (by repeat (first | exact Blk.at_ _ _ _ (by simp) | refine Blk.alloc ?_ _)) hb
  have K1 := Blk.on (g := w.heap.size + 1) (t := 50) (cs := #[.int .i64 k', .int .i64 id', .int .i64 u', .int .i64 v', .int .i64 q', .int .i64 a']) (by repeat (first | exact Blk.at_ _ _ _ (by simp) | refine Blk.alloc ?_ _)) hb
  have K2 := Blk.on (g := w.heap.size + 1 + 1) (t := 59) (cs := #[.int .i64 i1, .int .i64 e1, .bool d1, .slice A m x3]) (by repeat (first | exact Blk.at_ _ _ _ (by simp) | refine Blk.alloc ?_ _)) hb
  have K3 := Blk.on (g := w.heap.size + 1 + 1 + 1) (t := 59) (cs := #[.int .i64 i2, .int .i64 e2, .bool d2, .slice A2 m2 x4]) (by repeat (first | exact Blk.at_ _ _ _ (by simp) | refine Blk.alloc ?_ _)) hb
  have HB : Below w.heap.size w w1 := by repeat (first | exact Below.refl _ _ | refine Below.setCell ?_ (by first | omega | (simp; done) | (simp; omega)) _ | refine Below.alloc ?_ (by first | omega | (simp; done) | (simp; omega)) _ | refine Below.drew ?_ | refine below_drewN ?_ _ | refine below_after ?_ (by assumption) (by first | omega | (simp; done) | (simp; omega)))
  have c0 := K0.c
  have z0 := K0.lt
  have c1 := K1.c
  have z1 := K1.lt
  have c2 := K2.c
  have z2 := K2.lt
  have c3 := K3.c
  have z3 := K3.lt
  clear hb
  go_wp2_with fail
  refine (req_yes ⟨k, id, u, v, q, a⟩ HA.out MA.out _).mono ?_
  rintro en wx ⟨xx, rfl, hown, hb⟩
  obtain ⟨nx, hnx⟩ : ∃ n, n = (Req.bytes ⟨k, id, u, v, q, a⟩).length := ⟨_, rfl⟩
  rw [← hnx] at hown
  obtain ⟨Ax, cx, rfl⟩ := own_form hown
  have K0 := K0.on hb
  have K1 := K1.on hb
  have K2 := K2.on hb
  have K3 := K3.on hb
  have HB := below_after HB hb HB.size
  have HRx := Lib.hid (Reads.of_own hown)
  clear hown hnx
  clear hb c0 z0 c1 z1 c2 z2 c3 z3
  have c0 := K0.c
  have z0 := K0.lt
  have c1 := K1.c
  have z1 := K1.lt
  have c2 := K2.c
  have z2 := K2.lt
  have c3 := K3.c
  have z3 := K3.lt
  go_wp2_with fail
  refine (req_yes ⟨k', id', u', v', q', a'⟩ HBo.out MB.out _).mono ?_
  rintro en wy ⟨xy, rfl, hown, hb⟩
  obtain ⟨ny, hny⟩ : ∃ n, n = (Req.bytes ⟨k', id', u', v', q', a'⟩).length := ⟨_, rfl⟩
  rw [← hny] at hown
  obtain ⟨Ay, cy, rfl⟩ := own_form hown
  have K0 := K0.on hb
  have K1 := K1.on hb
  have K2 := K2.on hb
  have K3 := K3.on hb
  have HB := below_after HB hb HB.size
  have HRx := Lib.hid ((HRx.out.below hb).more hb.size)
  have HRy := Lib.hid (Reads.of_own hown)
  clear hown hny
  clear hb c0 z0 c1 z1 c2 z2 c3 z3
  have c0 := K0.c
  have z0 := K0.lt
  have c1 := K1.c
  have z1 := K1.lt
  have c2 := K2.c
  have z2 := K2.lt
  have c3 := K3.c
  have z3 := K3.lt
  go_wp2_with fail
  refine (rep_yes (l := ps) i1 e1 d1 _ (HP.out.below HB) HB.size (by omega) HPo.out.1 HPo.out.2.2 MP.out).mono ?_
  rintro en wp ⟨xp, rfl, hown, hb⟩
  obtain ⟨np, hnp⟩ : ∃ n, n = (repBytes i1 e1 d1 ps).length := ⟨_, rfl⟩
  rw [← hnp] at hown
  obtain ⟨Ap, cp, rfl⟩ := own_form hown
  have K0 := K0.on hb
  have K1 := K1.on hb
  have K2 := K2.on hb
  have K3 := K3.on hb
  have HB := below_after HB hb HB.size
  have HRx := Lib.hid ((HRx.out.below hb).more hb.size)
  have HRy := Lib.hid ((HRy.out.below hb).more hb.size)
  have HRp := Lib.hid (Reads.of_own hown)
  clear hown hnp
  clear hb c0 z0 c1 z1 c2 z2 c3 z3
  have c0 := K0.c
  have z0 := K0.lt
  have c1 := K1.c
  have z1 := K1.lt
  have c2 := K2.c
  have z2 := K2.lt
  have c3 := K3.c
  have z3 := K3.lt
  go_wp2_with fail
  refine (rep_no (l := qs) i2 e2 d2 _ (HQ.out.below HB) HB.size (by omega) MQ.out).mono ?_
  rintro en wq ⟨rfl, hb⟩
  have K0 := K0.on hb
  have K1 := K1.on hb
  have K2 := K2.on hb
  have K3 := K3.on hb
  have HB := below_after HB hb HB.size
  have HRx := Lib.hid ((HRx.out.below hb).more hb.size)
  have HRy := Lib.hid ((HRy.out.below hb).more hb.size)
  have HRp := Lib.hid ((HRp.out.below hb).more hb.size)
  clear hb c0 z0 c1 z1 c2 z2 c3 z3
  have c0 := K0.c
  have z0 := K0.lt
  have c1 := K1.c
  have z1 := K1.lt
  have c2 := K2.c
  have z2 := K2.lt
  have c3 := K3.c
  have z3 := K3.lt
  have hx1 := fun nn : Nat => run_str (wq.drewN nn) 22 9 5 (c := cx) Try.underlying22 Try.underlying5 Try.underlying9 (HRx.out.drewN nn)
  have hy1 := fun nn : Nat => run_str (wq.drewN nn) 22 9 5 (c := cy) Try.underlying22 Try.underlying5 Try.underlying9 (HRy.out.drewN nn)
  have hsa := HSA.out
  have heqr := HEQR.out
  go_wp2_with fail
  go_quiet ((go_at_call 35; exact quiet_w (wnum_any _ _)))
  clear hx1 hy1 hsa heqr hss
  obtain ⟨W, hW⟩ : ∃ W : World, W = wq.drewN nq := ⟨_, rfl⟩
  have HBW : Below w.heap.size w W := by rw [hW]; exact below_drewN HB _
  have K0 : Blk W (w.heap.size) 50 #[.int .i64 k, .int .i64 id, .int .i64 u, .int .i64 v, .int .i64 q, .int .i64 a] := by rw [hW]; exact K0
  have K1 : Blk W (w.heap.size + 1) 50 #[.int .i64 k', .int .i64 id', .int .i64 u', .int .i64 v', .int .i64 q', .int .i64 a'] := by rw [hW]; exact K1
  have K2 : Blk W (w.heap.size + 1 + 1) 59 #[.int .i64 i1, .int .i64 e1, .bool d1, .slice A m x3] := by rw [hW]; exact K2
  have K3 : Blk W (w.heap.size + 1 + 1 + 1) 59 #[.int .i64 i2, .int .i64 e2, .bool d2, .slice A2 m2 x4] := by rw [hW]; exact K3
  rw [← hW]
  clear hW c0 z0 c1 z1 c2 z2 c3 z3
  have c0 := K0.c
  have z0 := K0.lt
  have c1 := K1.c
  have z1 := K1.lt
  have c2 := K2.c
  have z2 := K2.lt
  have c3 := K3.c
  have z3 := K3.lt
  go_wp2_with fail
  go_quiet ((go_at_call 35; exact quiet_w (wnum_any _ _)))
  go_wp2_with fail
  go_ret
  exact ⟨rfl, below_drewN HBW _⟩

set_option maxRecDepth 100000 in
set_option maxHeartbeats 4000000 in
theorem apart_yyyy (k id u v q a k' id' u' v' q' a' i1 e1 i2 e2 : Int) (d1 d2 : Bool) {A A2 : Option Addr} {m x3 m2 x4 : Nat} {ps qs : List Pr} (w : World) (hR : Reads w w.heap.size 2 A m (prCells ps)) (hR2 : Reads w w.heap.size 2 A2 m2 (prCells qs)) (h60 : ¬ 60 < m) (h602 : ¬ 60 < m2)
    (oa : Req.ok ⟨k, id, u, v, q, a⟩) (ob : Req.ok ⟨k', id', u', v', q', a'⟩) (op : Rep.ok ⟨i1, e1, d1, ps⟩) (oq : Rep.ok ⟨i2, e2, d2, qs⟩) (ma : Req.may ⟨k, id, u, v, q, a⟩ = true) (mb : Req.may ⟨k', id', u', v', q', a'⟩ = true) (mp : repB i1 e1 d1 ps = true) (mq : repB i2 e2 d2 qs = true) : Calls Try.prog 9 #[.agg #[.int .i64 k, .int .i64 id, .int .i64 u, .int .i64 v, .int .i64 q, .int .i64 a], .agg #[.int .i64 k', .int .i64 id', .int .i64 u', .int .i64 v', .int .i64 q', .int .i64 a'], .agg #[.int .i64 i1, .int .i64 e1, .bool d1, .slice A m x3], .agg #[.int .i64 i2, .int .i64 e2, .bool d2, .slice A2 m2 x4]] w fun e w' => e = .returned (.bool true) ∧ Below w.heap.size w w' := by
  have hpl := reads_plen hR
  have hql := reads_plen hR2
  have HP := Lib.hid hR
  have HQ := Lib.hid hR2
  have HA := Lib.hid oa
  have HBo := Lib.hid ob
  have HPo := Lib.hid op
  have HQo := Lib.hid oq
  have MA := Lib.hid ma
  have MB := Lib.hid mb
  have MP := Lib.hid mp
  have MQ := Lib.hid mq
  obtain ⟨sab, hsab⟩ : ∃ s : Bool, s = true ↔ (⟨k, id, u, v, q, a⟩ : Req) = ⟨k', id', u', v', q', a'⟩ := bool_of _
  have HSA := Lib.hid (str_eq (b := sab) (xs := Req.bytes ⟨k, id, u, v, q, a⟩) (ys := Req.bytes ⟨k', id', u', v', q', a'⟩) (encs_byte _) (encs_byte _) ⟨fun h => by rw [hsab.1 h], fun h => hsab.2 (req_inj oa ob ma mb h)⟩)
  have heqr := run_req hsab
  have HEQR := Lib.hid heqr
  have hss : (sab == sab) = true := by simp
  clear heqr hsab
  obtain ⟨spq, hspq⟩ : ∃ s : Bool, s = true ↔ (⟨i1, e1, d1, ps⟩ : Rep) = ⟨i2, e2, d2, qs⟩ := bool_of _
  have HSP := Lib.hid (str_eq (b := spq) (xs := repBytes i1 e1 d1 ps) (ys := repBytes i2 e2 d2 qs) (rep_byte _ _ _ _) (rep_byte _ _ _ _) ⟨fun h => by have := hspq.1 h; injection this with x1 x2 x3 x4; rw [x1, x2, x3, x4], fun h => hspq.2 (rep_inj op oq mp mq (by show ps.length ≤ _; omega) (by show qs.length ≤ _; omega) h)⟩)
  have HSPQ := Lib.hid (show spq = true ↔ i1 = i2 ∧ e1 = e2 ∧ d1 = d2 ∧ ps = qs from ⟨fun h => by have := hspq.1 h; injection this with x1 x2 x3 x4; exact ⟨x1, x2, x3, x4⟩, fun h => hspq.2 (by rw [h.1, h.2.1, h.2.2.1, h.2.2.2])⟩)
  have hpp : (spq == spq) = true := by simp
  clear hspq
  clear hR hR2 oa ob op oq ma mb mp mq hpl hql
  go_enter Try.func9, Try.ntmps9
  go_wp2_with fail
  refine (alive2_any _).mono ?_
  rintro en w1 ⟨rfl, hb⟩
  have K0 := Blk.on (g := w.heap.size) (t := 50) (cs := #[.int .i64 k, .int .i64 id, .int .i64 u, .int .i64 v, .int .i64 q, .int .i64 a]) (by repeat (first | exact Blk.at_ _ _ _ (by simp) | refine Blk.alloc ?_ _)) hb
  have K1 := Blk.on (g := w.heap.size + 1) (t := 50) (cs := #[.int .i64 k', .int .i64 id', .int .i64 u', .int .i64 v', .int .i64 q', .int .i64 a']) (by repeat (first | exact Blk.at_ _ _ _ (by simp) | refine Blk.alloc ?_ _)) hb
  have K2 := Blk.on (g := w.heap.size + 1 + 1) (t := 59) (cs := #[.int .i64 i1, .int .i64 e1, .bool d1, .slice A m x3]) (by repeat (first | exact Blk.at_ _ _ _ (by simp) | refine Blk.alloc ?_ _)) hb
  have K3 := Blk.on (g := w.heap.size + 1 + 1 + 1) (t := 59) (cs := #[.int .i64 i2, .int .i64 e2, .bool d2, .slice A2 m2 x4]) (by repeat (first | exact Blk.at_ _ _ _ (by simp) | refine Blk.alloc ?_ _)) hb
  have HB : Below w.heap.size w w1 := by repeat (first | exact Below.refl _ _ | refine Below.setCell ?_ (by first | omega | (simp; done) | (simp; omega)) _ | refine Below.alloc ?_ (by first | omega | (simp; done) | (simp; omega)) _ | refine Below.drew ?_ | refine below_drewN ?_ _ | refine below_after ?_ (by assumption) (by first | omega | (simp; done) | (simp; omega)))
  have c0 := K0.c
  have z0 := K0.lt
  have c1 := K1.c
  have z1 := K1.lt
  have c2 := K2.c
  have z2 := K2.lt
  have c3 := K3.c
  have z3 := K3.lt
  clear hb
  go_wp2_with fail
  refine (req_yes ⟨k, id, u, v, q, a⟩ HA.out MA.out _).mono ?_
  rintro en wx ⟨xx, rfl, hown, hb⟩
  obtain ⟨nx, hnx⟩ : ∃ n, n = (Req.bytes ⟨k, id, u, v, q, a⟩).length := ⟨_, rfl⟩
  rw [← hnx] at hown
  obtain ⟨Ax, cx, rfl⟩ := own_form hown
  have K0 := K0.on hb
  have K1 := K1.on hb
  have K2 := K2.on hb
  have K3 := K3.on hb
  have HB := below_after HB hb HB.size
  have HRx := Lib.hid (Reads.of_own hown)
  clear hown hnx
  clear hb c0 z0 c1 z1 c2 z2 c3 z3
  have c0 := K0.c
  have z0 := K0.lt
  have c1 := K1.c
  have z1 := K1.lt
  have c2 := K2.c
  have z2 := K2.lt
  have c3 := K3.c
  have z3 := K3.lt
  go_wp2_with fail
  refine (req_yes ⟨k', id', u', v', q', a'⟩ HBo.out MB.out _).mono ?_
  rintro en wy ⟨xy, rfl, hown, hb⟩
  obtain ⟨ny, hny⟩ : ∃ n, n = (Req.bytes ⟨k', id', u', v', q', a'⟩).length := ⟨_, rfl⟩
  rw [← hny] at hown
  obtain ⟨Ay, cy, rfl⟩ := own_form hown
  have K0 := K0.on hb
  have K1 := K1.on hb
  have K2 := K2.on hb
  have K3 := K3.on hb
  have HB := below_after HB hb HB.size
  have HRx := Lib.hid ((HRx.out.below hb).more hb.size)
  have HRy := Lib.hid (Reads.of_own hown)
  clear hown hny
  clear hb c0 z0 c1 z1 c2 z2 c3 z3
  have c0 := K0.c
  have z0 := K0.lt
  have c1 := K1.c
  have z1 := K1.lt
  have c2 := K2.c
  have z2 := K2.lt
  have c3 := K3.c
  have z3 := K3.lt
  go_wp2_with fail
  refine (rep_yes (l := ps) i1 e1 d1 _ (HP.out.below HB) HB.size (by omega) HPo.out.1 HPo.out.2.2 MP.out).mono ?_
  rintro en wp ⟨xp, rfl, hown, hb⟩
  obtain ⟨np, hnp⟩ : ∃ n, n = (repBytes i1 e1 d1 ps).length := ⟨_, rfl⟩
  rw [← hnp] at hown
  obtain ⟨Ap, cp, rfl⟩ := own_form hown
  have K0 := K0.on hb
  have K1 := K1.on hb
  have K2 := K2.on hb
  have K3 := K3.on hb
  have HB := below_after HB hb HB.size
  have HRx := Lib.hid ((HRx.out.below hb).more hb.size)
  have HRy := Lib.hid ((HRy.out.below hb).more hb.size)
  have HRp := Lib.hid (Reads.of_own hown)
  clear hown hnp
  clear hb c0 z0 c1 z1 c2 z2 c3 z3
  have c0 := K0.c
  have z0 := K0.lt
  have c1 := K1.c
  have z1 := K1.lt
  have c2 := K2.c
  have z2 := K2.lt
  have c3 := K3.c
  have z3 := K3.lt
  go_wp2_with fail
  refine (rep_yes (l := qs) i2 e2 d2 _ (HQ.out.below HB) HB.size (by omega) HQo.out.1 HQo.out.2.2 MQ.out).mono ?_
  rintro en wq ⟨xq, rfl, hown, hb⟩
  obtain ⟨nq_, hnq⟩ : ∃ n, n = (repBytes i2 e2 d2 qs).length := ⟨_, rfl⟩
  rw [← hnq] at hown
  obtain ⟨Aq, cq, rfl⟩ := own_form hown
  have K0 := K0.on hb
  have K1 := K1.on hb
  have K2 := K2.on hb
  have K3 := K3.on hb
  have HB := below_after HB hb HB.size
  have HRx := Lib.hid ((HRx.out.below hb).more hb.size)
  have HRy := Lib.hid ((HRy.out.below hb).more hb.size)
  have HRp := Lib.hid ((HRp.out.below hb).more hb.size)
  have HRq := Lib.hid (Reads.of_own hown)
  clear hown hnq
  clear hb c0 z0 c1 z1 c2 z2 c3 z3
  have c0 := K0.c
  have z0 := K0.lt
  have c1 := K1.c
  have z1 := K1.lt
  have c2 := K2.c
  have z2 := K2.lt
  have c3 := K3.c
  have z3 := K3.lt
  have hx1 := fun nn : Nat => run_str (wq.drewN nn) 22 9 5 (c := cx) Try.underlying22 Try.underlying5 Try.underlying9 (HRx.out.drewN nn)
  have hy1 := fun nn : Nat => run_str (wq.drewN nn) 22 9 5 (c := cy) Try.underlying22 Try.underlying5 Try.underlying9 (HRy.out.drewN nn)
  have hsa := HSA.out
  have heqr := HEQR.out
  go_wp2_with fail
  go_quiet ((go_at_call 35; exact quiet_w (wnum_any _ _)))
  clear hx1 hy1 hsa heqr hss
  obtain ⟨W, hW⟩ : ∃ W : World, W = wq.drewN nq := ⟨_, rfl⟩
  have HBW : Below w.heap.size w W := by rw [hW]; exact below_drewN HB _
  have K0 : Blk W (w.heap.size) 50 #[.int .i64 k, .int .i64 id, .int .i64 u, .int .i64 v, .int .i64 q, .int .i64 a] := by rw [hW]; exact K0
  have K1 : Blk W (w.heap.size + 1) 50 #[.int .i64 k', .int .i64 id', .int .i64 u', .int .i64 v', .int .i64 q', .int .i64 a'] := by rw [hW]; exact K1
  have K2 : Blk W (w.heap.size + 1 + 1) 59 #[.int .i64 i1, .int .i64 e1, .bool d1, .slice A m x3] := by rw [hW]; exact K2
  have K3 : Blk W (w.heap.size + 1 + 1 + 1) 59 #[.int .i64 i2, .int .i64 e2, .bool d2, .slice A2 m2 x4] := by rw [hW]; exact K3
  have HRp := Lib.hid (show Reads W wq.heap.size 1 Ap np (u8s (repBytes i1 e1 d1 ps)) by rw [hW]; exact HRp.out)
  have HRq := Lib.hid (show Reads W wq.heap.size 1 Aq nq_ (u8s (repBytes i2 e2 d2 qs)) by rw [hW]; exact HRq.out)
  have hWs : wq.heap.size ≤ W.heap.size := by rw [hW]; exact Nat.le_refl _
  rw [← hW]
  clear hW c0 z0 c1 z1 c2 z2 c3 z3
  have c0 := K0.c
  have z0 := K0.lt
  have c1 := K1.c
  have z1 := K1.lt
  have c2 := K2.c
  have z2 := K2.lt
  have c3 := K3.c
  have z3 := K3.lt
  go_wp2_with fail
  clear c0 c1 z0 z1 c2 c3
  have hsp := HSP.out
  refine wp_region_held_drew (S := (fun W' => Below W.heap.size W W' ∧ (∀ i, W'.cell? ⟨w.heap.size + 1 + 1, i, none⟩ = #[.int .i64 i1, .int .i64 e1, .bool d1, .slice A m x3][i]?) ∧ (∀ i, W'.cell? ⟨w.heap.size + 1 + 1 + 1, i, none⟩ = #[.int .i64 i2, .int .i64 e2, .bool d2, .slice A2 m2 x4][i]?) ∧ (convert 22 9 (.slice Ap np cp)).run Try.prog W' = .ok (.string (strOf (repBytes i1 e1 d1 ps))) W' ∧ (convert 22 9 (.slice Aq nq_ cq)).run Try.prog W' = .ok (.string (strOf (repBytes i2 e2 d2 qs))) W')) (by kernel_rfl) (⟨(Below.refl W.heap.size W).drew, (K2.below ((Below.refl W.heap.size W).drew) z2).c, (K3.below ((Below.refl W.heap.size W).drew) z3).c, run_str _ 22 9 5 Try.underlying22 Try.underlying5 Try.underlying9 (HRp.out.below (((Below.refl W.heap.size W).drew).mono hWs)), run_str _ 22 9 5 Try.underlying22 Try.underlying5 Try.underlying9 (HRq.out.below (((Below.refl W.heap.size W).drew).mono hWs))⟩) (fun hHeld => ?_)
  refine wpAnyH_take (i := 0) (v := ?_) rfl (by kernel_rfl) (by kernel_rfl) (by kernel_rfl) (fun _ _ _ h => h) (Or.inl ⟨by rfl, ?_⟩) hHeld ?_
  rotate_left
  · intro W hS
    try dsimp only at hS
    go_simp
    try with_reducible rfl
  try simp only [List.getElem_toArray, List.getElem_cons_succ, List.getElem_cons_zero, Act.put, List.setIfInBounds_toArray, List.set_cons_zero, List.set_cons_succ]
  refine wpAnyH_take (i := 1) (v := ?_) rfl (by kernel_rfl) (by kernel_rfl) (by kernel_rfl) (fun _ _ _ h => h) (Or.inl ⟨by rfl, ?_⟩) hHeld ?_
  rotate_left
  · intro W hS
    try dsimp only at hS
    go_simp
    try with_reducible rfl
  try simp only [List.getElem_toArray, List.getElem_cons_succ, List.getElem_cons_zero, Act.put, List.setIfInBounds_toArray, List.set_cons_zero, List.set_cons_succ]
  refine wpAnyH_take (i := 2) (v := ?_) rfl (by kernel_rfl) (by kernel_rfl) (by kernel_rfl) (fun _ _ _ h => h) (Or.inl ⟨by rfl, ?_⟩) hHeld ?_
  rotate_left
  · intro W hS
    try dsimp only at hS
    go_simp
    try with_reducible rfl
  try simp only [List.getElem_toArray, List.getElem_cons_succ, List.getElem_cons_zero, Act.put, List.setIfInBounds_toArray, List.set_cons_zero, List.set_cons_succ]
  refine wpAnyH_ready (rs := [3]) (by kernel_rfl) (by simp) ?_
  refine (AllReadyH.cons rfl (fun K hK => ?_) AllReadyH.nil)
  go_simp
  refine (wnum_any _ _).mono ?_
  rintro en w9 ⟨rfl, rfl⟩
  refine hK.out _ _ (hHeld) (fun hHeld => ?_)
  clear hK K
  try simp only [List.getElem_toArray, List.getElem_cons_succ, List.getElem_cons_zero, Act.put, List.setIfInBounds_toArray, List.set_cons_zero, List.set_cons_succ]
  refine wpAnyH_take (i := 4) (v := ?_) rfl (by kernel_rfl) (by kernel_rfl) (by kernel_rfl) (fun _ _ _ h => h) (Or.inl ⟨by rfl, ?_⟩) hHeld ?_
  rotate_left
  · intro W hS
    try dsimp only at hS
    go_simp
    try with_reducible rfl
  try simp only [List.getElem_toArray, List.getElem_cons_succ, List.getElem_cons_zero, Act.put, List.setIfInBounds_toArray, List.set_cons_zero, List.set_cons_succ]
  refine wpAnyH_take (i := 5) (v := ?_) rfl (by kernel_rfl) (by kernel_rfl) (by kernel_rfl) (fun _ _ _ h => h) (Or.inl ⟨by rfl, ?_⟩) hHeld ?_
  rotate_left
  · intro W hS
    try dsimp only at hS
    go_simp
    try with_reducible rfl
  try simp only [List.getElem_toArray, List.getElem_cons_succ, List.getElem_cons_zero, Act.put, List.setIfInBounds_toArray, List.set_cons_zero, List.set_cons_succ]
  refine wpAnyH_take (i := 6) (v := ?_) rfl (by kernel_rfl) (by kernel_rfl) (by kernel_rfl) (fun _ _ _ h => h) (Or.inl ⟨by rfl, ?_⟩) hHeld ?_
  rotate_left
  · intro W hS
    try dsimp only at hS
    go_simp
    try with_reducible rfl
  try simp only [List.getElem_toArray, List.getElem_cons_succ, List.getElem_cons_zero, Act.put, List.setIfInBounds_toArray, List.set_cons_zero, List.set_cons_succ]
  refine wpAnyH_ready (rs := [7]) (by kernel_rfl) (by simp) ?_
  refine (AllReadyH.cons rfl (fun K hK => ?_) AllReadyH.nil)
  go_simp
  refine (wnum_any _ _).mono ?_
  rintro en w9 ⟨rfl, rfl⟩
  refine hK.out _ _ (hHeld) (fun hHeld => ?_)
  clear hK K
  try simp only [List.getElem_toArray, List.getElem_cons_succ, List.getElem_cons_zero, Act.put, List.setIfInBounds_toArray, List.set_cons_zero, List.set_cons_succ]
  refine wpAnyH_take (i := 8) (v := ?_) rfl (by kernel_rfl) (by kernel_rfl) (by kernel_rfl) (fun _ _ _ h => h) (Or.inl ⟨by rfl, ?_⟩) hHeld ?_
  rotate_left
  · intro W hS
    try dsimp only at hS
    go_simp
    try with_reducible rfl
  try simp only [List.getElem_toArray, List.getElem_cons_succ, List.getElem_cons_zero, Act.put, List.setIfInBounds_toArray, List.set_cons_zero, List.set_cons_succ]
  refine wpAnyH_take (i := 9) (v := ?_) rfl (by kernel_rfl) (by kernel_rfl) (by kernel_rfl) (fun _ _ _ h => h) (Or.inl ⟨by rfl, ?_⟩) hHeld ?_
  rotate_left
  · intro W hS
    try dsimp only at hS
    go_simp
    try with_reducible rfl
  try simp only [List.getElem_toArray, List.getElem_cons_succ, List.getElem_cons_zero, Act.put, List.setIfInBounds_toArray, List.set_cons_zero, List.set_cons_succ]
  refine wpAnyH_take (i := 10) (v := ?_) rfl (by kernel_rfl) (by kernel_rfl) (by kernel_rfl) (fun _ _ _ h => h) (Or.inl ⟨by rfl, ?_⟩) hHeld ?_
  rotate_left
  · intro W hS
    try dsimp only at hS
    go_simp
    try with_reducible rfl
  try simp only [List.getElem_toArray, List.getElem_cons_succ, List.getElem_cons_zero, Act.put, List.setIfInBounds_toArray, List.set_cons_zero, List.set_cons_succ]
  refine wpAnyH_take (i := 11) (v := ?_) rfl (by kernel_rfl) (by kernel_rfl) (by kernel_rfl) (fun _ _ _ h => h) (Or.inl ⟨by rfl, ?_⟩) hHeld ?_
  rotate_left
  · intro W hS
    try dsimp only at hS
    go_simp
    try with_reducible rfl
  try simp only [List.getElem_toArray, List.getElem_cons_succ, List.getElem_cons_zero, Act.put, List.setIfInBounds_toArray, List.set_cons_zero, List.set_cons_succ]
  refine wpAnyH_take (i := 12) (v := ?_) rfl (by kernel_rfl) (by kernel_rfl) (by kernel_rfl) (fun _ _ _ h => h) (Or.inl ⟨by rfl, ?_⟩) hHeld ?_
  rotate_left
  · intro W hS
    try dsimp only at hS
    go_simp
    try with_reducible rfl
  try simp only [List.getElem_toArray, List.getElem_cons_succ, List.getElem_cons_zero, Act.put, List.setIfInBounds_toArray, List.set_cons_zero, List.set_cons_succ]
  refine wpAnyH_take (i := 13) (v := ?_) rfl (by kernel_rfl) (by kernel_rfl) (by kernel_rfl) (fun _ _ _ h => h) (Or.inl ⟨by rfl, ?_⟩) hHeld ?_
  rotate_left
  · intro W hS
    try dsimp only at hS
    go_simp
    try with_reducible rfl
  try simp only [List.getElem_toArray, List.getElem_cons_succ, List.getElem_cons_zero, Act.put, List.setIfInBounds_toArray, List.set_cons_zero, List.set_cons_succ]
  refine wpAnyH_take (i := 14) (v := ?_) rfl (by kernel_rfl) (by kernel_rfl) (by kernel_rfl) (fun _ _ _ h => h) (Or.inl ⟨by rfl, ?_⟩) hHeld ?_
  rotate_left
  · intro W hS
    try dsimp only at hS
    go_simp
    try with_reducible rfl
  try simp only [List.getElem_toArray, List.getElem_cons_succ, List.getElem_cons_zero, Act.put, List.setIfInBounds_toArray, List.set_cons_zero, List.set_cons_succ]
  refine wpAnyH_take (i := 15) (v := ?_) rfl (by kernel_rfl) (by kernel_rfl) (by kernel_rfl) (fun _ _ _ h => h) (Or.inl ⟨by rfl, ?_⟩) hHeld ?_
  rotate_left
  · intro W hS
    try dsimp only at hS
    go_simp
    try with_reducible rfl
  try simp only [List.getElem_toArray, List.getElem_cons_succ, List.getElem_cons_zero, Act.put, List.setIfInBounds_toArray, List.set_cons_zero, List.set_cons_succ]
  refine wpAnyH_take (i := 16) (v := ?_) rfl (by kernel_rfl) (by kernel_rfl) (by kernel_rfl) (fun _ _ _ h => h) (Or.inl ⟨by rfl, ?_⟩) hHeld ?_
  rotate_left
  · intro W hS
    try dsimp only at hS
    go_simp
    try with_reducible rfl
  try simp only [List.getElem_toArray, List.getElem_cons_succ, List.getElem_cons_zero, Act.put, List.setIfInBounds_toArray, List.set_cons_zero, List.set_cons_succ]
  refine wpAnyH_take (i := 17) (v := ?_) rfl (by kernel_rfl) (by kernel_rfl) (by kernel_rfl) (fun _ _ _ h => h) (Or.inl ⟨by rfl, ?_⟩) hHeld ?_
  rotate_left
  · intro W hS
    try dsimp only at hS
    go_simp
    try with_reducible rfl
  try simp only [List.getElem_toArray, List.getElem_cons_succ, List.getElem_cons_zero, Act.put, List.setIfInBounds_toArray, List.set_cons_zero, List.set_cons_succ]
  refine wpAnyH_ready (rs := [18]) (by kernel_rfl) (by simp) ?_
  refine (AllReadyH.cons rfl (fun K hK => ?_) AllReadyH.nil)
  go_simp
  refine (samerep_any (B := w.heap.size) (b := spq) _ ((HP.out.below HBW).below (hHeld.1.mono HBW.size)) ((HQ.out.below HBW).below (hHeld.1.mono HBW.size)) (Nat.le_trans HBW.size hHeld.1.size) HSPQ.out (by omega) (by omega)).mono ?_
  rintro en w9 ⟨rfl, hb⟩
  refine hK.out _ _ (⟨below_after hHeld.1 hb hHeld.1.size, (K2.below (below_after hHeld.1 hb hHeld.1.size) z2).c, (K3.below (below_after hHeld.1 hb hHeld.1.size) z3).c, run_str _ 22 9 5 Try.underlying22 Try.underlying5 Try.underlying9 (HRp.out.below ((below_after hHeld.1 hb hHeld.1.size).mono hWs)), run_str _ 22 9 5 Try.underlying22 Try.underlying5 Try.underlying9 (HRq.out.below ((below_after hHeld.1 hb hHeld.1.size).mono hWs))⟩) (fun hHeld => ?_)
  clear hK K
  try simp only [List.getElem_toArray, List.getElem_cons_succ, List.getElem_cons_zero, Act.put, List.setIfInBounds_toArray, List.set_cons_zero, List.set_cons_succ]
  refine wpAnyH_take (i := 19) (v := ?_) rfl (by kernel_rfl) (by kernel_rfl) (by kernel_rfl) (fun _ _ _ h => h) (Or.inl ⟨by rfl, ?_⟩) hHeld ?_
  rotate_left
  · intro W hS
    try dsimp only at hS
    go_simp
    try with_reducible rfl
  try simp only [List.getElem_toArray, List.getElem_cons_succ, List.getElem_cons_zero, Act.put, List.setIfInBounds_toArray, List.set_cons_zero, List.set_cons_succ]
  refine wpAnyH_take (i := 20) (v := ?_) rfl (by kernel_rfl) (by kernel_rfl) (by kernel_rfl) (fun _ _ _ h => h) (Or.inl ⟨by rfl, ?_⟩) hHeld ?_
  rotate_left
  · intro W hS
    try dsimp only at hS
    go_simp
    try with_reducible rfl
  try simp only [List.getElem_toArray, List.getElem_cons_succ, List.getElem_cons_zero, Act.put, List.setIfInBounds_toArray, List.set_cons_zero, List.set_cons_succ]
  refine wpAnyH_take (i := 21) (v := ?_) rfl (by kernel_rfl) (by kernel_rfl) (by kernel_rfl) (fun _ _ _ h => h) (Or.inl ⟨by rfl, ?_⟩) hHeld ?_
  rotate_left
  · intro W hS
    try dsimp only at hS
    go_simp
    try with_reducible rfl
  try simp only [List.getElem_toArray, List.getElem_cons_succ, List.getElem_cons_zero, Act.put, List.setIfInBounds_toArray, List.set_cons_zero, List.set_cons_succ]
  refine wpAnyH_take (i := 22) (v := ?_) rfl (by kernel_rfl) (by kernel_rfl) (by kernel_rfl) (fun _ _ _ h => h) (Or.inl ⟨by rfl, ?_⟩) hHeld ?_
  rotate_left
  · intro W hS
    try dsimp only at hS
    go_simp
    try with_reducible rfl
  try simp only [List.getElem_toArray, List.getElem_cons_succ, List.getElem_cons_zero, Act.put, List.setIfInBounds_toArray, List.set_cons_zero, List.set_cons_succ]
  refine wpAnyH_done (by kernel_rfl) ?_ _
  go_wp2_with fail
  go_ret
  exact ⟨rfl, HBW.trans (hHeld.1.mono HBW.size)⟩

theorem wireApart_walk (a b : Req) (p q : Rep) {A A2 : Option Addr} {m x3 m2 x4 : Nat} (w : World) (oa : a.ok) (ob : b.ok) (hR : Reads w w.heap.size 2 A m (prCells p.ps)) (op : p.ok) (hm : m ≤ maxLen) (hR2 : Reads w w.heap.size 2 A2 m2 (prCells q.ps)) (oq : q.ok) (hm2 : m2 ≤ maxLen) :
    Calls Try.prog 9 #[a.V, b.V, .agg #[.int .i64 p.id, .int .i64 p.e, .bool p.d, .slice A m x3], .agg #[.int .i64 q.id, .int .i64 q.e, .bool q.d, .slice A2 m2 x4]] w fun e w' => e = .returned (.bool true) ∧ Below w.heap.size w w' := by
  obtain ⟨k, id, u, v, x, y⟩ := a
  obtain ⟨k', id', u', v', x', y'⟩ := b
  obtain ⟨i1, e1, d1, ps⟩ := p
  obtain ⟨i2, e2, d2, qs⟩ := q
  by_cases h : 60 < m ∨ 60 < m2
  · exact apart_early k id u v x y k' id' u' v' x' y' i1 e1 i2 e2 d1 d2 w hm hm2 h
  have h1 : ¬ 60 < m := by omega
  have h2 : ¬ 60 < m2 := by omega
  cases ma : Req.may ⟨k, id, u, v, x, y⟩ <;> cases mb : Req.may ⟨k', id', u', v', x', y'⟩ <;> cases mp : repB i1 e1 d1 ps <;> cases mq : repB i2 e2 d2 qs
  · exact apart_nnnn k id u v x y k' id' u' v' x' y' i1 e1 i2 e2 d1 d2 w hR hR2 h1 h2 oa ob op oq ma mb mp mq
  · exact apart_nnny k id u v x y k' id' u' v' x' y' i1 e1 i2 e2 d1 d2 w hR hR2 h1 h2 oa ob op oq ma mb mp mq
  · exact apart_nnyn k id u v x y k' id' u' v' x' y' i1 e1 i2 e2 d1 d2 w hR hR2 h1 h2 oa ob op oq ma mb mp mq
  · exact apart_nnyy k id u v x y k' id' u' v' x' y' i1 e1 i2 e2 d1 d2 w hR hR2 h1 h2 oa ob op oq ma mb mp mq
  · exact apart_nynn k id u v x y k' id' u' v' x' y' i1 e1 i2 e2 d1 d2 w hR hR2 h1 h2 oa ob op oq ma mb mp mq
  · exact apart_nyny k id u v x y k' id' u' v' x' y' i1 e1 i2 e2 d1 d2 w hR hR2 h1 h2 oa ob op oq ma mb mp mq
  · exact apart_nyyn k id u v x y k' id' u' v' x' y' i1 e1 i2 e2 d1 d2 w hR hR2 h1 h2 oa ob op oq ma mb mp mq
  · exact apart_nyyy k id u v x y k' id' u' v' x' y' i1 e1 i2 e2 d1 d2 w hR hR2 h1 h2 oa ob op oq ma mb mp mq
  · exact apart_ynnn k id u v x y k' id' u' v' x' y' i1 e1 i2 e2 d1 d2 w hR hR2 h1 h2 oa ob op oq ma mb mp mq
  · exact apart_ynny k id u v x y k' id' u' v' x' y' i1 e1 i2 e2 d1 d2 w hR hR2 h1 h2 oa ob op oq ma mb mp mq
  · exact apart_ynyn k id u v x y k' id' u' v' x' y' i1 e1 i2 e2 d1 d2 w hR hR2 h1 h2 oa ob op oq ma mb mp mq
  · exact apart_ynyy k id u v x y k' id' u' v' x' y' i1 e1 i2 e2 d1 d2 w hR hR2 h1 h2 oa ob op oq ma mb mp mq
  · exact apart_yynn k id u v x y k' id' u' v' x' y' i1 e1 i2 e2 d1 d2 w hR hR2 h1 h2 oa ob op oq ma mb mp mq
  · exact apart_yyny k id u v x y k' id' u' v' x' y' i1 e1 i2 e2 d1 d2 w hR hR2 h1 h2 oa ob op oq ma mb mp mq
  · exact apart_yyyn k id u v x y k' id' u' v' x' y' i1 e1 i2 e2 d1 d2 w hR hR2 h1 h2 oa ob op oq ma mb mp mq
  · exact apart_yyyy k id u v x y k' id' u' v' x' y' i1 e1 i2 e2 d1 d2 w hR hR2 h1 h2 oa ob op oq ma mb mp mq


namespace wireApart
set_option maxRecDepth 100000 in
theorem contract (H : Type) (enc : TypeId × Value → H) (W : World) (base : Nat) (args : Array Value) (ds gs : List (DataW H)) (before : List MemPlace)
    (hval : ∀ (j : Nat) t v, Try.f9.params[j]? = some t → args[j]? = some v → Value.okWide Try.prog W .any base t v)
    (hW : DataW.Whole enc Try.prog Try.f9.params.toList Rows.wireApartSpec.vars false W args.toList ds gs before) :
    Calls Try.prog 9 args W fun e W' => ∃ v, e = .returned v ∧ Rows.wireApartSpec.post enc Try.prog Try.f9 false true false false W args v W' := by
  have hWc := hW
  obtain ⟨p, q, hA0, hV, _, _, _⟩ := hW
  have hA : DataW.TrodAll enc Try.prog W 0 (fun _ => true) true Try.f9.params.toList args.toList ds p := hA0
  clear hA0
  rw [Try.params9] at hA hval
  obtain ⟨v0, vs0, d0, ds0, p0, q0, hargs, rfl, rfl, h0, r0⟩ := trodAll_cons hA
  obtain ⟨v1, vs1, d1, ds1, p1, q1, rfl, rfl, rfl, h1, r1⟩ := trodAll_cons r0
  obtain ⟨v2, vs2, d2, ds2, p2, q2, rfl, rfl, rfl, h2, r2⟩ := trodAll_cons r1
  obtain ⟨v3, vs3, d3, ds3, p3, q3, rfl, rfl, rfl, h3, r3⟩ := trodAll_cons r2
  obtain ⟨rfl, rfl, rfl⟩ := trodAll_nil r3
  obtain rfl : args = #[v0, v1, v2, v3] := by cases args; simp_all
  obtain ⟨a0, rfl, wa0⟩ := open_req (hval 0 50 v0 rfl rfl) h0
  obtain ⟨a1, rfl, wa1⟩ := open_req (hval 1 50 v1 rfl rfl) h1
  obtain ⟨rr2, A2, n2, c2, rfl, hr2, ok2, hn2, hc2⟩ := open_rep (hval 2 59 v2 rfl rfl) h2
  obtain ⟨rr3, A3, n3, c3, rfl, hr3, ok3, hn3, hc3⟩ := open_rep (hval 3 59 v3 rfl rfl) h3
  refine (wireApart_walk a0 a1 rr2 rr3 W wa0 wa1 hr2 ok2 (Nat.le_trans hn2 hc2) hr3 ok3 (Nat.le_trans hn3 hc3)).mono fun e W' ⟨he, hb⟩ => ⟨_, he, ?_⟩
  exact post_true hWc rfl hb laidOut (readables (by kernel_rfl)) rfl Try.underlying4 (fun h => by subst h; rfl)

set_option maxRecDepth 100000 in
theorem lifted (os : Os) (started : os.Started) (H : Type) (enc : TypeId × Value → H) :
    ReturnsInHanded {} Try.checked os 9 .any (Rows.wireApartSpec.pre6 enc Try.prog Try.f9 Rows.wireApartRow.domain false) (Rows.wireApartSpec.post enc Try.prog Try.f9 false true false false) := by
  refine returnsInHanded_of_change (C := Try.checked) own started (by kernel_rfl) Try.func9
    (ChangeSpec.witness6 (enc := enc) (C := Try.checked) false ⟨#[], #[.agg #[.int .i64 0, .int .i64 0, .int .i64 0, .int .i64 0, .int .i64 0, .int .i64 0], .agg #[.int .i64 0, .int .i64 0, .int .i64 0, .int .i64 0, .int .i64 0, .int .i64 0], .agg #[.int .i64 0, .int .i64 0, .bool false, .slice none 0 0], .agg #[.int .i64 0, .int .i64 0, .bool false, .slice none 0 0]], []⟩ 8 (by kernel_rfl) (by kernel_rfl) (by kernel_rfl) (by kernel_rfl)) ?_
  intro W base args ds gs before hval hW _ _
  exact contract H enc W base args ds gs before hval hW

theorem proved : Rows.WireApartSaid :=
  OpenClaim.holds_of_wide 9 Try.f9 rfl rfl rfl rfl rfl rfl rfl ⟨rfl, rfl, rfl, rfl, rfl⟩ rfl rfl rfl rfl rfl (by kernel_rfl) Try.func9 (by kernel_rfl)
    (of_decide_eq_true (by kernel_rfl)) (by unfold Func.isWrapper; first | (rw [if_pos (by decide +kernel)]; kernel_rfl) | (rw [if_neg (by decide +kernel)]; exact ⟨rfl, rfl⟩))
    (fun os started H enc _ => lifted os started H enc)
end wireApart
end Go.Proofs.Ytejijghghbicdaa
