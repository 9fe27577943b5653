/-
  What a request's bytes are read as: plain laws; a request that comes in.
-/
import Derived.Test.YtejijghghbicdaaWireParse
import Derived.Test.YtejijghghbicdaaOpen
namespace Go.Proofs.Ytejijghghbicdaa
open Go.ChangeShapes Go.WideShapes Go.ChangeAt Go.RowKit Go.Joins Go.Deep
set_option linter.unusedSimpArgs false
set_option linter.unusedVariables false

theorem rd_enc_top {top n : Nat} (h : W64 n) (ht : n ≤ top) (rest : List Nat) : rd top (enc n ++ rest) = some (n, rest) := by
  have := rd_of (top := top) (scan_of_enc h rest) ht
  rw [this, List.drop_left]
theorem nat0_le {z : Int} (h : IN64 z) : nat0 z ≤ topI := by
  obtain ⟨h1, _⟩ := h; unfold nat0 topI; omega
theorem nat0_nonneg {z : Int} (h : 0 ≤ z) : ((nat0 z : Nat) : Int) = z := by unfold nat0; omega
theorem nat0_nat (n : Nat) : nat0 (n : Int) = n := by unfold nat0; omega
theorem ci_enc {z : Int} (h : IN64 z) (h0 : 0 ≤ z) (rest : List Nat) (b : Bool) : Cur.i ⟨enc (nat0 z) ++ rest, b⟩ = z ∧ Cur.ni ⟨enc (nat0 z) ++ rest, b⟩ = ⟨rest, b⟩ := by
  have := rd_enc_top (nat0_w h) (nat0_le h) rest
  unfold Cur.i Cur.ni rdV rdL rdB
  simp only [this, Option.map_some, Option.getD_some, Option.isSome_some, if_true]
  exact ⟨nat0_nonneg h0, trivial⟩
theorem cw_enc {n : Nat} (h : W64 n) (rest : List Nat) (b : Bool) : Cur.w ⟨enc n ++ rest, b⟩ = n ∧ Cur.nw ⟨enc n ++ rest, b⟩ = ⟨rest, b⟩ := by
  have := rd_enc_top (top := topW) h (by unfold W64 at h; unfold topW; omega) rest
  unfold Cur.w Cur.nw rdV rdL rdB
  simp only [this, Option.map_some, Option.getD_some, Option.isSome_some, if_true]
  exact ⟨trivial, trivial⟩
theorem rd_inv {top : Nat} {l : List Nat} {y : Nat} {l' : List Nat} (hl : ∀ d ∈ l, d < 256) (h : rd top l = some (y, l')) : l = enc y ++ l' ∧ y ≤ top ∧ W64 y := by
  unfold rd at h
  split at h
  · rename_i y' j hs
    split at h
    · simp only [Option.some.injEq, Prod.mk.injEq] at h
      obtain ⟨rfl, rfl⟩ := h
      obtain ⟨h1, h2, h3⟩ := enc_of_scan hl hs
      exact ⟨h3, by assumption, h1⟩
    · cases h
  · cases h
/-- A cursor that is good behind a number was good ahead of it, and the number's bytes stood there. -/
theorem ni_inv {c : Cur} (hl : ∀ d ∈ c.l, d < 256) (h : c.ni.b = false) : c.b = false ∧ c.l = enc (nat0 c.i) ++ c.ni.l ∧ IN64 c.i ∧ 0 ≤ c.i := by
  unfold Cur.ni rdB at h
  simp only at h
  split at h
  · rename_i hs
    refine ⟨h, ?_⟩
    obtain ⟨⟨y, l'⟩, hr⟩ := Option.isSome_iff_exists.1 hs
    obtain ⟨e, hy, _⟩ := rd_inv hl hr
    have h1 : rdV topI c.l = y := by simp [rdV, hr]
    have h2 : rdL topI c.l = l' := by simp [rdL, hr]
    unfold Cur.ni Cur.i
    simp only
    rw [h1, h2, nat0_nat]
    have := topI_cast
    exact ⟨e, by unfold IN64; omega, by omega⟩
  · cases h
theorem nw_inv {c : Cur} (hl : ∀ d ∈ c.l, d < 256) (h : c.nw.b = false) : c.b = false ∧ c.l = enc c.w ++ c.nw.l ∧ W64 c.w := by
  unfold Cur.nw rdB at h
  simp only at h
  split at h
  · rename_i hs
    refine ⟨h, ?_⟩
    obtain ⟨⟨y, l'⟩, hr⟩ := Option.isSome_iff_exists.1 hs
    obtain ⟨e, hy, hw⟩ := rd_inv hl hr
    have h1 : rdV topW c.l = y := by simp [rdV, hr]
    have h2 : rdL topW c.l = l' := by simp [rdL, hr]
    unfold Cur.nw Cur.w
    simp only
    rw [h1, h2]
    exact ⟨e, hw⟩
  · cases h
theorem ni_byte {c : Cur} (h : ∀ d ∈ c.l, d < 256) : ∀ d ∈ c.ni.l, d < 256 := rdL_byte (top := topI) h
theorem nw_byte {c : Cur} (h : ∀ d ∈ c.l, d < 256) : ∀ d ∈ c.nw.l, d < 256 := rdL_byte (top := topW) h

/-- The numbers of a request that may be are none below 0. -/
theorem may_pos {r : Req} (h : r.may = true) : 0 ≤ r.k ∧ 0 ≤ r.id ∧ 0 ≤ r.u ∧ 0 ≤ r.v ∧ 0 ≤ r.q ∧ 0 ≤ r.a := by
  have hk := may_12 h
  have h0 : ¬ r.id < 0 := by
    intro h'; unfold Req.may at h; rw [if_pos h'] at h; cases h
  rcases hk with hk | hk | hk | hk
  · rw [may_1 h0 (.inl hk)] at h
    simp [vertexB] at h; omega
  · rw [may_1 h0 (.inr hk)] at h
    simp [vertexB] at h; omega
  · rw [may_3 h0 hk] at h
    simp only [Bool.and_eq_true, decide_eq_true_eq] at h
    obtain ⟨hq, hu, hv⟩ := h
    unfold queryB at hq
    split at hq
    · simp at hq; omega
    · split at hq
      · simp at hq; omega
      · cases hq
  · rw [may_4 h0 hk] at h
    simp at h; omega
theorem may_rest {r : Req} (h : r.may = true) : (r.k = 1 ∨ r.k = 2 → r.q = 0 ∧ r.a = 0) ∧ (r.k = 3 → r.u = 0 ∧ r.v = 0) ∧ (r.k = 4 → r.u = 0 ∧ r.v = 0 ∧ r.q = 0) := by
  have h0 : ¬ r.id < 0 := by
    intro h'; unfold Req.may at h; rw [if_pos h'] at h; cases h
  refine ⟨fun hk => ?_, fun hk => ?_, fun hk => ?_⟩
  · rw [may_1 h0 hk] at h
    simp at h; omega
  · rw [may_3 h0 hk] at h
    simp at h; omega
  · rw [may_4 h0 hk] at h
    simp at h; omega
/-- A request's bytes, and more behind them, are read as it; what is behind is left. -/
theorem rq_bytes {r : Req} (hok : r.ok) (hm : r.may = true) (rest : List Nat) : rq (r.bytes ++ rest) = (r, ⟨rest, false⟩) := by
  obtain ⟨o1, o2, o3, o4, o5, o6⟩ := hok
  obtain ⟨p1, p2, p3, p4, p5, p6⟩ := may_pos hm
  obtain ⟨r1, r2, r3⟩ := may_rest hm
  have hk := may_12 hm
  obtain ⟨k, id, u, v, q, a⟩ := r
  simp only at *
  by_cases h12 : k = 1 ∨ k = 2
  · have e : Req.bytes ⟨k, id, u, v, q, a⟩ ++ rest = enc (nat0 k) ++ (enc (nat0 id) ++ (enc (nat0 u) ++ (enc (nat0 v) ++ rest))) := by
      unfold Req.bytes; rw [nums_12 h12]; simp [encs]
    rw [e]
    have c1 := ci_enc o1 p1 (enc (nat0 id) ++ (enc (nat0 u) ++ (enc (nat0 v) ++ rest))) false
    have c2 := ci_enc o2 p2 (enc (nat0 u) ++ (enc (nat0 v) ++ rest)) false
    have c3 := ci_enc o3 p3 (enc (nat0 v) ++ rest) false
    have c4 := ci_enc o4 p4 rest false
    rw [rq_12 (by rw [c1.1]; exact h12)]
    unfold Cur.two
    rw [c1.1, c1.2, c2.1, c2.2, c3.1, c3.2, c4.1, c4.2, (r1 h12).1, (r1 h12).2]
  by_cases h3 : k = 3
  · have e : Req.bytes ⟨k, id, u, v, q, a⟩ ++ rest = enc (nat0 k) ++ (enc (nat0 id) ++ (enc (nat0 q) ++ (enc (nat0 a) ++ rest))) := by
      unfold Req.bytes; rw [nums_3 h3]; simp [encs]
    rw [e]
    have c1 := ci_enc o1 p1 (enc (nat0 id) ++ (enc (nat0 q) ++ (enc (nat0 a) ++ rest))) false
    have c2 := ci_enc o2 p2 (enc (nat0 q) ++ (enc (nat0 a) ++ rest)) false
    have c3 := ci_enc o5 p5 (enc (nat0 a) ++ rest) false
    have c4 := ci_enc o6 p6 rest false
    rw [rq_3 (by rw [c1.1]; exact h3)]
    unfold Cur.two
    rw [c1.1, c1.2, c2.1, c2.2, c3.1, c3.2, c4.1, c4.2, (r2 h3).1, (r2 h3).2]
  · have h4 : k = 4 := by omega
    have e : Req.bytes ⟨k, id, u, v, q, a⟩ ++ rest = enc (nat0 k) ++ (enc (nat0 id) ++ (enc (nat0 a) ++ rest)) := by
      unfold Req.bytes; rw [nums_4 h4]; simp [encs]
    rw [e]
    have c1 := ci_enc o1 p1 (enc (nat0 id) ++ (enc (nat0 a) ++ rest)) false
    have c2 := ci_enc o2 p2 (enc (nat0 a) ++ rest) false
    have c3 := ci_enc o6 p6 rest false
    rw [rq_4 (by rw [c1.1]; exact h4)]
    unfold Cur.two
    rw [c1.1, c1.2, c2.1, c2.2, c3.1, c3.2, (r3 h4).1, (r3 h4).2.1, (r3 h4).2.2]
theorem nums_len (r : Req) : r.nums.length ≤ 4 := by
  unfold Req.nums; split
  · simp
  · split <;> simp
theorem nums_in {r : Req} (hok : r.ok) : ∀ z ∈ r.nums, IN64 z := by
  obtain ⟨o1, o2, o3, o4, o5, o6⟩ := hok
  intro z hz
  unfold Req.nums at hz
  split at hz
  · simp at hz; rcases hz with rfl | rfl | rfl | rfl <;> assumption
  · split at hz
    · simp at hz; rcases hz with rfl | rfl | rfl <;> assumption
    · simp at hz; rcases hz with rfl | rfl | rfl | rfl <;> assumption
theorem bytes_len {r : Req} (hok : r.ok) : r.bytes.length ≤ 40 := by
  have := encs_len (r.nums.map nat0) (fun y hy => by obtain ⟨z, hz, rfl⟩ := List.mem_map.1 hy; exact nat0_w (nums_in hok z hz))
  have := nums_len r
  unfold Req.bytes; simp at *; omega
theorem bytes_pos (r : Req) : 0 < r.bytes.length := by
  have h : ∃ z l, r.nums = z :: l := by unfold Req.nums; split <;> (try split) <;> exact ⟨_, _, rfl⟩
  obtain ⟨z, l, h⟩ := h
  unfold Req.bytes; rw [h, List.map_cons, encs_cons, List.length_append]
  have := enc_pos (nat0 z); omega
theorem readReq_bytes {r : Req} (hok : r.ok) (hm : r.may = true) : readReq r.bytes = (r, 0) := by
  have h := rq_bytes hok hm []
  rw [List.append_nil] at h
  have := readReq_yes (l := r.bytes) (by have := bytes_len hok; omega) (by rw [h]; rfl) (by rw [h]; exact hm)
  rw [this, h]
theorem readReq_more {r : Req} (hok : r.ok) (hm : r.may = true) {q : List Nat} (hq : q ≠ []) : readReq (r.bytes ++ q) = (Req.none_, if 64 < (r.bytes ++ q).length then 3 else 4) := by
  by_cases h : 64 < (r.bytes ++ q).length
  · rw [readReq_long h, if_pos h]
  · rw [if_neg h]
    refine readReq_end h ?_
    rw [rq_bytes hok hm q]
    cases q with
    | nil => exact absurd rfl hq
    | cons a l => rfl
/-- Bytes that are read as a request are its bytes. -/
theorem readReq_inv {l : List Nat} (hl : ∀ d ∈ l, d < 256) (h : (readReq l).2 = 0) : (readReq l).1.may = true ∧ (readReq l).1.ok ∧ l = (readReq l).1.bytes := by
  by_cases h64 : 64 < l.length
  · rw [readReq_long h64] at h; cases h
  cases he : (rq l).2.end_
  · rw [readReq_end h64 he] at h; cases h
  cases hm : (rq l).1.may
  · rw [readReq_may h64 hm] at h; cases h
  rw [readReq_yes h64 he hm]
  refine ⟨hm, ?_⟩
  simp only
  unfold Cur.end_ at he
  simp only [Bool.and_eq_true, Bool.not_eq_true', List.isEmpty_iff] at he
  obtain ⟨hb, hn⟩ := he
  have B0 : ∀ d ∈ (⟨l, false⟩ : Cur).l, d < 256 := hl
  have B1 := ni_byte B0
  have B2 := ni_byte B1
  have B3 := ni_byte B2
  have hk := may_12 hm
  have z0 : IN64 0 := by unfold IN64; omega
  by_cases h12 : Cur.i ⟨l, false⟩ = 1 ∨ Cur.i ⟨l, false⟩ = 2
  · rw [rq_12 h12] at hb hn hm ⊢
    unfold Cur.two at *
    simp only at *
    obtain ⟨b3, e4, i4, _⟩ := ni_inv B3 hb
    obtain ⟨b2, e3, i3, _⟩ := ni_inv B2 b3
    obtain ⟨b1, e2, i2, _⟩ := ni_inv B1 b2
    obtain ⟨_, e1, i1, _⟩ := ni_inv B0 b1
    rw [hn] at e4
    refine ⟨⟨i1, i2, i3, i4, z0, z0⟩, ?_⟩
    unfold Req.bytes; rw [nums_12 (by exact h12)]
    simp only [List.map_append, List.map_cons, List.map_nil, encs_append, encs_cons, encs_nil, List.append_nil]
    conv => lhs; rw [show l = (⟨l, false⟩ : Cur).l from rfl, e1, e2, e3, e4]
    simp [List.append_assoc]
  by_cases h3 : Cur.i ⟨l, false⟩ = 3
  · rw [rq_3 h3] at hb hn hm ⊢
    unfold Cur.two at *
    simp only at *
    obtain ⟨b3, e4, i4, _⟩ := ni_inv B3 hb
    obtain ⟨b2, e3, i3, _⟩ := ni_inv B2 b3
    obtain ⟨b1, e2, i2, _⟩ := ni_inv B1 b2
    obtain ⟨_, e1, i1, _⟩ := ni_inv B0 b1
    rw [hn] at e4
    refine ⟨⟨i1, i2, z0, z0, i3, i4⟩, ?_⟩
    unfold Req.bytes; rw [nums_3 (by exact h3)]
    simp only [List.map_append, List.map_cons, List.map_nil, encs_append, encs_cons, encs_nil, List.append_nil]
    conv => lhs; rw [show l = (⟨l, false⟩ : Cur).l from rfl, e1, e2, e3, e4]
    simp [List.append_assoc]
  by_cases h4 : Cur.i ⟨l, false⟩ = 4
  · rw [rq_4 h4] at hb hn hm ⊢
    unfold Cur.two at *
    simp only at *
    obtain ⟨b2, e3, i3, _⟩ := ni_inv B2 hb
    obtain ⟨b1, e2, i2, _⟩ := ni_inv B1 b2
    obtain ⟨_, e1, i1, _⟩ := ni_inv B0 b1
    rw [hn] at e3
    refine ⟨⟨i1, i2, z0, z0, z0, i3⟩, ?_⟩
    unfold Req.bytes; rw [nums_4 (by exact h4)]
    simp only [List.map_append, List.map_cons, List.map_nil, encs_append, encs_cons, encs_nil, List.append_nil]
    conv => lhs; rw [show l = (⟨l, false⟩ : Cur).l from rfl, e1, e2, e3]
    simp [List.append_assoc]
  · rw [rq_5 (by omega) (by omega) h3 h4] at hk
    simp only at hk
    omega

/-! ### A request that comes in. -/
section
variable {H : Type} {enc : TypeId × Value → H} {W : World} {base : Nat} {spare : Nat → Bool} {held : Bool}
theorem one_int {n : Nat} {cs : List Value} {x : DataW H × List MemPlace} (h : DataW.trod enc Try.prog W base spare held n 3 cs = some x) : ∃ z, cs = [.int .i64 z] ∧ IN64 z := by
  obtain ⟨z, h1, h2, h3⟩ := DataW.trod_int Try.underlying3 h
  have := bounds_i64 h3
  exact ⟨z, h1, this.2, this.1⟩
theorem some_of {α : Type} {o : Option α} {l : List α} {i : Nat} (h : o = l[i]?) (hi : i < l.length) : ∃ x, o = some x := ⟨l[i], by rw [h, List.getElem?_eq_getElem hi]⟩
set_option maxRecDepth 100000 in
theorem open_req {r : Reach} {b0 : Nat} {v : Value} {d : DataW H} {p : List MemPlace} (hv : Value.okWide Try.prog W r b0 50 v) (h : DataW.Trod enc Try.prog W base spare held 50 v d p) : ∃ q : Req, v = q.V ∧ q.ok := by
  obtain ⟨cs, rfl, hsz⟩ := okWide_struct Try.underlying50 hv
  obtain ⟨l⟩ := cs
  have h6 : Try.prog.cellsOf 50 = 6 := by kernel_rfl
  have h1 : Try.prog.cellsOf 3 = 1 := by kernel_rfl
  have hE : Try.prog.cellsOf 46 = 2 := by kernel_rfl
  have hQ : Try.prog.cellsOf 48 = 2 := by kernel_rfl
  match l, hsz.trans h6 with
  | [c0, c1, c2, c3, c4, c5], _ =>
    obtain ⟨fuel, hf⟩ := h
    obtain ⟨xs, n, _, _, _, hlen, hg⟩ := DataW.trod_struct Try.underlying50 hf
    have g0 : DataW.trod enc Try.prog W base spare held n 3 (([c0, c1, c2, c3, c4, c5].drop 0).take (Try.prog.cellsOf 3)) = xs[0]? := hg 0 _ rfl
    have g1 : DataW.trod enc Try.prog W base spare held n 3 (([c0, c1, c2, c3, c4, c5].drop 1).take (Try.prog.cellsOf 3)) = xs[1]? := hg 1 _ rfl
    have g2 : DataW.trod enc Try.prog W base spare held n 46 (([c0, c1, c2, c3, c4, c5].drop 2).take (Try.prog.cellsOf 46)) = xs[2]? := hg 2 _ rfl
    have g3 : DataW.trod enc Try.prog W base spare held n 48 (([c0, c1, c2, c3, c4, c5].drop 4).take (Try.prog.cellsOf 48)) = xs[3]? := hg 3 _ rfl
    rw [h1] at g0 g1
    rw [hE] at g2
    rw [hQ] at g3
    obtain ⟨x0, e0⟩ := some_of g0 (by rw [hlen]; decide)
    obtain ⟨x1, e1⟩ := some_of g1 (by rw [hlen]; decide)
    obtain ⟨x2, e2⟩ := some_of g2 (by rw [hlen]; decide)
    obtain ⟨x3, e3⟩ := some_of g3 (by rw [hlen]; decide)
    obtain ⟨z0, q0, i0⟩ := one_int e0
    obtain ⟨z1, q1, i1⟩ := one_int e1
    obtain ⟨ys, m, _, _, _, hl2, hg2⟩ := DataW.trod_struct Try.underlying46 e2
    obtain ⟨zs, m', _, _, _, hl3, hg3⟩ := DataW.trod_struct Try.underlying48 e3
    have a0 : DataW.trod enc Try.prog W base spare held m 3 (([c2, c3].drop 0).take (Try.prog.cellsOf 3)) = ys[0]? := hg2 0 _ rfl
    have a1 : DataW.trod enc Try.prog W base spare held m 3 (([c2, c3].drop 1).take (Try.prog.cellsOf 3)) = ys[1]? := hg2 1 _ rfl
    have a2 : DataW.trod enc Try.prog W base spare held m' 3 (([c4, c5].drop 0).take (Try.prog.cellsOf 3)) = zs[0]? := hg3 0 _ rfl
    have a3 : DataW.trod enc Try.prog W base spare held m' 3 (([c4, c5].drop 1).take (Try.prog.cellsOf 3)) = zs[1]? := hg3 1 _ rfl
    rw [h1] at a0 a1 a2 a3
    obtain ⟨y0, e4⟩ := some_of a0 (by rw [hl2]; decide)
    obtain ⟨y1, e5⟩ := some_of a1 (by rw [hl2]; decide)
    obtain ⟨y2, e6⟩ := some_of a2 (by rw [hl3]; decide)
    obtain ⟨y3, e7⟩ := some_of a3 (by rw [hl3]; decide)
    obtain ⟨z2, q2, i2⟩ := one_int e4
    obtain ⟨z3, q3, i3⟩ := one_int e5
    obtain ⟨z4, q4, i4⟩ := one_int e6
    obtain ⟨z5, q5, i5⟩ := one_int e7
    simp [Value.cells] at q0 q1 q2 q3 q4 q5
    refine ⟨⟨z0, z1, z2, z3, z4, z5⟩, ?_, i0, i1, i2, i3, i4, i5⟩
    unfold Req.V
    rw [q0, q1, q2, q3, q4, q5]
end
end Go.Proofs.Ytejijghghbicdaa
