/-
  The reference's ReadRequest, by contract: the request of bytes.
-/
import Derived.Test.YtejijghghbicdaaWireParse
import Derived.Test.YtejijghghbicdaaRCursor2
import Derived.Test.YtejijghghbicdaaWireRReq2
namespace Go.Proofs.Ytejijghghbicdaa
open Go.RowKit
set_option linter.unusedSimpArgs false
set_option linter.unusedVariables false

theorem RC.lt {w : World} {B g : Nat} {l : List Nat} {bad : Bool} (h : RC w B g l bad) : g < w.heap.size := by
  obtain ⟨A, n, c, a, all, hB, _⟩ := h; exact hB.lt
theorem RC.alloc {w : World} {B g : Nat} {l : List Nat} {bad : Bool} (h : RC w B g l bad) (o : Obj) : RC (w.alloc o) B g l bad := by
  obtain ⟨A, n, c, a, all, hB, hR, hBg, h⟩ := h
  exact ⟨A, n, c, a, all, hB.alloc o, hR.alloc (Nat.le_trans hBg (Nat.le_of_lt hB.lt)) o, hBg, h⟩
theorem RC.setCell {w : World} {B g : Nat} {l : List Nat} {bad : Bool} (h : RC w B g l bad) {p : Addr} (hne : g ≠ p.block) (hB : B ≤ p.block) (v : Value) : RC (w.setCell p v) B g l bad := by
  obtain ⟨A, n, c, a, all, hK, hR, hBg, h⟩ := h
  exact ⟨A, n, c, a, all, hK.far hne v, hR.setCell hB v, hBg, h⟩
theorem RC.on {w w' : World} {B g : Nat} {l : List Nat} {bad : Bool} (h : RC w B g l bad) (hb : Below w.heap.size w w') : RC w' B g l bad := by
  obtain ⟨A, n, c, a, all, hK, hR, hBg, h⟩ := h
  exact ⟨A, n, c, a, all, hK.on hb, hR.below (hb.mono (Nat.le_trans hBg (Nat.le_of_lt hK.lt))), hBg, h⟩
/-- A fresh cursor of the reference's. -/
theorem RC.new {w : World} {B n c : Nat} {A : Option Addr} {xs : List Nat} (hR : Reads w B 1 A n (u8s xs)) (hB : B ≤ w.heap.size) (hn : n ≤ 1000000000) :
    RC (w.alloc (.cells #[.slice A n c, .int .i64 0, .bool false] 43)) B w.heap.size xs false :=
  ⟨A, n, c, 0, xs, Blk.new _ _ _, hR.alloc hB _, hB, Nat.zero_le _, hn, fun h => (by cases h), fun _ => rfl⟩
theorem in64_rdV (l : List Nat) : IN64 ((rdV topI l : Nat) : Int) := by
  have := rdV_le topI l; have := topI_cast; unfold IN64; omega
theorem in64_z : IN64 0 := by unfold IN64; omega
theorem rcint_v {B g v : Nat} {l l' : List Nat} {bad bad' : Bool} (w : World) (h : RC w B g l bad) (hl : ∀ d ∈ l, d < 256) (hv : rdV topI l = v) (hl' : rdL topI l = l') (hb' : rdB topI l bad = bad') :
    Calls Try.prog 29 #[.pointer (some ⟨g, 0, none⟩)] w fun e w' => e = .returned (.int .i64 (v : Nat)) ∧ RC w' B g l' bad' ∧ w.grownBy w' (some g) := by
  subst hv hl' hb'; exact rcint_any w h hl
theorem below_cur2 {B g : Nat} {w W w1 : World} (h : Below B w W) (hg : W.grownBy w1 (some g)) (hB : B ≤ W.heap.size) (hb : B ≤ g) : Below B w w1 := h.grown hg hB (fun k hk => by injection hk with e; omega)

set_option maxHeartbeats 400000 in
theorem rreadreq_long {A : Option Addr} {n c : Nat} {xs : List Nat} (w : World) (hn : n ≤ maxLen) (hl : xs.length = n) (h : 64 < n) :
    Calls Try.prog 41 #[.slice A n c] w fun e w' => e = .returned (.tuple #[(readReq xs).1.V, .int .i64 (readReq xs).2]) ∧ Below w.heap.size w w' := by
  unfold maxLen at hn
  have HR := Lib.hid (readReq_long (l := xs) (by omega))
  clear hl
  go_enter Try.func41, Try.ntmps41
  go_wp2_with fail
  exact bodyPost_ret (v := .tuple #[.agg #[.int .i64 0, .int .i64 0, .int .i64 0, .int .i64 0, .int .i64 0, .int .i64 0], .int .i64 3]) (by simp [results, Try.results41, go_sem]) rfl ⟨by rw [HR.out]; rfl, by repeat (first | exact Below.refl _ _ | refine Below.setCell ?_ (by first | omega | (simp; done) | (simp; omega)) _ | refine Below.alloc ?_ (by first | omega | (simp; done) | (simp; omega)) _ | refine Below.drew ?_ | refine below_drewN ?_ _ | refine below_after ?_ (by assumption) (by first | omega | (simp; done) | (simp; omega)))⟩

set_option maxRecDepth 100000 in
set_option maxHeartbeats 4000000 in
theorem rreadreq_1 {A : Option Addr} {n c : Nat} {xs : List Nat} (w : World) (hx : Reads w w.heap.size 1 A n (u8s xs)) (hxs : ∀ x ∈ xs, x < 256) (h : ¬ 64 < n) (hk : rdV topI xs = 1) :
    Calls Try.prog 41 #[.slice A n c] w fun e w' => e = .returned (.tuple #[(readReq xs).1.V, .int .i64 (readReq xs).2]) ∧ Below w.heap.size w w' := by
  have HX := Lib.hid hxs
  have hl : xs.length = n := by simpa using hx.1
  have HN := Lib.hid hl
  have HK := Lib.hid hk
  clear hl hxs hk
  skip
  obtain ⟨l1, hl1⟩ : ∃ l1, rdL topI xs = l1 := ⟨_, rfl⟩
  obtain ⟨b1, hb1⟩ : ∃ b1, rdB topI xs false = b1 := ⟨_, rfl⟩
  obtain ⟨id, hid⟩ : ∃ id, rdV topI l1 = id := ⟨_, rfl⟩
  obtain ⟨l2, hl2⟩ : ∃ l2, rdL topI l1 = l2 := ⟨_, rfl⟩
  obtain ⟨b2, hb2⟩ : ∃ b2, rdB topI l1 b1 = b2 := ⟨_, rfl⟩
  have Hl1 : ∀ d ∈ l1, d < 256 := by rw [← hl1]; exact rdL_byte (top := topI) HX.out
  have Hl2 : ∀ d ∈ l2, d < 256 := by rw [← hl2]; exact rdL_byte (top := topI) Hl1
  have Iid : IN64 (id : Nat) := by rw [← hid]; exact in64_rdV _
  obtain ⟨v0, hv0⟩ : ∃ v0, rdV topI l2 = v0 := ⟨_, rfl⟩
  obtain ⟨l3, hl3⟩ : ∃ l3, rdL topI l2 = l3 := ⟨_, rfl⟩
  obtain ⟨b3, hb3⟩ : ∃ b3, rdB topI l2 b2 = b3 := ⟨_, rfl⟩
  have Hl3 : ∀ d ∈ l3, d < 256 := by rw [← hl3]; exact rdL_byte (top := topI) Hl2
  have Iv0 : IN64 (v0 : Nat) := by rw [← hv0]; exact in64_rdV _
  obtain ⟨v1, hv1⟩ : ∃ v1, rdV topI l3 = v1 := ⟨_, rfl⟩
  obtain ⟨l4, hl4⟩ : ∃ l4, rdL topI l3 = l4 := ⟨_, rfl⟩
  obtain ⟨b4, hb4⟩ : ∃ b4, rdB topI l3 b3 = b4 := ⟨_, rfl⟩
  have Hl4 : ∀ d ∈ l4, d < 256 := by rw [← hl4]; exact rdL_byte (top := topI) Hl3
  have Iv1 : IN64 (v1 : Nat) := by rw [← hv1]; exact in64_rdV _
  have HRQ := Lib.hid (show rq xs = (⟨1, (id : Nat), (v0 : Nat), (v1 : Nat), 0, 0⟩, ⟨l4, b4⟩) by rw [rq_12 (.inl (by simp [Cur.i, HK.out]))]; simp [Cur.i, Cur.ni, Cur.two, HK.out, hl1, hb1, hid, hl2, hb2, hv0, hl3, hb3, hv1, hl4, hb4])
  have HOK := Lib.hid (show Req.ok ⟨1, (id : Nat), (v0 : Nat), (v1 : Nat), 0, 0⟩ from ⟨by unfold IN64; simp only; omega, Iid, Iv0, Iv1, in64_z, in64_z⟩)
  have E0 := HK
  have E1 := Lib.hid (And.intro hl1 hb1)
  have E2 := Lib.hid (And.intro hid (And.intro hl2 hb2))
  have E3 := Lib.hid (And.intro hv0 (And.intro hl3 hb3))
  have E4 := Lib.hid (And.intro hv1 (And.intro hl4 hb4))
  have Y1 := Lib.hid Hl1
  have Y2 := Lib.hid Hl2
  have Y3 := Lib.hid Hl3
  have Y4 := Lib.hid Hl4
  have HRC := Lib.hid (RC.new (c := c) (hx.alloc (Nat.le_refl _) (.cells #[.int .i64 0, .int .i64 0, .int .i64 0, .int .i64 0, .int .i64 0, .int .i64 0] 50)) (by simp) (by omega))
  clear hl1 hb1 hid hl2 hb2 hv0 hl3 hb3 hv1 hl4 hb4 Hl1 Hl2 Hl3 Hl4
  go_enter Try.func41, Try.ntmps41
  go_wp2_with fail
  refine (rcint_v (B := w.heap.size) (g := w.heap.size + 1) _ (by simpa using HRC.out) HX.out E0.out E1.out.1 E1.out.2).mono ?_
  rintro e w1 ⟨rfl, hr, hg⟩
  have K0 := (Blk.alloc (Blk.new w 50 #[.int .i64 0, .int .i64 0, .int .i64 0, .int .i64 0, .int .i64 0, .int .i64 0]) (.cells #[.slice A n c, .int .i64 0, .bool false] 43)).grown hg (by simp)
  have HB := below_cur2 (((Below.refl w.heap.size w).alloc (Nat.le_refl _) (.cells #[.int .i64 0, .int .i64 0, .int .i64 0, .int .i64 0, .int .i64 0, .int .i64 0] 50)).alloc (by simp) (.cells #[.slice A n c, .int .i64 0, .bool false] 43)) hg (by simp; omega) (by omega)
  have HR1 := Lib.hid hr
  clear hg hr HRC
  go_wp2_with fail
  refine (rcint_v (B := w.heap.size) (g := w.heap.size + 1) _ HR1.out Y1.out E2.out.1 E2.out.2.1 E2.out.2.2).mono ?_
  rintro e w2 ⟨rfl, hr, hg⟩
  have K0 := K0.grown hg (by simp)
  have HB := below_cur2 HB hg HB.size (by omega)
  have hgl := hr.lt
  have HR2 := Lib.hid (hr.alloc (.cells #[.int .i64 1, .int .i64 (id : Nat), .int .i64 0, .int .i64 0, .int .i64 0, .int .i64 0] 50))
  have HR2b := Lib.hid hr
  clear hg hr HR1
  have K2 := Blk.new w2 50 #[.int .i64 1, .int .i64 (id : Nat), .int .i64 0, .int .i64 0, .int .i64 0, .int .i64 0]
  have K0 := K0.alloc (.cells #[.int .i64 1, .int .i64 (id : Nat), .int .i64 0, .int .i64 0, .int .i64 0, .int .i64 0] 50)
  have HB := HB.alloc HB.size (.cells #[.int .i64 1, .int .i64 (id : Nat), .int .i64 0, .int .i64 0, .int .i64 0, .int .i64 0] 50)
  go_wp2_with fail
  refine (rcint_v (B := w.heap.size) (g := w.heap.size + 1) _ HR2.out Y2.out E3.out.1 E3.out.2.1 E3.out.2.2).mono ?_
  rintro e w3 ⟨rfl, hr, hg⟩
  have K0 := K0.grown hg (by simp)
  have K2 := K2.grown hg (by simp; omega)
  have HB := below_cur2 HB hg (by have := HB.size; simp at this ⊢; omega) (by omega)
  have c2 := K2.c
  have f2 := K2.f
  have z2 := K2.lt
  have K2 : Blk (w3.setCell ⟨w2.heap.size, 2, none⟩ (.int .i64 (v0 : Nat))) w2.heap.size 50 #[.int .i64 1, .int .i64 (id : Nat), .int .i64 (v0 : Nat), .int .i64 0, .int .i64 0, .int .i64 0] := by have := K2.set_ 2 (.int .i64 (v0 : Nat)); simpa using this
  have K0 := K0.far (p := ⟨w2.heap.size, 2, none⟩) (by show _ ≠ w2.heap.size; omega) (.int .i64 (v0 : Nat))
  have HB := HB.setCell (p := ⟨w2.heap.size, 2, none⟩) (by show _ ≤ w2.heap.size; omega) (.int .i64 (v0 : Nat))
  have HR3 := Lib.hid (hr.setCell (p := ⟨w2.heap.size, 2, none⟩) (by show _ ≠ w2.heap.size; omega) (by show _ ≤ w2.heap.size; omega) (.int .i64 (v0 : Nat)))
  have HK2 := Lib.hid K2
  have HK0 := Lib.hid K0
  clear K0 K2 hg hr HR2
  go_wp2_with fail
  clear c2 f2 z2
  have K0 := HK0.out
  have K2 := HK2.out
  go_wp2_with fail
  refine (rcint_v (B := w.heap.size) (g := w.heap.size + 1) _ HR3.out Y3.out E4.out.1 E4.out.2.1 E4.out.2.2).mono ?_
  rintro e w4 ⟨rfl, hr, hg⟩
  have K0 := K0.grown hg (by simp)
  have K2 := K2.grown hg (by simp; omega)
  have HB := below_cur2 HB hg HB.size (by omega)
  have c2 := K2.c
  have f2 := K2.f
  have z2 := K2.lt
  have K2 : Blk (w4.setCell ⟨w2.heap.size, 3, none⟩ (.int .i64 (v1 : Nat))) w2.heap.size 50 #[.int .i64 1, .int .i64 (id : Nat), .int .i64 (v0 : Nat), .int .i64 (v1 : Nat), .int .i64 0, .int .i64 0] := by have := K2.set_ 3 (.int .i64 (v1 : Nat)); simpa using this
  have K0 := K0.far (p := ⟨w2.heap.size, 3, none⟩) (by show _ ≠ w2.heap.size; omega) (.int .i64 (v1 : Nat))
  have HB := HB.setCell (p := ⟨w2.heap.size, 3, none⟩) (by show _ ≤ w2.heap.size; omega) (.int .i64 (v1 : Nat))
  have HR4 := Lib.hid (hr.setCell (p := ⟨w2.heap.size, 3, none⟩) (by show _ ≠ w2.heap.size; omega) (by show _ ≤ w2.heap.size; omega) (.int .i64 (v1 : Nat)))
  have HK2 := Lib.hid K2
  have HK0 := Lib.hid K0
  clear K0 K2 hg hr HR3
  go_wp2_with fail
  cases hm : Req.may ⟨1, (id : Nat), (v0 : Nat), (v1 : Nat), 0, 0⟩
  · have HM := Lib.hid hm
    clear hm
    refine (rreq_no ⟨1, (id : Nat), (v0 : Nat), (v1 : Nat), 0, 0⟩ HM.out _).mono ?_
    rintro e w7 ⟨rfl, hb⟩
    have HRX := Lib.hid (HR4.out.on hb)
    have K0 := HK0.out.on hb
    have K2 := HK2.out.on hb
    have HB := HB.trans (hb.mono (by have := HB.size; first | exact this | (simp at this ⊢; omega)))
    have c0 := K0.c
    have f0 := K0.f
    have z0 := K0.lt
    have c2 := K2.c
    have f2 := K2.f
    have z2 := K2.lt
    clear K0 K2 hb HK0 HK2
    go_wp2_with fail
    refine (rcend_any _ HRX.out).mono ?_
    cases he : (!b4 && l4.isEmpty)
    · rintro e w8 ⟨rfl, qq, rfl⟩
      have HE := Lib.hid he
      clear he
      have HB := below_drewN HB qq
      go_wp2_with fail
      exact bodyPost_ret (v := .tuple #[.agg #[.int .i64 0, .int .i64 0, .int .i64 0, .int .i64 0, .int .i64 0, .int .i64 0], .int .i64 4]) (by simp [results, Try.results41, go_sem, c0, f0, z0]) rfl ⟨by rw [readReq_end (by have := HN.out; omega) (by rw [HRQ.out]; exact HE.out)]; rfl, (((((HB.setCell (Nat.le_refl _) _).setCell (Nat.le_refl _) _).setCell (Nat.le_refl _) _).setCell (Nat.le_refl _) _).setCell (Nat.le_refl _) _).setCell (Nat.le_refl _) _⟩
    · rintro e w8 ⟨rfl, qq, rfl⟩
      have HE := Lib.hid he
      clear he
      have HB := below_drewN HB qq
      go_wp2_with fail
      exact bodyPost_ret (v := .tuple #[.agg #[.int .i64 0, .int .i64 0, .int .i64 0, .int .i64 0, .int .i64 0, .int .i64 0], .int .i64 4]) (by simp [results, Try.results41, go_sem, c0, f0, z0]) rfl ⟨by rw [readReq_may (by have := HN.out; omega) (by rw [HRQ.out]; exact HM.out)]; rfl, (((((HB.setCell (Nat.le_refl _) _).setCell (Nat.le_refl _) _).setCell (Nat.le_refl _) _).setCell (Nat.le_refl _) _).setCell (Nat.le_refl _) _).setCell (Nat.le_refl _) _⟩
  · have HM := Lib.hid hm
    clear hm
    refine (rreq_yes ⟨1, (id : Nat), (v0 : Nat), (v1 : Nat), 0, 0⟩ HOK.out HM.out _).mono ?_
    rintro e w7 ⟨bv, rfl, _, hb⟩
    have HRX := Lib.hid (HR4.out.on hb)
    have K0 := HK0.out.on hb
    have K2 := HK2.out.on hb
    have HB := HB.trans (hb.mono (by have := HB.size; first | exact this | (simp at this ⊢; omega)))
    have c0 := K0.c
    have f0 := K0.f
    have z0 := K0.lt
    have c2 := K2.c
    have f2 := K2.f
    have z2 := K2.lt
    clear K0 K2 hb HK0 HK2
    go_wp2_with fail
    refine (rcend_any _ HRX.out).mono ?_
    cases he : (!b4 && l4.isEmpty)
    · rintro e w8 ⟨rfl, qq, rfl⟩
      have HE := Lib.hid he
      clear he
      have HB := below_drewN HB qq
      go_wp2_with fail
      exact bodyPost_ret (v := .tuple #[.agg #[.int .i64 0, .int .i64 0, .int .i64 0, .int .i64 0, .int .i64 0, .int .i64 0], .int .i64 4]) (by simp [results, Try.results41, go_sem, c0, f0, z0]) rfl ⟨by rw [readReq_end (by have := HN.out; omega) (by rw [HRQ.out]; exact HE.out)]; rfl, (((((HB.setCell (Nat.le_refl _) _).setCell (Nat.le_refl _) _).setCell (Nat.le_refl _) _).setCell (Nat.le_refl _) _).setCell (Nat.le_refl _) _).setCell (Nat.le_refl _) _⟩
    · rintro e w8 ⟨rfl, qq, rfl⟩
      have HE := Lib.hid he
      clear he
      have HB := below_drewN HB qq
      go_wp2_with fail
      exact bodyPost_ret (v := .tuple #[.agg #[.int .i64 1, .int .i64 (id : Nat), .int .i64 (v0 : Nat), .int .i64 (v1 : Nat), .int .i64 0, .int .i64 0], .int .i64 0]) (by simp [results, Try.results41, go_sem, c0, f0, z0]) rfl ⟨by rw [readReq_yes (by have := HN.out; omega) (by rw [HRQ.out]; exact HE.out) (by rw [HRQ.out]; exact HM.out), HRQ.out]; rfl, (((((HB.setCell (Nat.le_refl _) _).setCell (Nat.le_refl _) _).setCell (Nat.le_refl _) _).setCell (Nat.le_refl _) _).setCell (Nat.le_refl _) _).setCell (Nat.le_refl _) _⟩

set_option maxRecDepth 100000 in
set_option maxHeartbeats 4000000 in
theorem rreadreq_2 {A : Option Addr} {n c : Nat} {xs : List Nat} (w : World) (hx : Reads w w.heap.size 1 A n (u8s xs)) (hxs : ∀ x ∈ xs, x < 256) (h : ¬ 64 < n) (hk : rdV topI xs = 2) :
    Calls Try.prog 41 #[.slice A n c] w fun e w' => e = .returned (.tuple #[(readReq xs).1.V, .int .i64 (readReq xs).2]) ∧ Below w.heap.size w w' := by
  have HX := Lib.hid hxs
  have hl : xs.length = n := by simpa using hx.1
  have HN := Lib.hid hl
  have HK := Lib.hid hk
  clear hl hxs hk
  skip
  obtain ⟨l1, hl1⟩ : ∃ l1, rdL topI xs = l1 := ⟨_, rfl⟩
  obtain ⟨b1, hb1⟩ : ∃ b1, rdB topI xs false = b1 := ⟨_, rfl⟩
  obtain ⟨id, hid⟩ : ∃ id, rdV topI l1 = id := ⟨_, rfl⟩
  obtain ⟨l2, hl2⟩ : ∃ l2, rdL topI l1 = l2 := ⟨_, rfl⟩
  obtain ⟨b2, hb2⟩ : ∃ b2, rdB topI l1 b1 = b2 := ⟨_, rfl⟩
  have Hl1 : ∀ d ∈ l1, d < 256 := by rw [← hl1]; exact rdL_byte (top := topI) HX.out
  have Hl2 : ∀ d ∈ l2, d < 256 := by rw [← hl2]; exact rdL_byte (top := topI) Hl1
  have Iid : IN64 (id : Nat) := by rw [← hid]; exact in64_rdV _
  obtain ⟨v0, hv0⟩ : ∃ v0, rdV topI l2 = v0 := ⟨_, rfl⟩
  obtain ⟨l3, hl3⟩ : ∃ l3, rdL topI l2 = l3 := ⟨_, rfl⟩
  obtain ⟨b3, hb3⟩ : ∃ b3, rdB topI l2 b2 = b3 := ⟨_, rfl⟩
  have Hl3 : ∀ d ∈ l3, d < 256 := by rw [← hl3]; exact rdL_byte (top := topI) Hl2
  have Iv0 : IN64 (v0 : Nat) := by rw [← hv0]; exact in64_rdV _
  obtain ⟨v1, hv1⟩ : ∃ v1, rdV topI l3 = v1 := ⟨_, rfl⟩
  obtain ⟨l4, hl4⟩ : ∃ l4, rdL topI l3 = l4 := ⟨_, rfl⟩
  obtain ⟨b4, hb4⟩ : ∃ b4, rdB topI l3 b3 = b4 := ⟨_, rfl⟩
  have Hl4 : ∀ d ∈ l4, d < 256 := by rw [← hl4]; exact rdL_byte (top := topI) Hl3
  have Iv1 : IN64 (v1 : Nat) := by rw [← hv1]; exact in64_rdV _
  have HRQ := Lib.hid (show rq xs = (⟨2, (id : Nat), (v0 : Nat), (v1 : Nat), 0, 0⟩, ⟨l4, b4⟩) by rw [rq_12 (.inr (by simp [Cur.i, HK.out]))]; simp [Cur.i, Cur.ni, Cur.two, HK.out, hl1, hb1, hid, hl2, hb2, hv0, hl3, hb3, hv1, hl4, hb4])
  have HOK := Lib.hid (show Req.ok ⟨2, (id : Nat), (v0 : Nat), (v1 : Nat), 0, 0⟩ from ⟨by unfold IN64; simp only; omega, Iid, Iv0, Iv1, in64_z, in64_z⟩)
  have E0 := HK
  have E1 := Lib.hid (And.intro hl1 hb1)
  have E2 := Lib.hid (And.intro hid (And.intro hl2 hb2))
  have E3 := Lib.hid (And.intro hv0 (And.intro hl3 hb3))
  have E4 := Lib.hid (And.intro hv1 (And.intro hl4 hb4))
  have Y1 := Lib.hid Hl1
  have Y2 := Lib.hid Hl2
  have Y3 := Lib.hid Hl3
  have Y4 := Lib.hid Hl4
  have HRC := Lib.hid (RC.new (c := c) (hx.alloc (Nat.le_refl _) (.cells #[.int .i64 0, .int .i64 0, .int .i64 0, .int .i64 0, .int .i64 0, .int .i64 0] 50)) (by simp) (by omega))
  clear hl1 hb1 hid hl2 hb2 hv0 hl3 hb3 hv1 hl4 hb4 Hl1 Hl2 Hl3 Hl4
  go_enter Try.func41, Try.ntmps41
  go_wp2_with fail
  refine (rcint_v (B := w.heap.size) (g := w.heap.size + 1) _ (by simpa using HRC.out) HX.out E0.out E1.out.1 E1.out.2).mono ?_
  rintro e w1 ⟨rfl, hr, hg⟩
  have K0 := (Blk.alloc (Blk.new w 50 #[.int .i64 0, .int .i64 0, .int .i64 0, .int .i64 0, .int .i64 0, .int .i64 0]) (.cells #[.slice A n c, .int .i64 0, .bool false] 43)).grown hg (by simp)
  have HB := below_cur2 (((Below.refl w.heap.size w).alloc (Nat.le_refl _) (.cells #[.int .i64 0, .int .i64 0, .int .i64 0, .int .i64 0, .int .i64 0, .int .i64 0] 50)).alloc (by simp) (.cells #[.slice A n c, .int .i64 0, .bool false] 43)) hg (by simp; omega) (by omega)
  have HR1 := Lib.hid hr
  clear hg hr HRC
  go_wp2_with fail
  refine (rcint_v (B := w.heap.size) (g := w.heap.size + 1) _ HR1.out Y1.out E2.out.1 E2.out.2.1 E2.out.2.2).mono ?_
  rintro e w2 ⟨rfl, hr, hg⟩
  have K0 := K0.grown hg (by simp)
  have HB := below_cur2 HB hg HB.size (by omega)
  have hgl := hr.lt
  have HR2 := Lib.hid (hr.alloc (.cells #[.int .i64 2, .int .i64 (id : Nat), .int .i64 0, .int .i64 0, .int .i64 0, .int .i64 0] 50))
  have HR2b := Lib.hid hr
  clear hg hr HR1
  have K2 := Blk.new w2 50 #[.int .i64 2, .int .i64 (id : Nat), .int .i64 0, .int .i64 0, .int .i64 0, .int .i64 0]
  have K0 := K0.alloc (.cells #[.int .i64 2, .int .i64 (id : Nat), .int .i64 0, .int .i64 0, .int .i64 0, .int .i64 0] 50)
  have HB := HB.alloc HB.size (.cells #[.int .i64 2, .int .i64 (id : Nat), .int .i64 0, .int .i64 0, .int .i64 0, .int .i64 0] 50)
  go_wp2_with fail
  refine (rcint_v (B := w.heap.size) (g := w.heap.size + 1) _ HR2.out Y2.out E3.out.1 E3.out.2.1 E3.out.2.2).mono ?_
  rintro e w3 ⟨rfl, hr, hg⟩
  have K0 := K0.grown hg (by simp)
  have K2 := K2.grown hg (by simp; omega)
  have HB := below_cur2 HB hg (by have := HB.size; simp at this ⊢; omega) (by omega)
  have c2 := K2.c
  have f2 := K2.f
  have z2 := K2.lt
  have K2 : Blk (w3.setCell ⟨w2.heap.size, 2, none⟩ (.int .i64 (v0 : Nat))) w2.heap.size 50 #[.int .i64 2, .int .i64 (id : Nat), .int .i64 (v0 : Nat), .int .i64 0, .int .i64 0, .int .i64 0] := by have := K2.set_ 2 (.int .i64 (v0 : Nat)); simpa using this
  have K0 := K0.far (p := ⟨w2.heap.size, 2, none⟩) (by show _ ≠ w2.heap.size; omega) (.int .i64 (v0 : Nat))
  have HB := HB.setCell (p := ⟨w2.heap.size, 2, none⟩) (by show _ ≤ w2.heap.size; omega) (.int .i64 (v0 : Nat))
  have HR3 := Lib.hid (hr.setCell (p := ⟨w2.heap.size, 2, none⟩) (by show _ ≠ w2.heap.size; omega) (by show _ ≤ w2.heap.size; omega) (.int .i64 (v0 : Nat)))
  have HK2 := Lib.hid K2
  have HK0 := Lib.hid K0
  clear K0 K2 hg hr HR2
  go_wp2_with fail
  clear c2 f2 z2
  have K0 := HK0.out
  have K2 := HK2.out
  go_wp2_with fail
  refine (rcint_v (B := w.heap.size) (g := w.heap.size + 1) _ HR3.out Y3.out E4.out.1 E4.out.2.1 E4.out.2.2).mono ?_
  rintro e w4 ⟨rfl, hr, hg⟩
  have K0 := K0.grown hg (by simp)
  have K2 := K2.grown hg (by simp; omega)
  have HB := below_cur2 HB hg HB.size (by omega)
  have c2 := K2.c
  have f2 := K2.f
  have z2 := K2.lt
  have K2 : Blk (w4.setCell ⟨w2.heap.size, 3, none⟩ (.int .i64 (v1 : Nat))) w2.heap.size 50 #[.int .i64 2, .int .i64 (id : Nat), .int .i64 (v0 : Nat), .int .i64 (v1 : Nat), .int .i64 0, .int .i64 0] := by have := K2.set_ 3 (.int .i64 (v1 : Nat)); simpa using this
  have K0 := K0.far (p := ⟨w2.heap.size, 3, none⟩) (by show _ ≠ w2.heap.size; omega) (.int .i64 (v1 : Nat))
  have HB := HB.setCell (p := ⟨w2.heap.size, 3, none⟩) (by show _ ≤ w2.heap.size; omega) (.int .i64 (v1 : Nat))
  have HR4 := Lib.hid (hr.setCell (p := ⟨w2.heap.size, 3, none⟩) (by show _ ≠ w2.heap.size; omega) (by show _ ≤ w2.heap.size; omega) (.int .i64 (v1 : Nat)))
  have HK2 := Lib.hid K2
  have HK0 := Lib.hid K0
  clear K0 K2 hg hr HR3
  go_wp2_with fail
  cases hm : Req.may ⟨2, (id : Nat), (v0 : Nat), (v1 : Nat), 0, 0⟩
  · have HM := Lib.hid hm
    clear hm
    refine (rreq_no ⟨2, (id : Nat), (v0 : Nat), (v1 : Nat), 0, 0⟩ HM.out _).mono ?_
    rintro e w7 ⟨rfl, hb⟩
    have HRX := Lib.hid (HR4.out.on hb)
    have K0 := HK0.out.on hb
    have K2 := HK2.out.on hb
    have HB := HB.trans (hb.mono (by have := HB.size; first | exact this | (simp at this ⊢; omega)))
    have c0 := K0.c
    have f0 := K0.f
    have z0 := K0.lt
    have c2 := K2.c
    have f2 := K2.f
    have z2 := K2.lt
    clear K0 K2 hb HK0 HK2
    go_wp2_with fail
    refine (rcend_any _ HRX.out).mono ?_
    cases he : (!b4 && l4.isEmpty)
    · rintro e w8 ⟨rfl, qq, rfl⟩
      have HE := Lib.hid he
      clear he
      have HB := below_drewN HB qq
      go_wp2_with fail
      exact bodyPost_ret (v := .tuple #[.agg #[.int .i64 0, .int .i64 0, .int .i64 0, .int .i64 0, .int .i64 0, .int .i64 0], .int .i64 4]) (by simp [results, Try.results41, go_sem, c0, f0, z0]) rfl ⟨by rw [readReq_end (by have := HN.out; omega) (by rw [HRQ.out]; exact HE.out)]; rfl, (((((HB.setCell (Nat.le_refl _) _).setCell (Nat.le_refl _) _).setCell (Nat.le_refl _) _).setCell (Nat.le_refl _) _).setCell (Nat.le_refl _) _).setCell (Nat.le_refl _) _⟩
    · rintro e w8 ⟨rfl, qq, rfl⟩
      have HE := Lib.hid he
      clear he
      have HB := below_drewN HB qq
      go_wp2_with fail
      exact bodyPost_ret (v := .tuple #[.agg #[.int .i64 0, .int .i64 0, .int .i64 0, .int .i64 0, .int .i64 0, .int .i64 0], .int .i64 4]) (by simp [results, Try.results41, go_sem, c0, f0, z0]) rfl ⟨by rw [readReq_may (by have := HN.out; omega) (by rw [HRQ.out]; exact HM.out)]; rfl, (((((HB.setCell (Nat.le_refl _) _).setCell (Nat.le_refl _) _).setCell (Nat.le_refl _) _).setCell (Nat.le_refl _) _).setCell (Nat.le_refl _) _).setCell (Nat.le_refl _) _⟩
  · have HM := Lib.hid hm
    clear hm
    refine (rreq_yes ⟨2, (id : Nat), (v0 : Nat), (v1 : Nat), 0, 0⟩ HOK.out HM.out _).mono ?_
    rintro e w7 ⟨bv, rfl, _, hb⟩
    have HRX := Lib.hid (HR4.out.on hb)
    have K0 := HK0.out.on hb
    have K2 := HK2.out.on hb
    have HB := HB.trans (hb.mono (by have := HB.size; first | exact this | (simp at this ⊢; omega)))
    have c0 := K0.c
    have f0 := K0.f
    have z0 := K0.lt
    have c2 := K2.c
    have f2 := K2.f
    have z2 := K2.lt
    clear K0 K2 hb HK0 HK2
    go_wp2_with fail
    refine (rcend_any _ HRX.out).mono ?_
    cases he : (!b4 && l4.isEmpty)
    · rintro e w8 ⟨rfl, qq, rfl⟩
      have HE := Lib.hid he
      clear he
      have HB := below_drewN HB qq
      go_wp2_with fail
      exact bodyPost_ret (v := .tuple #[.agg #[.int .i64 0, .int .i64 0, .int .i64 0, .int .i64 0, .int .i64 0, .int .i64 0], .int .i64 4]) (by simp [results, Try.results41, go_sem, c0, f0, z0]) rfl ⟨by rw [readReq_end (by have := HN.out; omega) (by rw [HRQ.out]; exact HE.out)]; rfl, (((((HB.setCell (Nat.le_refl _) _).setCell (Nat.le_refl _) _).setCell (Nat.le_refl _) _).setCell (Nat.le_refl _) _).setCell (Nat.le_refl _) _).setCell (Nat.le_refl _) _⟩
    · rintro e w8 ⟨rfl, qq, rfl⟩
      have HE := Lib.hid he
      clear he
      have HB := below_drewN HB qq
      go_wp2_with fail
      exact bodyPost_ret (v := .tuple #[.agg #[.int .i64 2, .int .i64 (id : Nat), .int .i64 (v0 : Nat), .int .i64 (v1 : Nat), .int .i64 0, .int .i64 0], .int .i64 0]) (by simp [results, Try.results41, go_sem, c0, f0, z0]) rfl ⟨by rw [readReq_yes (by have := HN.out; omega) (by rw [HRQ.out]; exact HE.out) (by rw [HRQ.out]; exact HM.out), HRQ.out]; rfl, (((((HB.setCell (Nat.le_refl _) _).setCell (Nat.le_refl _) _).setCell (Nat.le_refl _) _).setCell (Nat.le_refl _) _).setCell (Nat.le_refl _) _).setCell (Nat.le_refl _) _⟩

set_option maxRecDepth 100000 in
set_option maxHeartbeats 4000000 in
theorem rreadreq_3 {A : Option Addr} {n c : Nat} {xs : List Nat} (w : World) (hx : Reads w w.heap.size 1 A n (u8s xs)) (hxs : ∀ x ∈ xs, x < 256) (h : ¬ 64 < n) (hk : rdV topI xs = 3) :
    Calls Try.prog 41 #[.slice A n c] w fun e w' => e = .returned (.tuple #[(readReq xs).1.V, .int .i64 (readReq xs).2]) ∧ Below w.heap.size w w' := by
  have HX := Lib.hid hxs
  have hl : xs.length = n := by simpa using hx.1
  have HN := Lib.hid hl
  have HK := Lib.hid hk
  clear hl hxs hk
  skip
  obtain ⟨l1, hl1⟩ : ∃ l1, rdL topI xs = l1 := ⟨_, rfl⟩
  obtain ⟨b1, hb1⟩ : ∃ b1, rdB topI xs false = b1 := ⟨_, rfl⟩
  obtain ⟨id, hid⟩ : ∃ id, rdV topI l1 = id := ⟨_, rfl⟩
  obtain ⟨l2, hl2⟩ : ∃ l2, rdL topI l1 = l2 := ⟨_, rfl⟩
  obtain ⟨b2, hb2⟩ : ∃ b2, rdB topI l1 b1 = b2 := ⟨_, rfl⟩
  have Hl1 : ∀ d ∈ l1, d < 256 := by rw [← hl1]; exact rdL_byte (top := topI) HX.out
  have Hl2 : ∀ d ∈ l2, d < 256 := by rw [← hl2]; exact rdL_byte (top := topI) Hl1
  have Iid : IN64 (id : Nat) := by rw [← hid]; exact in64_rdV _
  obtain ⟨v0, hv0⟩ : ∃ v0, rdV topI l2 = v0 := ⟨_, rfl⟩
  obtain ⟨l3, hl3⟩ : ∃ l3, rdL topI l2 = l3 := ⟨_, rfl⟩
  obtain ⟨b3, hb3⟩ : ∃ b3, rdB topI l2 b2 = b3 := ⟨_, rfl⟩
  have Hl3 : ∀ d ∈ l3, d < 256 := by rw [← hl3]; exact rdL_byte (top := topI) Hl2
  have Iv0 : IN64 (v0 : Nat) := by rw [← hv0]; exact in64_rdV _
  obtain ⟨v1, hv1⟩ : ∃ v1, rdV topI l3 = v1 := ⟨_, rfl⟩
  obtain ⟨l4, hl4⟩ : ∃ l4, rdL topI l3 = l4 := ⟨_, rfl⟩
  obtain ⟨b4, hb4⟩ : ∃ b4, rdB topI l3 b3 = b4 := ⟨_, rfl⟩
  have Hl4 : ∀ d ∈ l4, d < 256 := by rw [← hl4]; exact rdL_byte (top := topI) Hl3
  have Iv1 : IN64 (v1 : Nat) := by rw [← hv1]; exact in64_rdV _
  have HRQ := Lib.hid (show rq xs = (⟨3, (id : Nat), 0, 0, (v0 : Nat), (v1 : Nat)⟩, ⟨l4, b4⟩) by rw [rq_3 (by simp [Cur.i, HK.out])]; simp [Cur.i, Cur.ni, Cur.two, HK.out, hl1, hb1, hid, hl2, hb2, hv0, hl3, hb3, hv1, hl4, hb4])
  have HOK := Lib.hid (show Req.ok ⟨3, (id : Nat), 0, 0, (v0 : Nat), (v1 : Nat)⟩ from ⟨by unfold IN64; simp only; omega, Iid, in64_z, in64_z, Iv0, Iv1⟩)
  have E0 := HK
  have E1 := Lib.hid (And.intro hl1 hb1)
  have E2 := Lib.hid (And.intro hid (And.intro hl2 hb2))
  have E3 := Lib.hid (And.intro hv0 (And.intro hl3 hb3))
  have E4 := Lib.hid (And.intro hv1 (And.intro hl4 hb4))
  have Y1 := Lib.hid Hl1
  have Y2 := Lib.hid Hl2
  have Y3 := Lib.hid Hl3
  have Y4 := Lib.hid Hl4
  have HRC := Lib.hid (RC.new (c := c) (hx.alloc (Nat.le_refl _) (.cells #[.int .i64 0, .int .i64 0, .int .i64 0, .int .i64 0, .int .i64 0, .int .i64 0] 50)) (by simp) (by omega))
  clear hl1 hb1 hid hl2 hb2 hv0 hl3 hb3 hv1 hl4 hb4 Hl1 Hl2 Hl3 Hl4
  go_enter Try.func41, Try.ntmps41
  go_wp2_with fail
  refine (rcint_v (B := w.heap.size) (g := w.heap.size + 1) _ (by simpa using HRC.out) HX.out E0.out E1.out.1 E1.out.2).mono ?_
  rintro e w1 ⟨rfl, hr, hg⟩
  have K0 := (Blk.alloc (Blk.new w 50 #[.int .i64 0, .int .i64 0, .int .i64 0, .int .i64 0, .int .i64 0, .int .i64 0]) (.cells #[.slice A n c, .int .i64 0, .bool false] 43)).grown hg (by simp)
  have HB := below_cur2 (((Below.refl w.heap.size w).alloc (Nat.le_refl _) (.cells #[.int .i64 0, .int .i64 0, .int .i64 0, .int .i64 0, .int .i64 0, .int .i64 0] 50)).alloc (by simp) (.cells #[.slice A n c, .int .i64 0, .bool false] 43)) hg (by simp; omega) (by omega)
  have HR1 := Lib.hid hr
  clear hg hr HRC
  go_wp2_with fail
  refine (rcint_v (B := w.heap.size) (g := w.heap.size + 1) _ HR1.out Y1.out E2.out.1 E2.out.2.1 E2.out.2.2).mono ?_
  rintro e w2 ⟨rfl, hr, hg⟩
  have K0 := K0.grown hg (by simp)
  have HB := below_cur2 HB hg HB.size (by omega)
  have hgl := hr.lt
  have HR2 := Lib.hid (hr.alloc (.cells #[.int .i64 3, .int .i64 (id : Nat), .int .i64 0, .int .i64 0, .int .i64 0, .int .i64 0] 50))
  have HR2b := Lib.hid hr
  clear hg hr HR1
  have K2 := Blk.new w2 50 #[.int .i64 3, .int .i64 (id : Nat), .int .i64 0, .int .i64 0, .int .i64 0, .int .i64 0]
  have K0 := K0.alloc (.cells #[.int .i64 3, .int .i64 (id : Nat), .int .i64 0, .int .i64 0, .int .i64 0, .int .i64 0] 50)
  have HB := HB.alloc HB.size (.cells #[.int .i64 3, .int .i64 (id : Nat), .int .i64 0, .int .i64 0, .int .i64 0, .int .i64 0] 50)
  go_wp2_with fail
  refine (rcint_v (B := w.heap.size) (g := w.heap.size + 1) _ HR2.out Y2.out E3.out.1 E3.out.2.1 E3.out.2.2).mono ?_
  rintro e w3 ⟨rfl, hr, hg⟩
  have K0 := K0.grown hg (by simp)
  have K2 := K2.grown hg (by simp; omega)
  have HB := below_cur2 HB hg (by have := HB.size; simp at this ⊢; omega) (by omega)
  have c2 := K2.c
  have f2 := K2.f
  have z2 := K2.lt
  have K2 : Blk (w3.setCell ⟨w2.heap.size, 4, none⟩ (.int .i64 (v0 : Nat))) w2.heap.size 50 #[.int .i64 3, .int .i64 (id : Nat), .int .i64 0, .int .i64 0, .int .i64 (v0 : Nat), .int .i64 0] := by have := K2.set_ 4 (.int .i64 (v0 : Nat)); simpa using this
  have K0 := K0.far (p := ⟨w2.heap.size, 4, none⟩) (by show _ ≠ w2.heap.size; omega) (.int .i64 (v0 : Nat))
  have HB := HB.setCell (p := ⟨w2.heap.size, 4, none⟩) (by show _ ≤ w2.heap.size; omega) (.int .i64 (v0 : Nat))
  have HR3 := Lib.hid (hr.setCell (p := ⟨w2.heap.size, 4, none⟩) (by show _ ≠ w2.heap.size; omega) (by show _ ≤ w2.heap.size; omega) (.int .i64 (v0 : Nat)))
  have HK2 := Lib.hid K2
  have HK0 := Lib.hid K0
  clear K0 K2 hg hr HR2
  go_wp2_with fail
  clear c2 f2 z2
  have K0 := HK0.out
  have K2 := HK2.out
  go_wp2_with fail
  refine (rcint_v (B := w.heap.size) (g := w.heap.size + 1) _ HR3.out Y3.out E4.out.1 E4.out.2.1 E4.out.2.2).mono ?_
  rintro e w4 ⟨rfl, hr, hg⟩
  have K0 := K0.grown hg (by simp)
  have K2 := K2.grown hg (by simp; omega)
  have HB := below_cur2 HB hg HB.size (by omega)
  have c2 := K2.c
  have f2 := K2.f
  have z2 := K2.lt
  have K2 : Blk (w4.setCell ⟨w2.heap.size, 5, none⟩ (.int .i64 (v1 : Nat))) w2.heap.size 50 #[.int .i64 3, .int .i64 (id : Nat), .int .i64 0, .int .i64 0, .int .i64 (v0 : Nat), .int .i64 (v1 : Nat)] := by have := K2.set_ 5 (.int .i64 (v1 : Nat)); simpa using this
  have K0 := K0.far (p := ⟨w2.heap.size, 5, none⟩) (by show _ ≠ w2.heap.size; omega) (.int .i64 (v1 : Nat))
  have HB := HB.setCell (p := ⟨w2.heap.size, 5, none⟩) (by show _ ≤ w2.heap.size; omega) (.int .i64 (v1 : Nat))
  have HR4 := Lib.hid (hr.setCell (p := ⟨w2.heap.size, 5, none⟩) (by show _ ≠ w2.heap.size; omega) (by show _ ≤ w2.heap.size; omega) (.int .i64 (v1 : Nat)))
  have HK2 := Lib.hid K2
  have HK0 := Lib.hid K0
  clear K0 K2 hg hr HR3
  go_wp2_with fail
  cases hm : Req.may ⟨3, (id : Nat), 0, 0, (v0 : Nat), (v1 : Nat)⟩
  · have HM := Lib.hid hm
    clear hm
    refine (rreq_no ⟨3, (id : Nat), 0, 0, (v0 : Nat), (v1 : Nat)⟩ HM.out _).mono ?_
    rintro e w7 ⟨rfl, hb⟩
    have HRX := Lib.hid (HR4.out.on hb)
    have K0 := HK0.out.on hb
    have K2 := HK2.out.on hb
    have HB := HB.trans (hb.mono (by have := HB.size; first | exact this | (simp at this ⊢; omega)))
    have c0 := K0.c
    have f0 := K0.f
    have z0 := K0.lt
    have c2 := K2.c
    have f2 := K2.f
    have z2 := K2.lt
    clear K0 K2 hb HK0 HK2
    go_wp2_with fail
    refine (rcend_any _ HRX.out).mono ?_
    cases he : (!b4 && l4.isEmpty)
    · rintro e w8 ⟨rfl, qq, rfl⟩
      have HE := Lib.hid he
      clear he
      have HB := below_drewN HB qq
      go_wp2_with fail
      exact bodyPost_ret (v := .tuple #[.agg #[.int .i64 0, .int .i64 0, .int .i64 0, .int .i64 0, .int .i64 0, .int .i64 0], .int .i64 4]) (by simp [results, Try.results41, go_sem, c0, f0, z0]) rfl ⟨by rw [readReq_end (by have := HN.out; omega) (by rw [HRQ.out]; exact HE.out)]; rfl, (((((HB.setCell (Nat.le_refl _) _).setCell (Nat.le_refl _) _).setCell (Nat.le_refl _) _).setCell (Nat.le_refl _) _).setCell (Nat.le_refl _) _).setCell (Nat.le_refl _) _⟩
    · rintro e w8 ⟨rfl, qq, rfl⟩
      have HE := Lib.hid he
      clear he
      have HB := below_drewN HB qq
      go_wp2_with fail
      exact bodyPost_ret (v := .tuple #[.agg #[.int .i64 0, .int .i64 0, .int .i64 0, .int .i64 0, .int .i64 0, .int .i64 0], .int .i64 4]) (by simp [results, Try.results41, go_sem, c0, f0, z0]) rfl ⟨by rw [readReq_may (by have := HN.out; omega) (by rw [HRQ.out]; exact HM.out)]; rfl, (((((HB.setCell (Nat.le_refl _) _).setCell (Nat.le_refl _) _).setCell (Nat.le_refl _) _).setCell (Nat.le_refl _) _).setCell (Nat.le_refl _) _).setCell (Nat.le_refl _) _⟩
  · have HM := Lib.hid hm
    clear hm
    refine (rreq_yes ⟨3, (id : Nat), 0, 0, (v0 : Nat), (v1 : Nat)⟩ HOK.out HM.out _).mono ?_
    rintro e w7 ⟨bv, rfl, _, hb⟩
    have HRX := Lib.hid (HR4.out.on hb)
    have K0 := HK0.out.on hb
    have K2 := HK2.out.on hb
    have HB := HB.trans (hb.mono (by have := HB.size; first | exact this | (simp at this ⊢; omega)))
    have c0 := K0.c
    have f0 := K0.f
    have z0 := K0.lt
    have c2 := K2.c
    have f2 := K2.f
    have z2 := K2.lt
    clear K0 K2 hb HK0 HK2
    go_wp2_with fail
    refine (rcend_any _ HRX.out).mono ?_
    cases he : (!b4 && l4.isEmpty)
    · rintro e w8 ⟨rfl, qq, rfl⟩
      have HE := Lib.hid he
      clear he
      have HB := below_drewN HB qq
      go_wp2_with fail
      exact bodyPost_ret (v := .tuple #[.agg #[.int .i64 0, .int .i64 0, .int .i64 0, .int .i64 0, .int .i64 0, .int .i64 0], .int .i64 4]) (by simp [results, Try.results41, go_sem, c0, f0, z0]) rfl ⟨by rw [readReq_end (by have := HN.out; omega) (by rw [HRQ.out]; exact HE.out)]; rfl, (((((HB.setCell (Nat.le_refl _) _).setCell (Nat.le_refl _) _).setCell (Nat.le_refl _) _).setCell (Nat.le_refl _) _).setCell (Nat.le_refl _) _).setCell (Nat.le_refl _) _⟩
    · rintro e w8 ⟨rfl, qq, rfl⟩
      have HE := Lib.hid he
      clear he
      have HB := below_drewN HB qq
      go_wp2_with fail
      exact bodyPost_ret (v := .tuple #[.agg #[.int .i64 3, .int .i64 (id : Nat), .int .i64 0, .int .i64 0, .int .i64 (v0 : Nat), .int .i64 (v1 : Nat)], .int .i64 0]) (by simp [results, Try.results41, go_sem, c0, f0, z0]) rfl ⟨by rw [readReq_yes (by have := HN.out; omega) (by rw [HRQ.out]; exact HE.out) (by rw [HRQ.out]; exact HM.out), HRQ.out]; rfl, (((((HB.setCell (Nat.le_refl _) _).setCell (Nat.le_refl _) _).setCell (Nat.le_refl _) _).setCell (Nat.le_refl _) _).setCell (Nat.le_refl _) _).setCell (Nat.le_refl _) _⟩

set_option maxRecDepth 100000 in
set_option maxHeartbeats 4000000 in
theorem rreadreq_4 {A : Option Addr} {n c : Nat} {xs : List Nat} (w : World) (hx : Reads w w.heap.size 1 A n (u8s xs)) (hxs : ∀ x ∈ xs, x < 256) (h : ¬ 64 < n) (hk : rdV topI xs = 4) :
    Calls Try.prog 41 #[.slice A n c] w fun e w' => e = .returned (.tuple #[(readReq xs).1.V, .int .i64 (readReq xs).2]) ∧ Below w.heap.size w w' := by
  have HX := Lib.hid hxs
  have hl : xs.length = n := by simpa using hx.1
  have HN := Lib.hid hl
  have HK := Lib.hid hk
  clear hl hxs hk
  skip
  obtain ⟨l1, hl1⟩ : ∃ l1, rdL topI xs = l1 := ⟨_, rfl⟩
  obtain ⟨b1, hb1⟩ : ∃ b1, rdB topI xs false = b1 := ⟨_, rfl⟩
  obtain ⟨id, hid⟩ : ∃ id, rdV topI l1 = id := ⟨_, rfl⟩
  obtain ⟨l2, hl2⟩ : ∃ l2, rdL topI l1 = l2 := ⟨_, rfl⟩
  obtain ⟨b2, hb2⟩ : ∃ b2, rdB topI l1 b1 = b2 := ⟨_, rfl⟩
  have Hl1 : ∀ d ∈ l1, d < 256 := by rw [← hl1]; exact rdL_byte (top := topI) HX.out
  have Hl2 : ∀ d ∈ l2, d < 256 := by rw [← hl2]; exact rdL_byte (top := topI) Hl1
  have Iid : IN64 (id : Nat) := by rw [← hid]; exact in64_rdV _
  obtain ⟨v0, hv0⟩ : ∃ v0, rdV topI l2 = v0 := ⟨_, rfl⟩
  obtain ⟨l3, hl3⟩ : ∃ l3, rdL topI l2 = l3 := ⟨_, rfl⟩
  obtain ⟨b3, hb3⟩ : ∃ b3, rdB topI l2 b2 = b3 := ⟨_, rfl⟩
  have Hl3 : ∀ d ∈ l3, d < 256 := by rw [← hl3]; exact rdL_byte (top := topI) Hl2
  have Iv0 : IN64 (v0 : Nat) := by rw [← hv0]; exact in64_rdV _
  have HRQ := Lib.hid (show rq xs = (⟨4, (id : Nat), 0, 0, 0, (v0 : Nat)⟩, ⟨l3, b3⟩) by rw [rq_4 (by simp [Cur.i, HK.out])]; simp [Cur.i, Cur.ni, Cur.two, HK.out, hl1, hb1, hid, hl2, hb2, hv0, hl3, hb3])
  have HOK := Lib.hid (show Req.ok ⟨4, (id : Nat), 0, 0, 0, (v0 : Nat)⟩ from ⟨by unfold IN64; simp only; omega, Iid, in64_z, in64_z, in64_z, Iv0⟩)
  have E0 := HK
  have E1 := Lib.hid (And.intro hl1 hb1)
  have E2 := Lib.hid (And.intro hid (And.intro hl2 hb2))
  have E3 := Lib.hid (And.intro hv0 (And.intro hl3 hb3))
  have Y1 := Lib.hid Hl1
  have Y2 := Lib.hid Hl2
  have Y3 := Lib.hid Hl3
  have HRC := Lib.hid (RC.new (c := c) (hx.alloc (Nat.le_refl _) (.cells #[.int .i64 0, .int .i64 0, .int .i64 0, .int .i64 0, .int .i64 0, .int .i64 0] 50)) (by simp) (by omega))
  clear hl1 hb1 hid hl2 hb2 hv0 hl3 hb3 Hl1 Hl2 Hl3
  go_enter Try.func41, Try.ntmps41
  go_wp2_with fail
  refine (rcint_v (B := w.heap.size) (g := w.heap.size + 1) _ (by simpa using HRC.out) HX.out E0.out E1.out.1 E1.out.2).mono ?_
  rintro e w1 ⟨rfl, hr, hg⟩
  have K0 := (Blk.alloc (Blk.new w 50 #[.int .i64 0, .int .i64 0, .int .i64 0, .int .i64 0, .int .i64 0, .int .i64 0]) (.cells #[.slice A n c, .int .i64 0, .bool false] 43)).grown hg (by simp)
  have HB := below_cur2 (((Below.refl w.heap.size w).alloc (Nat.le_refl _) (.cells #[.int .i64 0, .int .i64 0, .int .i64 0, .int .i64 0, .int .i64 0, .int .i64 0] 50)).alloc (by simp) (.cells #[.slice A n c, .int .i64 0, .bool false] 43)) hg (by simp; omega) (by omega)
  have HR1 := Lib.hid hr
  clear hg hr HRC
  go_wp2_with fail
  refine (rcint_v (B := w.heap.size) (g := w.heap.size + 1) _ HR1.out Y1.out E2.out.1 E2.out.2.1 E2.out.2.2).mono ?_
  rintro e w2 ⟨rfl, hr, hg⟩
  have K0 := K0.grown hg (by simp)
  have HB := below_cur2 HB hg HB.size (by omega)
  have hgl := hr.lt
  have HR2 := Lib.hid (hr.alloc (.cells #[.int .i64 4, .int .i64 (id : Nat), .int .i64 0, .int .i64 0, .int .i64 0, .int .i64 0] 50))
  have HR2b := Lib.hid hr
  clear hg hr HR1
  have K2 := Blk.new w2 50 #[.int .i64 4, .int .i64 (id : Nat), .int .i64 0, .int .i64 0, .int .i64 0, .int .i64 0]
  have K0 := K0.alloc (.cells #[.int .i64 4, .int .i64 (id : Nat), .int .i64 0, .int .i64 0, .int .i64 0, .int .i64 0] 50)
  have HB := HB.alloc HB.size (.cells #[.int .i64 4, .int .i64 (id : Nat), .int .i64 0, .int .i64 0, .int .i64 0, .int .i64 0] 50)
  go_wp2_with fail
  refine (rcint_v (B := w.heap.size) (g := w.heap.size + 1) _ HR2.out Y2.out E3.out.1 E3.out.2.1 E3.out.2.2).mono ?_
  rintro e w3 ⟨rfl, hr, hg⟩
  have K0 := K0.grown hg (by simp)
  have K2 := K2.grown hg (by simp; omega)
  have HB := below_cur2 HB hg (by have := HB.size; simp at this ⊢; omega) (by omega)
  have c2 := K2.c
  have f2 := K2.f
  have z2 := K2.lt
  have K2 : Blk (w3.setCell ⟨w2.heap.size, 5, none⟩ (.int .i64 (v0 : Nat))) w2.heap.size 50 #[.int .i64 4, .int .i64 (id : Nat), .int .i64 0, .int .i64 0, .int .i64 0, .int .i64 (v0 : Nat)] := by have := K2.set_ 5 (.int .i64 (v0 : Nat)); simpa using this
  have K0 := K0.far (p := ⟨w2.heap.size, 5, none⟩) (by show _ ≠ w2.heap.size; omega) (.int .i64 (v0 : Nat))
  have HB := HB.setCell (p := ⟨w2.heap.size, 5, none⟩) (by show _ ≤ w2.heap.size; omega) (.int .i64 (v0 : Nat))
  have HR3 := Lib.hid (hr.setCell (p := ⟨w2.heap.size, 5, none⟩) (by show _ ≠ w2.heap.size; omega) (by show _ ≤ w2.heap.size; omega) (.int .i64 (v0 : Nat)))
  have HK2 := Lib.hid K2
  have HK0 := Lib.hid K0
  clear K0 K2 hg hr HR2
  go_wp2_with fail
  cases hm : Req.may ⟨4, (id : Nat), 0, 0, 0, (v0 : Nat)⟩
  · have HM := Lib.hid hm
    clear hm
    refine (rreq_no ⟨4, (id : Nat), 0, 0, 0, (v0 : Nat)⟩ HM.out _).mono ?_
    rintro e w7 ⟨rfl, hb⟩
    have HRX := Lib.hid (HR3.out.on hb)
    have K0 := HK0.out.on hb
    have K2 := HK2.out.on hb
    have HB := HB.trans (hb.mono (by have := HB.size; first | exact this | (simp at this ⊢; omega)))
    have c0 := K0.c
    have f0 := K0.f
    have z0 := K0.lt
    have c2 := K2.c
    have f2 := K2.f
    have z2 := K2.lt
    clear K0 K2 hb HK0 HK2
    go_wp2_with fail
    refine (rcend_any _ HRX.out).mono ?_
    cases he : (!b3 && l3.isEmpty)
    · rintro e w8 ⟨rfl, qq, rfl⟩
      have HE := Lib.hid he
      clear he
      have HB := below_drewN HB qq
      go_wp2_with fail
      exact bodyPost_ret (v := .tuple #[.agg #[.int .i64 0, .int .i64 0, .int .i64 0, .int .i64 0, .int .i64 0, .int .i64 0], .int .i64 4]) (by simp [results, Try.results41, go_sem, c0, f0, z0]) rfl ⟨by rw [readReq_end (by have := HN.out; omega) (by rw [HRQ.out]; exact HE.out)]; rfl, (((((HB.setCell (Nat.le_refl _) _).setCell (Nat.le_refl _) _).setCell (Nat.le_refl _) _).setCell (Nat.le_refl _) _).setCell (Nat.le_refl _) _).setCell (Nat.le_refl _) _⟩
    · rintro e w8 ⟨rfl, qq, rfl⟩
      have HE := Lib.hid he
      clear he
      have HB := below_drewN HB qq
      go_wp2_with fail
      exact bodyPost_ret (v := .tuple #[.agg #[.int .i64 0, .int .i64 0, .int .i64 0, .int .i64 0, .int .i64 0, .int .i64 0], .int .i64 4]) (by simp [results, Try.results41, go_sem, c0, f0, z0]) rfl ⟨by rw [readReq_may (by have := HN.out; omega) (by rw [HRQ.out]; exact HM.out)]; rfl, (((((HB.setCell (Nat.le_refl _) _).setCell (Nat.le_refl _) _).setCell (Nat.le_refl _) _).setCell (Nat.le_refl _) _).setCell (Nat.le_refl _) _).setCell (Nat.le_refl _) _⟩
  · have HM := Lib.hid hm
    clear hm
    refine (rreq_yes ⟨4, (id : Nat), 0, 0, 0, (v0 : Nat)⟩ HOK.out HM.out _).mono ?_
    rintro e w7 ⟨bv, rfl, _, hb⟩
    have HRX := Lib.hid (HR3.out.on hb)
    have K0 := HK0.out.on hb
    have K2 := HK2.out.on hb
    have HB := HB.trans (hb.mono (by have := HB.size; first | exact this | (simp at this ⊢; omega)))
    have c0 := K0.c
    have f0 := K0.f
    have z0 := K0.lt
    have c2 := K2.c
    have f2 := K2.f
    have z2 := K2.lt
    clear K0 K2 hb HK0 HK2
    go_wp2_with fail
    refine (rcend_any _ HRX.out).mono ?_
    cases he : (!b3 && l3.isEmpty)
    · rintro e w8 ⟨rfl, qq, rfl⟩
      have HE := Lib.hid he
      clear he
      have HB := below_drewN HB qq
      go_wp2_with fail
      exact bodyPost_ret (v := .tuple #[.agg #[.int .i64 0, .int .i64 0, .int .i64 0, .int .i64 0, .int .i64 0, .int .i64 0], .int .i64 4]) (by simp [results, Try.results41, go_sem, c0, f0, z0]) rfl ⟨by rw [readReq_end (by have := HN.out; omega) (by rw [HRQ.out]; exact HE.out)]; rfl, (((((HB.setCell (Nat.le_refl _) _).setCell (Nat.le_refl _) _).setCell (Nat.le_refl _) _).setCell (Nat.le_refl _) _).setCell (Nat.le_refl _) _).setCell (Nat.le_refl _) _⟩
    · rintro e w8 ⟨rfl, qq, rfl⟩
      have HE := Lib.hid he
      clear he
      have HB := below_drewN HB qq
      go_wp2_with fail
      exact bodyPost_ret (v := .tuple #[.agg #[.int .i64 4, .int .i64 (id : Nat), .int .i64 0, .int .i64 0, .int .i64 0, .int .i64 (v0 : Nat)], .int .i64 0]) (by simp [results, Try.results41, go_sem, c0, f0, z0]) rfl ⟨by rw [readReq_yes (by have := HN.out; omega) (by rw [HRQ.out]; exact HE.out) (by rw [HRQ.out]; exact HM.out), HRQ.out]; rfl, (((((HB.setCell (Nat.le_refl _) _).setCell (Nat.le_refl _) _).setCell (Nat.le_refl _) _).setCell (Nat.le_refl _) _).setCell (Nat.le_refl _) _).setCell (Nat.le_refl _) _⟩

set_option maxRecDepth 100000 in
set_option maxHeartbeats 4000000 in
theorem rreadreq_none {A : Option Addr} {n c : Nat} {xs : List Nat} (w : World) (hx : Reads w w.heap.size 1 A n (u8s xs)) (hxs : ∀ x ∈ xs, x < 256) (h : ¬ 64 < n) (h1 : rdV topI xs ≠ 1) (h2 : rdV topI xs ≠ 2) (h3 : rdV topI xs ≠ 3) (h4 : rdV topI xs ≠ 4) :
    Calls Try.prog 41 #[.slice A n c] w fun e w' => e = .returned (.tuple #[(readReq xs).1.V, .int .i64 (readReq xs).2]) ∧ Below w.heap.size w w' := by
  have HX := Lib.hid hxs
  have hl : xs.length = n := by simpa using hx.1
  have HN := Lib.hid hl
  have HK := Lib.hid (And.intro h1 (And.intro h2 (And.intro h3 h4)))
  clear hl hxs h1 h2 h3 h4
  obtain ⟨kk, hkk⟩ : ∃ kk, rdV topI xs = kk := ⟨_, rfl⟩
  obtain ⟨l1, hl1⟩ : ∃ l1, rdL topI xs = l1 := ⟨_, rfl⟩
  obtain ⟨b1, hb1⟩ : ∃ b1, rdB topI xs false = b1 := ⟨_, rfl⟩
  obtain ⟨id, hid⟩ : ∃ id, rdV topI l1 = id := ⟨_, rfl⟩
  obtain ⟨l2, hl2⟩ : ∃ l2, rdL topI l1 = l2 := ⟨_, rfl⟩
  obtain ⟨b2, hb2⟩ : ∃ b2, rdB topI l1 b1 = b2 := ⟨_, rfl⟩
  have Hl1 : ∀ d ∈ l1, d < 256 := by rw [← hl1]; exact rdL_byte (top := topI) HX.out
  have Hl2 : ∀ d ∈ l2, d < 256 := by rw [← hl2]; exact rdL_byte (top := topI) Hl1
  have Iid : IN64 (id : Nat) := by rw [← hid]; exact in64_rdV _
  have HRQ := Lib.hid (show rq xs = (⟨(kk : Nat), (id : Nat), 0, 0, 0, 0⟩, ⟨l2, b2⟩) by rw [rq_5 (by unfold Cur.i; have := HK.out.1; simp only; omega) (by unfold Cur.i; have := HK.out.2.1; simp only; omega) (by unfold Cur.i; have := HK.out.2.2.1; simp only; omega) (by unfold Cur.i; have := HK.out.2.2.2; simp only; omega)]; simp [Cur.i, Cur.ni, Cur.two, hkk, hl1, hb1, hid, hl2, hb2])
  have Ikk : IN64 (kk : Nat) := by rw [← hkk]; exact in64_rdV _
  have HM0 := Lib.hid (show Req.may ⟨(kk : Nat), (id : Nat), 0, 0, 0, 0⟩ = false by refine may_5 ?_ ?_ ?_ ?_ <;> (have := HK.out; rw [hkk] at this; simp only; omega))
  have hne := HK.out
  rw [hkk] at hne
  have q1 : (((kk : Nat) : Int) == 1) = false := by simp; omega
  have q2 : (((kk : Nat) : Int) == 2) = false := by simp; omega
  have q3 : (((kk : Nat) : Int) == 3) = false := by simp; omega
  have q4 : (((kk : Nat) : Int) == 4) = false := by simp; omega
  clear hne
  have E0 := Lib.hid hkk
  have E1 := Lib.hid (And.intro hl1 hb1)
  have E2 := Lib.hid (And.intro hid (And.intro hl2 hb2))
  have Y1 := Lib.hid Hl1
  have Y2 := Lib.hid Hl2
  have HRC := Lib.hid (RC.new (c := c) (hx.alloc (Nat.le_refl _) (.cells #[.int .i64 0, .int .i64 0, .int .i64 0, .int .i64 0, .int .i64 0, .int .i64 0] 50)) (by simp) (by omega))
  clear hkk hl1 hb1 hid hl2 hb2 Hl1 Hl2
  go_enter Try.func41, Try.ntmps41
  go_wp2_with fail
  refine (rcint_v (B := w.heap.size) (g := w.heap.size + 1) _ (by simpa using HRC.out) HX.out E0.out E1.out.1 E1.out.2).mono ?_
  rintro e w1 ⟨rfl, hr, hg⟩
  have K0 := (Blk.alloc (Blk.new w 50 #[.int .i64 0, .int .i64 0, .int .i64 0, .int .i64 0, .int .i64 0, .int .i64 0]) (.cells #[.slice A n c, .int .i64 0, .bool false] 43)).grown hg (by simp)
  have HB := below_cur2 (((Below.refl w.heap.size w).alloc (Nat.le_refl _) (.cells #[.int .i64 0, .int .i64 0, .int .i64 0, .int .i64 0, .int .i64 0, .int .i64 0] 50)).alloc (by simp) (.cells #[.slice A n c, .int .i64 0, .bool false] 43)) hg (by simp; omega) (by omega)
  have HR1 := Lib.hid hr
  clear hg hr HRC
  go_wp2_with fail
  refine (rcint_v (B := w.heap.size) (g := w.heap.size + 1) _ HR1.out Y1.out E2.out.1 E2.out.2.1 E2.out.2.2).mono ?_
  rintro e w2 ⟨rfl, hr, hg⟩
  have K0 := K0.grown hg (by simp)
  have HB := below_cur2 HB hg HB.size (by omega)
  have hgl := hr.lt
  have HR2 := Lib.hid (hr.alloc (.cells #[.int .i64 (kk : Nat), .int .i64 (id : Nat), .int .i64 0, .int .i64 0, .int .i64 0, .int .i64 0] 50))
  have HR2b := Lib.hid hr
  clear hg hr HR1
  have K2 := Blk.new w2 50 #[.int .i64 (kk : Nat), .int .i64 (id : Nat), .int .i64 0, .int .i64 0, .int .i64 0, .int .i64 0]
  have K0 := K0.alloc (.cells #[.int .i64 (kk : Nat), .int .i64 (id : Nat), .int .i64 0, .int .i64 0, .int .i64 0, .int .i64 0] 50)
  have HB := HB.alloc HB.size (.cells #[.int .i64 (kk : Nat), .int .i64 (id : Nat), .int .i64 0, .int .i64 0, .int .i64 0, .int .i64 0] 50)
  have HK2 := Lib.hid K2
  have HK0 := Lib.hid K0
  clear K0 K2
  go_wp2_with fail
  refine (rreq_no ⟨(kk : Nat), (id : Nat), 0, 0, 0, 0⟩ HM0.out _).mono ?_
  rintro e w7 ⟨rfl, hb⟩
  have HRX := Lib.hid (HR2.out.on hb)
  have K0 := HK0.out.on hb
  have K2 := HK2.out.on hb
  have HB := HB.trans (hb.mono (by have := HB.size; first | exact this | (simp at this ⊢; omega)))
  have c0 := K0.c
  have f0 := K0.f
  have z0 := K0.lt
  have c2 := K2.c
  have f2 := K2.f
  have z2 := K2.lt
  clear K0 K2 hb HK0 HK2
  go_wp2_with fail
  refine (rcend_any _ HRX.out).mono ?_
  cases he : (!b2 && l2.isEmpty)
  · rintro e w8 ⟨rfl, qq, rfl⟩
    have HE := Lib.hid he
    clear he
    have HB := below_drewN HB qq
    go_wp2_with fail
    exact bodyPost_ret (v := .tuple #[.agg #[.int .i64 0, .int .i64 0, .int .i64 0, .int .i64 0, .int .i64 0, .int .i64 0], .int .i64 4]) (by simp [results, Try.results41, go_sem, c0, f0, z0]) rfl ⟨by rw [readReq_end (by have := HN.out; omega) (by rw [HRQ.out]; exact HE.out)]; rfl, (((((HB.setCell (Nat.le_refl _) _).setCell (Nat.le_refl _) _).setCell (Nat.le_refl _) _).setCell (Nat.le_refl _) _).setCell (Nat.le_refl _) _).setCell (Nat.le_refl _) _⟩
  · rintro e w8 ⟨rfl, qq, rfl⟩
    have HE := Lib.hid he
    clear he
    have HB := below_drewN HB qq
    go_wp2_with fail
    exact bodyPost_ret (v := .tuple #[.agg #[.int .i64 0, .int .i64 0, .int .i64 0, .int .i64 0, .int .i64 0, .int .i64 0], .int .i64 4]) (by simp [results, Try.results41, go_sem, c0, f0, z0]) rfl ⟨by rw [readReq_may (by have := HN.out; omega) (by rw [HRQ.out]; exact HM0.out)]; rfl, (((((HB.setCell (Nat.le_refl _) _).setCell (Nat.le_refl _) _).setCell (Nat.le_refl _) _).setCell (Nat.le_refl _) _).setCell (Nat.le_refl _) _).setCell (Nat.le_refl _) _⟩

theorem rreadreq_any {B : Nat} {A : Option Addr} {n c : Nat} {xs : List Nat} (w : World) (hx : Reads w B 1 A n (u8s xs)) (hB : B ≤ w.heap.size) (hxs : ∀ x ∈ xs, x < 256) (hn : n ≤ maxLen) :
    Calls Try.prog 41 #[.slice A n c] w fun e w' => e = .returned (.tuple #[(readReq xs).1.V, .int .i64 (readReq xs).2]) ∧ Below w.heap.size w w' := by
  have hx := hx.more hB
  have hl : xs.length = n := by simpa using hx.1
  by_cases h : 64 < n
  · exact rreadreq_long w hn hl h
  by_cases h1 : rdV topI xs = 1
  · exact rreadreq_1 w hx hxs h h1
  by_cases h2 : rdV topI xs = 2
  · exact rreadreq_2 w hx hxs h h2
  by_cases h3 : rdV topI xs = 3
  · exact rreadreq_3 w hx hxs h h3
  by_cases h4 : rdV topI xs = 4
  · exact rreadreq_4 w hx hxs h h4
  exact rreadreq_none w hx hxs h h1 h2 h3 h4
end Go.Proofs.Ytejijghghbicdaa
