/-
  The reference's Counts.Add, by contract.
-/
import Derived.Test.YtifoonjhcjmehaaRCnt2
namespace Go.Proofs.Ytifoonjhcjmehaa
open Go.RowKit
set_option linter.unusedSimpArgs false
set_option linter.unusedVariables false
theorem infoCE : (Try.prog.info? 52).map (fun i => (i.zero.map (fun z => z.cells.size), i.size, i.bytes)) = some (some 3, 3, 24) := by kernel_rfl
theorem ce_parts : ∃ i z, Try.prog.info? 52 = some i ∧ i.zero = some z ∧ z.cells.size = 3 ∧ i.size = 3 ∧ i.bytes = 24 := by
  have h := infoCE
  cases hi : Try.prog.info? 52 with
  | none => rw [hi] at h; cases h
  | some i =>
    rw [hi] at h
    simp only [Option.map_some, Option.some.injEq, Prod.mk.injEq] at h
    obtain ⟨h1, h2, h3⟩ := h
    cases hz : i.zero with
    | none => rw [hz] at h1; cases h1
    | some z =>
      rw [hz] at h1
      simp only [Option.map_some, Option.some.injEq] at h1
      exact ⟨i, z, rfl, hz, h1, h2, h3⟩
set_option maxRecDepth 100000 in
theorem run_ne_same (a b : Int) (w : World) : (binOp .neq 33 (.agg #[.int .i64 a, .int .i64 b]) (.agg #[.int .i64 a, .int .i64 b])).run Try.prog w = .ok (.bool false) w := by
  go_simp
set_option maxRecDepth 100000 in
theorem run_ne_else {a b c d : Int} (h : ¬ (a = c ∧ b = d)) (w : World) : (binOp .neq 33 (.agg #[.int .i64 a, .int .i64 b]) (.agg #[.int .i64 c, .int .i64 d])).run Try.prog w = .ok (.bool true) w := by
  by_cases h1 : a = c
  · subst h1
    have h2 : ¬ b = d := fun e => h ⟨rfl, e⟩
    clear h
    go_simp
  · clear h; go_simp
theorem reads_three {w : World} {g : Nat} {T : TypeId} {a b c : Int} (h : Blk w g T #[.int .i64 a, .int .i64 b, .int .i64 c]) : Reads w (g + 1) 3 (some ⟨g, 0, none⟩) 1 [.int .i64 a, .int .i64 b, .int .i64 c] :=
  ⟨rfl, fun _ => ⟨_, rfl, Nat.lt_succ_self g, fun j u hu => by rw [Addr.add_lit, h.c]; simpa using hu⟩⟩
theorem three_one (a b c : Int) : ∀ u ∈ ([.int .i64 a, .int .i64 b, .int .i64 c] : List Value), u.oneCell' = true := by
  intro u hu; simp at hu; rcases hu with rfl | rfl | rfl <;> rfl
theorem own_ce {w : World} {B M : Nat} {v : Value} {O : Cnt} {t : Tm} {z : Int} (h : w.ownsRow B 52 3 v (M + 1) (acCells (acOf O) ++ [.int .i64 t.e, .int .i64 t.l, .int .i64 z])) : w.ownsRow B 52 3 v (M + 1) (acCells (acOf (O ++ [(t, z)]))) := by
  rw [acOf_append, acCells_append]; simpa [acOf, acCells] using h
/-- The loop's state behind the first k. -/
def stAt (t : Tm) (v : Int) (L : Cnt) (k : Nat) : Cnt × Bool := (L.take k).foldl (stepR t v) ([], decide (v = 0))
theorem stAt_succ (t : Tm) (v : Int) {L : Cnt} {k : Nat} (h : k < L.length) : stAt t v L (k + 1) = stepR t v (stAt t v L k) ((acAt (acOf L) k).t, (acAt (acOf L) k).n) := by
  unfold stAt; rw [take_snoc h, List.foldl_append]; rfl
theorem stAt_all (t : Tm) (v : Int) (L : Cnt) {n : Nat} (h : L.length ≤ n) : (if (stAt t v L n).2 then (stAt t v L n).1 else (stAt t v L n).1 ++ [(t, v)]) = setL t v L := by
  unfold stAt
  rw [List.take_of_length_le h]
  have := stepR_all t v L [] (decide (v = 0))
  simp only [List.nil_append] at this
  exact this

set_option maxRecDepth 100000 in
set_option maxHeartbeats 2000000 in
theorem radd_no {B g : Nat} {L : Cnt} {t : Tm} {n : Int} (w : World) (h : RC w B g L) (hbnd : Bnd L) (hlen : L.length ≤ 1000) (hno : addOk L t n = false) :
    Calls Try.prog 13 #[.pointer (some ⟨g, 0, none⟩), tmv t, .int .i64 n] w fun e w' => e = .returned (.bool false) ∧ RC w' B g L ∧ Below w.heap.size w w' := by
  have KX := Blk.new w 33 #[.int .i64 t.e, .int .i64 t.l]
  have hRC := h.on ((Below.refl w.heap.size w).alloc (Nat.le_refl _) (.cells #[.int .i64 t.e, .int .i64 t.l] 33))
  have HRC := Lib.hid hRC
  have HB := Lib.hid ((Below.refl w.heap.size w).alloc (Nat.le_refl _) (.cells #[.int .i64 t.e, .int .i64 t.l] 33))
  have HLEN := Lib.hid hlen
  obtain ⟨r, hrr⟩ : ∃ r, ofL L t = r := ⟨_, rfl⟩
  have HR := Lib.hid hrr
  have c0 := KX.c
  clear h hRC hrr
  cases hmay : t.may
  · have HMAY := Lib.hid hmay
    clear hmay hno
    go_enter Try.func13, Try.ntmps13
    go_wp2_with fail
    refine (rof_any _ HRC.out HR.out (by have := HLEN.out; omega)).mono ?_
    rintro e wo ⟨rfl, hb⟩
    have HBo := Lib.hid (below_after HB.out hb HB.out.size)
    have HRo := Lib.hid (HRC.out.on hb)
    have KXo := KX.on hb
    have co := KXo.c
    clear hb c0
    go_wp2_with fail
    refine (rmay_b _ HMAY.out).mono ?_
    rintro e w1 ⟨rfl, hb⟩
    have HB1 := Lib.hid (below_after HBo.out hb HBo.out.size)
    have HR1 := Lib.hid (HRo.out.on hb)
    have KX1 := KXo.on hb
    have c1 := KX1.c
    clear hb co
    go_wp2_with fail
    go_ret
    exact ⟨rfl, HR1.out, HB1.out⟩
  · have HMAY := Lib.hid hmay
    by_cases h1 : n < -2199023255552
    · clear hmay hno
      go_enter Try.func13, Try.ntmps13
      go_wp2_with fail
      refine (rof_any _ HRC.out HR.out (by have := HLEN.out; omega)).mono ?_
      rintro e wo ⟨rfl, hb⟩
      have HBo := Lib.hid (below_after HB.out hb HB.out.size)
      have HRo := Lib.hid (HRC.out.on hb)
      have KXo := KX.on hb
      have co := KXo.c
      clear hb c0
      go_wp2_with fail
      refine (rmay_b _ HMAY.out).mono ?_
      rintro e w1 ⟨rfl, hb⟩
      have HB1 := Lib.hid (below_after HBo.out hb HBo.out.size)
      have HR1 := Lib.hid (HRo.out.on hb)
      have KX1 := KXo.on hb
      have c1 := KX1.c
      clear hb co
      go_wp2_with fail
      go_ret
      exact ⟨rfl, HR1.out, HB1.out⟩
    · by_cases h2 : 2199023255552 < n
      · clear hmay hno
        go_enter Try.func13, Try.ntmps13
        go_wp2_with fail
        refine (rof_any _ HRC.out HR.out (by have := HLEN.out; omega)).mono ?_
        rintro e wo ⟨rfl, hb⟩
        have HBo := Lib.hid (below_after HB.out hb HB.out.size)
        have HRo := Lib.hid (HRC.out.on hb)
        have KXo := KX.on hb
        have co := KXo.c
        clear hb c0
        go_wp2_with fail
        refine (rmay_b _ HMAY.out).mono ?_
        rintro e w1 ⟨rfl, hb⟩
        have HB1 := Lib.hid (below_after HBo.out hb HBo.out.size)
        have HR1 := Lib.hid (HRo.out.on hb)
        have KX1 := KXo.on hb
        have c1 := KX1.c
        clear hb co
        go_wp2_with fail
        go_ret
        exact ⟨rfl, HR1.out, HB1.out⟩
      · have hr := hbnd t
        have hrr := HR.out
        rw [hrr] at hr
        have hsum : r + n < -1099511627776 ∨ ¬ (r + n < -1099511627776) ∧ 1099511627776 < r + n := by
          unfold addOk at hno
          rw [hmay, hrr] at hno
          simp at hno
          omega
        obtain ⟨hr1, hr2⟩ := hr
        clear hmay hno hrr
        rcases hsum with hs | ⟨hs, hs2⟩
        · skip
          go_enter Try.func13, Try.ntmps13
          go_wp2_with fail
          refine (rof_any _ HRC.out HR.out (by have := HLEN.out; omega)).mono ?_
          rintro e wo ⟨rfl, hb⟩
          have HBo := Lib.hid (below_after HB.out hb HB.out.size)
          have HRo := Lib.hid (HRC.out.on hb)
          have KXo := KX.on hb
          have co := KXo.c
          clear hb c0
          go_wp2_with fail
          refine (rmay_b _ HMAY.out).mono ?_
          rintro e w1 ⟨rfl, hb⟩
          have HB1 := Lib.hid (below_after HBo.out hb HBo.out.size)
          have HR1 := Lib.hid (HRo.out.on hb)
          have KX1 := KXo.on hb
          have c1 := KX1.c
          clear hb co
          go_wp2_with fail
          go_ret
          exact ⟨rfl, HR1.out, HB1.out⟩
        · skip
          go_enter Try.func13, Try.ntmps13
          go_wp2_with fail
          refine (rof_any _ HRC.out HR.out (by have := HLEN.out; omega)).mono ?_
          rintro e wo ⟨rfl, hb⟩
          have HBo := Lib.hid (below_after HB.out hb HB.out.size)
          have HRo := Lib.hid (HRC.out.on hb)
          have KXo := KX.on hb
          have co := KXo.c
          clear hb c0
          go_wp2_with fail
          refine (rmay_b _ HMAY.out).mono ?_
          rintro e w1 ⟨rfl, hb⟩
          have HB1 := Lib.hid (below_after HBo.out hb HBo.out.size)
          have HR1 := Lib.hid (HRo.out.on hb)
          have KX1 := KXo.on hb
          have c1 := KX1.c
          clear hb co
          go_wp2_with fail
          go_ret
          exact ⟨rfl, HR1.out, HB1.out⟩
theorem run_ne {x y : Tm} {r : Bool} (h : r = true ↔ x ≠ y) (w : World) : (binOp .neq 33 (.agg #[.int .i64 x.e, .int .i64 x.l]) (.agg #[.int .i64 y.e, .int .i64 y.l])).run Try.prog w = .ok (.bool r) w := by
  cases r
  · have : x = y := by
      by_cases e : x = y
      · exact e
      · exact absurd (h.2 e) (by simp)
    subst this
    exact run_ne_same ..
  · exact run_ne_else (fun e => h.1 rfl (Tm.ext_ e.1 e.2)) w

set_option maxRecDepth 100000 in
set_option maxHeartbeats 8000000 in
theorem radd_yes {B g : Nat} {L : Cnt} {t : Tm} {n : Int} (w : World) (h : RC w B g L) (hbnd : Bnd L) (hlen : L.length ≤ 1000) (hyes : addOk L t n = true) :
    Calls Try.prog 13 #[.pointer (some ⟨g, 0, none⟩), tmv t, .int .i64 n] w fun e w' => e = .returned (.bool true) ∧ RC w' B g (addL L t n) ∧ Touch [g] w w' := by
  obtain ⟨i0, z0, hi0, hz0, hz3, hz1, hz2⟩ := ce_parts
  have KX := Blk.new w 33 #[.int .i64 t.e, .int .i64 t.l]
  have hRC := h.on ((Below.refl w.heap.size w).alloc (Nat.le_refl _) (.cells #[.int .i64 t.e, .int .i64 t.l] 33))
  have HRC := Lib.hid hRC
  have HB := Lib.hid ((Below.refl w.heap.size w).alloc (Nat.le_refl _) (.cells #[.int .i64 t.e, .int .i64 t.l] 33))
  have HLEN := Lib.hid hlen
  obtain ⟨r, hrr⟩ : ∃ r, ofL L t = r := ⟨_, rfl⟩
  have HR := Lib.hid hrr
  have c0 := KX.c
  have hr := hbnd t
  rw [hrr] at hr
  obtain ⟨hr1, hr2⟩ := hr
  have hfacts : t.may = true ∧ ¬ n < -2199023255552 ∧ ¬ 2199023255552 < n ∧ ¬ (r + n < -1099511627776) ∧ ¬ (1099511627776 < r + n) := by
    unfold addOk at hyes
    rw [hrr] at hyes
    simp at hyes
    refine ⟨hyes.1.1.1.1, ?_⟩
    omega
  obtain ⟨hmay, hn1, hn2, hs1, hs2⟩ := hfacts
  have HMAY := Lib.hid hmay
  have HADD := Lib.hid (show addL L t n = setL t (r + n) L by unfold addL; rw [if_pos hyes, hrr])
  have HLO := Lib.hid h.lo
  have HCAN := Lib.hid (addL_canon h.canon t n)
  obtain ⟨⟨A, m, c, K, hm, ho⟩, _, _⟩ := h
  have HK := Lib.hid K
  have hgw := K.lt
  have HM := Lib.hid hm
  have HA := Lib.hid (cnt_own ho)
  have hmb : m ≤ 1000 := by omega
  clear K ho hm hRC hmay hyes hrr hbnd hlen
  go_enter Try.func13, Try.ntmps13
  go_wp2_with fail
  refine (rof_any _ HRC.out HR.out (by have := HLEN.out; omega)).mono ?_
  rintro e wo ⟨rfl, hb⟩
  have HBo := Lib.hid (below_after HB.out hb HB.out.size)
  have HRo := Lib.hid (HRC.out.on hb)
  have KXo := KX.on hb
  have co := KXo.c
  clear hb c0
  go_wp2_with fail
  refine (rmay_b _ HMAY.out).mono ?_
  rintro e w1 ⟨rfl, hb⟩
  have HB1 := Lib.hid (below_after HBo.out hb HBo.out.size)
  have HR1 := Lib.hid (HRo.out.on hb)
  have KX1 := KXo.on hb
  have c1 := KX1.c
  clear hb co
  have hz1w := HB1.out.size
  have hxl := KX1.lt
  have K1 := HK.out.on HB1.out
  have HKG := Lib.hid K1
  have HKX := Lib.hid KX1
  have cg := K1.c
  have fg := K1.f
  obtain ⟨b1, hb1⟩ : ∃ b, b = w.heap.size + 1 := ⟨_, rfl⟩
  have hb1w : b1 ≤ w1.heap.size := by omega
  clear K1 KX1 KX KXo
  go_wp2_with fail
  go_loopw [8, 9, 10] (fun vo vd vi wr => ∃ (i M : Nat) (A3 : Option Addr) (c3 : Nat) (O : Cnt) (d : Bool), i ≤ m ∧ M ≤ 2 * i ∧ vi = .int .i64 i ∧ vd = .bool d ∧ vo = .slice A3 M c3 ∧ Hid ((O, d) = stAt t (r + n) L i) ∧ Hid (wr.ownsRow b1 52 3 (.slice A3 M c3) M (acCells (acOf O))) ∧ Hid (Below b1 w1 wr)) (fun _ _ vi _ => m - (intOf vi).toNat)
  case atStart => exact ⟨0, 0, none, 0, [], decide (r + n = 0), Nat.zero_le _, Nat.le_refl _, rfl, by first | rfl | (congr 1; simp), rfl, Lib.hid rfl, Lib.hid (World.ownsRow_nil _ _ _ _), Lib.hid (Below.refl _ _)⟩
  case round =>
    clear c1 cg fg
    obtain ⟨i, M, A3, c3, O, d, hi, hMi, rfl, rfl, rfl, HST, HO, HB⟩ := hrel
    have hzr := HB.out.size
    by_cases hlt : i < m
    · obtain ⟨ad, rfl, hab, hmem, hd0, hd1, hd2⟩ := Acs.ac (HA.out.below HB1.out) hlt
      have hpb : (ad.add (i * 3)).block < b1 := by rw [block_of_add]; omega
      have hsucc := stAt_succ t (r + n) (L := L) (k := i) (by have := HM.out; omega)
      rw [← HST.out] at hsucc
      obtain ⟨x, hx⟩ : ∃ x, acAt (acOf L) i = x := ⟨_, rfl⟩
      rw [hx] at hmem hd0 hd1 hd2 hsucc
      have HSUCC := Lib.hid hsucc
      have HALL : Hid (∀ W, Below b1 w1 W → (Below b1 w1 W ∧ (∀ i, W.cell? ⟨w.heap.size, i, none⟩ = (#[.int .i64 t.e, .int .i64 t.l] : Array Value)[i]?) ∧ (∀ i, W.cell? ⟨g, i, none⟩ = (#[.slice (some ad) m c] : Array Value)[i]?) ∧ W.cell? (ad.add (i * 3)) = some (.int .i64 x.t.e) ∧ W.cell? ⟨(ad.add (i * 3)).block, (ad.add (i * 3)).off + 1, none⟩ = some (.int .i64 x.t.l) ∧ W.cell? ⟨(ad.add (i * 3)).block, (ad.add (i * 3)).off + 2, none⟩ = some (.int .i64 x.n))) := Lib.hid (fun W hb => ⟨hb, (HKX.out.below hb (by omega)).c, (HKG.out.below hb (by omega)).c, (hb.cell hpb).trans hd0, (hb.cell (p := ⟨(ad.add (i * 3)).block, (ad.add (i * 3)).off + 1, none⟩) hpb).trans hd1, (hb.cell (p := ⟨(ad.add (i * 3)).block, (ad.add (i * 3)).off + 2, none⟩) hpb).trans hd2⟩)
      clear hx hmem hsucc hd0 hd1 hd2
      obtain ⟨HBB, ct, cg, hc0, hc1, hc2⟩ := HALL.out _ HB.out
      clear HBB
      cases d
      · cases hah : t.ahead x.t
        · have HAH := Lib.hid hah
          clear hah
          go_wp2_with fail
          refine wp_region_held_drew (S := (fun W => (Below b1 w1 W ∧ (∀ i, W.cell? ⟨w.heap.size, i, none⟩ = (#[.int .i64 t.e, .int .i64 t.l] : Array Value)[i]?) ∧ (∀ i, W.cell? ⟨g, i, none⟩ = (#[.slice (some ad) m c] : Array Value)[i]?) ∧ W.cell? (ad.add (i * 3)) = some (.int .i64 x.t.e) ∧ W.cell? ⟨(ad.add (i * 3)).block, (ad.add (i * 3)).off + 1, none⟩ = some (.int .i64 x.t.l) ∧ W.cell? ⟨(ad.add (i * 3)).block, (ad.add (i * 3)).off + 2, none⟩ = some (.int .i64 x.n)))) (by kernel_rfl) (HALL.out _ HB.out.drew) (fun hHeld => ?_)
          refine wpAnyH_take (i := 0) (v := ?_) rfl (by kernel_rfl) (by kernel_rfl) (by kernel_rfl) (fun _ _ _ h => h) (Or.inl ⟨by rfl, ?_⟩) hHeld ?_
          rotate_left
          · intro W hS
            try dsimp only at hS
            go_simp
            try with_reducible rfl
          try simp only [List.getElem_toArray, List.getElem_cons_succ, List.getElem_cons_zero, Act.put, List.setIfInBounds_toArray, List.set_cons_zero, List.set_cons_succ]
          refine wpAnyH_take (i := 1) (v := ?_) rfl (by kernel_rfl) (by kernel_rfl) (by kernel_rfl) (fun _ _ _ h => h) (Or.inl ⟨by rfl, ?_⟩) hHeld ?_
          rotate_left
          · intro W hS
            try dsimp only at hS
            go_simp
            try with_reducible rfl
          try simp only [List.getElem_toArray, List.getElem_cons_succ, List.getElem_cons_zero, Act.put, List.setIfInBounds_toArray, List.set_cons_zero, List.set_cons_succ]
          refine wpAnyH_take (i := 2) (v := ?_) rfl (by kernel_rfl) (by kernel_rfl) (by kernel_rfl) (fun _ _ _ h => h) (Or.inl ⟨by rfl, ?_⟩) hHeld ?_
          rotate_left
          · intro W hS
            try dsimp only at hS
            go_simp
            try with_reducible rfl
          try simp only [List.getElem_toArray, List.getElem_cons_succ, List.getElem_cons_zero, Act.put, List.setIfInBounds_toArray, List.set_cons_zero, List.set_cons_succ]
          refine wpAnyH_take (i := 3) (v := ?_) rfl (by kernel_rfl) (by kernel_rfl) (by kernel_rfl) (fun _ _ _ h => h) (Or.inl ⟨by rfl, ?_⟩) hHeld ?_
          rotate_left
          · intro W hS
            try dsimp only at hS
            go_simp
            try with_reducible rfl
          try simp only [List.getElem_toArray, List.getElem_cons_succ, List.getElem_cons_zero, Act.put, List.setIfInBounds_toArray, List.set_cons_zero, List.set_cons_succ]
          refine wpAnyH_take (i := 4) (v := ?_) rfl (by kernel_rfl) (by kernel_rfl) (by kernel_rfl) (fun _ _ _ h => h) (Or.inl ⟨by rfl, ?_⟩) hHeld ?_
          rotate_left
          · intro W hS
            try dsimp only at hS
            go_simp
            try with_reducible rfl
          try simp only [List.getElem_toArray, List.getElem_cons_succ, List.getElem_cons_zero, Act.put, List.setIfInBounds_toArray, List.set_cons_zero, List.set_cons_succ]
          refine wpAnyH_take (i := 5) (v := ?_) rfl (by kernel_rfl) (by kernel_rfl) (by kernel_rfl) (fun _ _ _ h => h) (Or.inl ⟨by rfl, ?_⟩) hHeld ?_
          rotate_left
          · intro W hS
            try dsimp only at hS
            go_simp
            try with_reducible rfl
          try simp only [List.getElem_toArray, List.getElem_cons_succ, List.getElem_cons_zero, Act.put, List.setIfInBounds_toArray, List.set_cons_zero, List.set_cons_succ]
          refine wpAnyH_take (i := 6) (v := ?_) rfl (by kernel_rfl) (by kernel_rfl) (by kernel_rfl) (fun _ _ _ h => h) (Or.inl ⟨by rfl, ?_⟩) hHeld ?_
          rotate_left
          · intro W hS
            try dsimp only at hS
            go_simp
            try with_reducible rfl
          try simp only [List.getElem_toArray, List.getElem_cons_succ, List.getElem_cons_zero, Act.put, List.setIfInBounds_toArray, List.set_cons_zero, List.set_cons_succ]
          refine wpAnyH_take (i := 7) (v := ?_) rfl (by kernel_rfl) (by kernel_rfl) (by kernel_rfl) (fun _ _ _ h => h) (Or.inl ⟨by rfl, ?_⟩) hHeld ?_
          rotate_left
          · intro W hS
            try dsimp only at hS
            go_simp
            try with_reducible rfl
          try simp only [List.getElem_toArray, List.getElem_cons_succ, List.getElem_cons_zero, Act.put, List.setIfInBounds_toArray, List.set_cons_zero, List.set_cons_succ]
          refine wpAnyH_take (i := 8) (v := ?_) rfl (by kernel_rfl) (by kernel_rfl) (by kernel_rfl) (fun _ _ _ h => h) (Or.inl ⟨by rfl, ?_⟩) hHeld ?_
          rotate_left
          · intro W hS
            try dsimp only at hS
            go_simp
            try with_reducible rfl
          try simp only [List.getElem_toArray, List.getElem_cons_succ, List.getElem_cons_zero, Act.put, List.setIfInBounds_toArray, List.set_cons_zero, List.set_cons_succ]
          refine wpAnyH_take (i := 9) (v := ?_) rfl (by kernel_rfl) (by kernel_rfl) (by kernel_rfl) (fun _ _ _ h => h) (Or.inl ⟨by rfl, ?_⟩) hHeld ?_
          rotate_left
          · intro W hS
            try dsimp only at hS
            go_simp
            try with_reducible rfl
          try simp only [List.getElem_toArray, List.getElem_cons_succ, List.getElem_cons_zero, Act.put, List.setIfInBounds_toArray, List.set_cons_zero, List.set_cons_succ]
          refine wpAnyH_take (i := 10) (v := ?_) rfl (by kernel_rfl) (by kernel_rfl) (by kernel_rfl) (fun _ _ _ h => h) (Or.inl ⟨by rfl, ?_⟩) hHeld ?_
          rotate_left
          · intro W hS
            try dsimp only at hS
            go_simp
            try with_reducible rfl
          try simp only [List.getElem_toArray, List.getElem_cons_succ, List.getElem_cons_zero, Act.put, List.setIfInBounds_toArray, List.set_cons_zero, List.set_cons_succ]
          refine wpAnyH_take (i := 11) (v := ?_) rfl (by kernel_rfl) (by kernel_rfl) (by kernel_rfl) (fun _ _ _ h => h) (Or.inl ⟨by rfl, ?_⟩) hHeld ?_
          rotate_left
          · intro W hS
            try dsimp only at hS
            go_simp
            try with_reducible rfl
          try simp only [List.getElem_toArray, List.getElem_cons_succ, List.getElem_cons_zero, Act.put, List.setIfInBounds_toArray, List.set_cons_zero, List.set_cons_succ]
          refine wpAnyH_ready (rs := [12]) (by kernel_rfl) (by simp) ?_
          refine AllReadyH.cons rfl (fun K hK => ?_) AllReadyH.nil
          go_simp
          refine (ahead_b _ HAH.out).mono ?_
          rintro e w5 ⟨rfl, hb⟩
          have hbb := below_after hHeld.1 hb (Nat.le_trans hb1w hHeld.1.size)
          refine hK.out _ _ (HALL.out _ hbb) (fun hHeld => ?_)
          clear hK K
          try simp only [List.getElem_toArray, List.getElem_cons_succ, List.getElem_cons_zero, Act.put, List.setIfInBounds_toArray, List.set_cons_zero, List.set_cons_succ]
          refine wpAnyH_take (i := 13) (v := ?_) rfl (by kernel_rfl) (by kernel_rfl) (by kernel_rfl) (fun _ _ _ h => h) (Or.inl ⟨by rfl, ?_⟩) hHeld ?_
          rotate_left
          · intro W hS
            try dsimp only at hS
            go_simp
            try with_reducible rfl
          try simp only [List.getElem_toArray, List.getElem_cons_succ, List.getElem_cons_zero, Act.put, List.setIfInBounds_toArray, List.set_cons_zero, List.set_cons_succ]
          refine wpAnyH_done (by kernel_rfl) ?_ _
          clear ct cg hc0 hc1 hc2
          obtain ⟨HBB, ct, cg, hc0, hc1, hc2⟩ := hHeld
          have HO5 := Lib.hid (show w5.ownsRow b1 52 3 (.slice A3 M c3) M (acCells (acOf O)) from own_touch (gs := []) HO.out ((Touch.refl [] _).drew.trans (Touch.of_below hb (by simp))) (by simp))
          clear hb
          go_wp2_with fail
          by_cases he : x.t = t
          · have hq : ∀ w, (binOp .neq 33 (.agg #[.int .i64 x.t.e, .int .i64 x.t.l]) (.agg #[.int .i64 t.e, .int .i64 t.l])).run Try.prog w = .ok (.bool false) w := run_ne (by simp [he])
            have HE := Lib.hid he
            clear he
            go_quiet (fail)
            generalize hW : World.drewN _ _ = w7
            have HB7 := Lib.hid (show Below b1 w1 w7 by rw [← hW]; exact below_drewN HBB _)
            have HO7 := Lib.hid (show w7.ownsRow b1 52 3 (.slice A3 (M) c3) (M) (acCells (acOf (O))) by rw [← hW]; exact own_touch (gs := []) HO5.out ((Touch.refl [] _).drewN _) (by simp))
            clear hW HBB ct cg hc0 hc1 hc2
            go_wp2_with fail
            go_roundw
            case rel => exact ⟨i + 1, M, A3, c3, O, false, by omega, by omega, by go_num, rfl, rfl, Lib.hid (by rw [HSUCC.out]; simp only [stepR, HAH.out, Bool.not_false, Bool.true_and, Bool.false_or, Bool.false_eq_true, if_false]; rw [if_pos HE.out]), HO7, HB7⟩
            case measure => simp [intOf]; omega
          · have hq : ∀ w, (binOp .neq 33 (.agg #[.int .i64 x.t.e, .int .i64 x.t.l]) (.agg #[.int .i64 t.e, .int .i64 t.l])).run Try.prog w = .ok (.bool true) w := run_ne (by simp [he])
            have HE := Lib.hid he
            clear he
            go_quiet (fail)
            generalize hW : World.drewN _ _ = w7
            have HB7 := Lib.hid (show Below b1 w1 w7 by rw [← hW]; exact below_drewN HBB _)
            have HO7 := Lib.hid (show w7.ownsRow b1 52 3 (.slice A3 (M) c3) (M) (acCells (acOf (O))) by rw [← hW]; exact own_touch (gs := []) HO5.out ((Touch.refl [] _).drewN _) (by simp))
            clear hW HBB ct cg hc0 hc1 hc2
            obtain ⟨HBB, ct, cg, hc0, hc1, hc2⟩ := HALL.out _ HB7.out
            go_wp2_with (at_builtin; refine wpList_append_any _ rfl _ _ 28 rfl b1 52 i0 z0 3 24 Try.underlying28 hi0 hz0 hz1 hz2 hz3 (by decide) (.slice A3 (M) c3) (M) (acCells (acOf (O))) rfl (HO7.out.alloc _) (w7.heap.size + 1) _ 1 1 [.int .i64 x.t.e, .int .i64 x.t.l, .int .i64 (x.n)] rfl (reads_three (Blk.new _ _ _)) (three_one _ _ _) (by unfold maxLen; omega) (by omega) (by have := HBB.size; simp; omega) ?_; intro vw8 w8 hown hg _; obtain ⟨Aw8, cw8, rfl⟩ := own_slice hown; have HBN : Below b1 w1 w8 := (HBB.alloc (Nat.le_trans hb1w HBB.size) _).trans ((Touch.grown hg).below (fun y hy => (HO7.out.lt y (by simpa using hy)).1) (by have := HBB.size; simp; omega)); have HOw8 := Lib.hid (own_ce (O := O) (t := x.t) (z := x.n) hown); clear hown hg HBB ct cg hc0 hc1 hc2; have HB8 := Lib.hid HBN; clear HBN; go_frame)
            go_wp2_with fail
            go_roundw
            case rel => exact ⟨i + 1, M + 1, Aw8, cw8, O ++ [(x.t, x.n)], false, by omega, by omega, by go_num, rfl, rfl, Lib.hid (by rw [HSUCC.out]; simp only [stepR, HAH.out, Bool.not_false, Bool.true_and, Bool.false_or, Bool.false_eq_true, if_false]; rw [if_neg HE.out]), HOw8, HB8⟩
            case measure => simp [intOf]; omega
        · have HAH := Lib.hid hah
          clear hah
          go_wp2_with fail
          refine wp_region_held_drew (S := (fun W => (Below b1 w1 W ∧ (∀ i, W.cell? ⟨w.heap.size, i, none⟩ = (#[.int .i64 t.e, .int .i64 t.l] : Array Value)[i]?) ∧ (∀ i, W.cell? ⟨g, i, none⟩ = (#[.slice (some ad) m c] : Array Value)[i]?) ∧ W.cell? (ad.add (i * 3)) = some (.int .i64 x.t.e) ∧ W.cell? ⟨(ad.add (i * 3)).block, (ad.add (i * 3)).off + 1, none⟩ = some (.int .i64 x.t.l) ∧ W.cell? ⟨(ad.add (i * 3)).block, (ad.add (i * 3)).off + 2, none⟩ = some (.int .i64 x.n)))) (by kernel_rfl) (HALL.out _ HB.out.drew) (fun hHeld => ?_)
          refine wpAnyH_take (i := 0) (v := ?_) rfl (by kernel_rfl) (by kernel_rfl) (by kernel_rfl) (fun _ _ _ h => h) (Or.inl ⟨by rfl, ?_⟩) hHeld ?_
          rotate_left
          · intro W hS
            try dsimp only at hS
            go_simp
            try with_reducible rfl
          try simp only [List.getElem_toArray, List.getElem_cons_succ, List.getElem_cons_zero, Act.put, List.setIfInBounds_toArray, List.set_cons_zero, List.set_cons_succ]
          refine wpAnyH_take (i := 1) (v := ?_) rfl (by kernel_rfl) (by kernel_rfl) (by kernel_rfl) (fun _ _ _ h => h) (Or.inl ⟨by rfl, ?_⟩) hHeld ?_
          rotate_left
          · intro W hS
            try dsimp only at hS
            go_simp
            try with_reducible rfl
          try simp only [List.getElem_toArray, List.getElem_cons_succ, List.getElem_cons_zero, Act.put, List.setIfInBounds_toArray, List.set_cons_zero, List.set_cons_succ]
          refine wpAnyH_take (i := 2) (v := ?_) rfl (by kernel_rfl) (by kernel_rfl) (by kernel_rfl) (fun _ _ _ h => h) (Or.inl ⟨by rfl, ?_⟩) hHeld ?_
          rotate_left
          · intro W hS
            try dsimp only at hS
            go_simp
            try with_reducible rfl
          try simp only [List.getElem_toArray, List.getElem_cons_succ, List.getElem_cons_zero, Act.put, List.setIfInBounds_toArray, List.set_cons_zero, List.set_cons_succ]
          refine wpAnyH_take (i := 3) (v := ?_) rfl (by kernel_rfl) (by kernel_rfl) (by kernel_rfl) (fun _ _ _ h => h) (Or.inl ⟨by rfl, ?_⟩) hHeld ?_
          rotate_left
          · intro W hS
            try dsimp only at hS
            go_simp
            try with_reducible rfl
          try simp only [List.getElem_toArray, List.getElem_cons_succ, List.getElem_cons_zero, Act.put, List.setIfInBounds_toArray, List.set_cons_zero, List.set_cons_succ]
          refine wpAnyH_take (i := 4) (v := ?_) rfl (by kernel_rfl) (by kernel_rfl) (by kernel_rfl) (fun _ _ _ h => h) (Or.inl ⟨by rfl, ?_⟩) hHeld ?_
          rotate_left
          · intro W hS
            try dsimp only at hS
            go_simp
            try with_reducible rfl
          try simp only [List.getElem_toArray, List.getElem_cons_succ, List.getElem_cons_zero, Act.put, List.setIfInBounds_toArray, List.set_cons_zero, List.set_cons_succ]
          refine wpAnyH_take (i := 5) (v := ?_) rfl (by kernel_rfl) (by kernel_rfl) (by kernel_rfl) (fun _ _ _ h => h) (Or.inl ⟨by rfl, ?_⟩) hHeld ?_
          rotate_left
          · intro W hS
            try dsimp only at hS
            go_simp
            try with_reducible rfl
          try simp only [List.getElem_toArray, List.getElem_cons_succ, List.getElem_cons_zero, Act.put, List.setIfInBounds_toArray, List.set_cons_zero, List.set_cons_succ]
          refine wpAnyH_take (i := 6) (v := ?_) rfl (by kernel_rfl) (by kernel_rfl) (by kernel_rfl) (fun _ _ _ h => h) (Or.inl ⟨by rfl, ?_⟩) hHeld ?_
          rotate_left
          · intro W hS
            try dsimp only at hS
            go_simp
            try with_reducible rfl
          try simp only [List.getElem_toArray, List.getElem_cons_succ, List.getElem_cons_zero, Act.put, List.setIfInBounds_toArray, List.set_cons_zero, List.set_cons_succ]
          refine wpAnyH_take (i := 7) (v := ?_) rfl (by kernel_rfl) (by kernel_rfl) (by kernel_rfl) (fun _ _ _ h => h) (Or.inl ⟨by rfl, ?_⟩) hHeld ?_
          rotate_left
          · intro W hS
            try dsimp only at hS
            go_simp
            try with_reducible rfl
          try simp only [List.getElem_toArray, List.getElem_cons_succ, List.getElem_cons_zero, Act.put, List.setIfInBounds_toArray, List.set_cons_zero, List.set_cons_succ]
          refine wpAnyH_take (i := 8) (v := ?_) rfl (by kernel_rfl) (by kernel_rfl) (by kernel_rfl) (fun _ _ _ h => h) (Or.inl ⟨by rfl, ?_⟩) hHeld ?_
          rotate_left
          · intro W hS
            try dsimp only at hS
            go_simp
            try with_reducible rfl
          try simp only [List.getElem_toArray, List.getElem_cons_succ, List.getElem_cons_zero, Act.put, List.setIfInBounds_toArray, List.set_cons_zero, List.set_cons_succ]
          refine wpAnyH_take (i := 9) (v := ?_) rfl (by kernel_rfl) (by kernel_rfl) (by kernel_rfl) (fun _ _ _ h => h) (Or.inl ⟨by rfl, ?_⟩) hHeld ?_
          rotate_left
          · intro W hS
            try dsimp only at hS
            go_simp
            try with_reducible rfl
          try simp only [List.getElem_toArray, List.getElem_cons_succ, List.getElem_cons_zero, Act.put, List.setIfInBounds_toArray, List.set_cons_zero, List.set_cons_succ]
          refine wpAnyH_take (i := 10) (v := ?_) rfl (by kernel_rfl) (by kernel_rfl) (by kernel_rfl) (fun _ _ _ h => h) (Or.inl ⟨by rfl, ?_⟩) hHeld ?_
          rotate_left
          · intro W hS
            try dsimp only at hS
            go_simp
            try with_reducible rfl
          try simp only [List.getElem_toArray, List.getElem_cons_succ, List.getElem_cons_zero, Act.put, List.setIfInBounds_toArray, List.set_cons_zero, List.set_cons_succ]
          refine wpAnyH_take (i := 11) (v := ?_) rfl (by kernel_rfl) (by kernel_rfl) (by kernel_rfl) (fun _ _ _ h => h) (Or.inl ⟨by rfl, ?_⟩) hHeld ?_
          rotate_left
          · intro W hS
            try dsimp only at hS
            go_simp
            try with_reducible rfl
          try simp only [List.getElem_toArray, List.getElem_cons_succ, List.getElem_cons_zero, Act.put, List.setIfInBounds_toArray, List.set_cons_zero, List.set_cons_succ]
          refine wpAnyH_ready (rs := [12]) (by kernel_rfl) (by simp) ?_
          refine AllReadyH.cons rfl (fun K hK => ?_) AllReadyH.nil
          go_simp
          refine (ahead_b _ HAH.out).mono ?_
          rintro e w5 ⟨rfl, hb⟩
          have hbb := below_after hHeld.1 hb (Nat.le_trans hb1w hHeld.1.size)
          refine hK.out _ _ (HALL.out _ hbb) (fun hHeld => ?_)
          clear hK K
          try simp only [List.getElem_toArray, List.getElem_cons_succ, List.getElem_cons_zero, Act.put, List.setIfInBounds_toArray, List.set_cons_zero, List.set_cons_succ]
          refine wpAnyH_take (i := 13) (v := ?_) rfl (by kernel_rfl) (by kernel_rfl) (by kernel_rfl) (fun _ _ _ h => h) (Or.inl ⟨by rfl, ?_⟩) hHeld ?_
          rotate_left
          · intro W hS
            try dsimp only at hS
            go_simp
            try with_reducible rfl
          try simp only [List.getElem_toArray, List.getElem_cons_succ, List.getElem_cons_zero, Act.put, List.setIfInBounds_toArray, List.set_cons_zero, List.set_cons_succ]
          refine wpAnyH_done (by kernel_rfl) ?_ _
          clear ct cg hc0 hc1 hc2
          obtain ⟨HBB, ct, cg, hc0, hc1, hc2⟩ := hHeld
          have HO5 := Lib.hid (show w5.ownsRow b1 52 3 (.slice A3 M c3) M (acCells (acOf O)) from own_touch (gs := []) HO.out ((Touch.refl [] _).drew.trans (Touch.of_below hb (by simp))) (by simp))
          clear hb
          go_wp2_with (at_builtin; refine wpList_append_any _ rfl _ _ 28 rfl b1 52 i0 z0 3 24 Try.underlying28 hi0 hz0 hz1 hz2 hz3 (by decide) (.slice A3 (M) c3) (M) (acCells (acOf (O))) rfl (HO5.out.alloc _) (w5.heap.size + 1) _ 1 1 [.int .i64 t.e, .int .i64 t.l, .int .i64 (r + n)] rfl (reads_three (Blk.new _ _ _)) (three_one _ _ _) (by unfold maxLen; omega) (by omega) (by have := HBB.size; simp; omega) ?_; intro vw6 w6 hown hg _; obtain ⟨Aw6, cw6, rfl⟩ := own_slice hown; have HBN : Below b1 w1 w6 := (HBB.alloc (Nat.le_trans hb1w HBB.size) _).trans ((Touch.grown hg).below (fun y hy => (HO5.out.lt y (by simpa using hy)).1) (by have := HBB.size; simp; omega)); have HOw6 := Lib.hid (own_ce (O := O) (t := t) (z := r + n) hown); clear hown hg HBB ct cg hc0 hc1 hc2; obtain ⟨HBB, ct, cg, hc0, hc1, hc2⟩ := HALL.out _ HBN; clear HBN; go_frame)
          go_wp2_with fail
          by_cases he : x.t = t
          · have hq : ∀ w, (binOp .neq 33 (.agg #[.int .i64 x.t.e, .int .i64 x.t.l]) (.agg #[.int .i64 t.e, .int .i64 t.l])).run Try.prog w = .ok (.bool false) w := run_ne (by simp [he])
            have HE := Lib.hid he
            clear he
            go_quiet (fail)
            generalize hW : World.drewN _ _ = w7
            have HB7 := Lib.hid (show Below b1 w1 w7 by rw [← hW]; exact below_drewN HBB _)
            have HO7 := Lib.hid (show w7.ownsRow b1 52 3 (.slice Aw6 (M + 1) cw6) (M + 1) (acCells (acOf (O ++ [(t, r + n)]))) by rw [← hW]; exact own_touch (gs := []) HOw6.out ((Touch.refl [] _).drewN _) (by simp))
            clear hW HBB ct cg hc0 hc1 hc2
            go_wp2_with fail
            go_roundw
            case rel => exact ⟨i + 1, M + 1, Aw6, cw6, O ++ [(t, r + n)], true, by omega, by omega, by go_num, rfl, rfl, Lib.hid (by rw [HSUCC.out]; simp only [stepR, HAH.out, Bool.not_false, Bool.true_and, Bool.or_true, if_true]; rw [if_pos HE.out]), HO7, HB7⟩
            case measure => simp [intOf]; omega
          · have hq : ∀ w, (binOp .neq 33 (.agg #[.int .i64 x.t.e, .int .i64 x.t.l]) (.agg #[.int .i64 t.e, .int .i64 t.l])).run Try.prog w = .ok (.bool true) w := run_ne (by simp [he])
            have HE := Lib.hid he
            clear he
            go_quiet (fail)
            generalize hW : World.drewN _ _ = w7
            have HB7 := Lib.hid (show Below b1 w1 w7 by rw [← hW]; exact below_drewN HBB _)
            have HO7 := Lib.hid (show w7.ownsRow b1 52 3 (.slice Aw6 (M + 1) cw6) (M + 1) (acCells (acOf (O ++ [(t, r + n)]))) by rw [← hW]; exact own_touch (gs := []) HOw6.out ((Touch.refl [] _).drewN _) (by simp))
            clear hW HBB ct cg hc0 hc1 hc2
            obtain ⟨HBB, ct, cg, hc0, hc1, hc2⟩ := HALL.out _ HB7.out
            go_wp2_with (at_builtin; refine wpList_append_any _ rfl _ _ 28 rfl b1 52 i0 z0 3 24 Try.underlying28 hi0 hz0 hz1 hz2 hz3 (by decide) (.slice Aw6 (M + 1) cw6) (M + 1) (acCells (acOf (O ++ [(t, r + n)]))) rfl (HO7.out.alloc _) (w7.heap.size + 1) _ 1 1 [.int .i64 x.t.e, .int .i64 x.t.l, .int .i64 (x.n)] rfl (reads_three (Blk.new _ _ _)) (three_one _ _ _) (by unfold maxLen; omega) (by omega) (by have := HBB.size; simp; omega) ?_; intro vw8 w8 hown hg _; obtain ⟨Aw8, cw8, rfl⟩ := own_slice hown; have HBN : Below b1 w1 w8 := (HBB.alloc (Nat.le_trans hb1w HBB.size) _).trans ((Touch.grown hg).below (fun y hy => (HO7.out.lt y (by simpa using hy)).1) (by have := HBB.size; simp; omega)); have HOw8 := Lib.hid (own_ce (O := O ++ [(t, r + n)]) (t := x.t) (z := x.n) hown); clear hown hg HBB ct cg hc0 hc1 hc2; have HB8 := Lib.hid HBN; clear HBN; go_frame)
            go_wp2_with fail
            go_roundw
            case rel => exact ⟨i + 1, M + 1 + 1, Aw8, cw8, O ++ [(t, r + n)] ++ [(x.t, x.n)], true, by omega, by omega, by go_num, rfl, rfl, Lib.hid (by rw [HSUCC.out]; simp only [stepR, HAH.out, Bool.not_false, Bool.true_and, Bool.or_true, if_true]; rw [if_neg HE.out]), HOw8, HB8⟩
            case measure => simp [intOf]; omega
      · go_wp2_with fail
        refine wp_region_held_drew (S := (fun W => (Below b1 w1 W ∧ (∀ i, W.cell? ⟨w.heap.size, i, none⟩ = (#[.int .i64 t.e, .int .i64 t.l] : Array Value)[i]?) ∧ (∀ i, W.cell? ⟨g, i, none⟩ = (#[.slice (some ad) m c] : Array Value)[i]?) ∧ W.cell? (ad.add (i * 3)) = some (.int .i64 x.t.e) ∧ W.cell? ⟨(ad.add (i * 3)).block, (ad.add (i * 3)).off + 1, none⟩ = some (.int .i64 x.t.l) ∧ W.cell? ⟨(ad.add (i * 3)).block, (ad.add (i * 3)).off + 2, none⟩ = some (.int .i64 x.n)))) (by kernel_rfl) (HALL.out _ HB.out.drew) (fun hHeld => ?_)
        refine wpAnyH_take (i := 0) (v := ?_) rfl (by kernel_rfl) (by kernel_rfl) (by kernel_rfl) (fun _ _ _ h => h) (Or.inl ⟨by rfl, ?_⟩) hHeld ?_
        rotate_left
        · intro W hS
          try dsimp only at hS
          go_simp
          try with_reducible rfl
        try simp only [List.getElem_toArray, List.getElem_cons_succ, List.getElem_cons_zero, Act.put, List.setIfInBounds_toArray, List.set_cons_zero, List.set_cons_succ]
        refine wpAnyH_take (i := 1) (v := ?_) rfl (by kernel_rfl) (by kernel_rfl) (by kernel_rfl) (fun _ _ _ h => h) (Or.inl ⟨by rfl, ?_⟩) hHeld ?_
        rotate_left
        · intro W hS
          try dsimp only at hS
          go_simp
          try with_reducible rfl
        try simp only [List.getElem_toArray, List.getElem_cons_succ, List.getElem_cons_zero, Act.put, List.setIfInBounds_toArray, List.set_cons_zero, List.set_cons_succ]
        refine wpAnyH_take (i := 2) (v := ?_) rfl (by kernel_rfl) (by kernel_rfl) (by kernel_rfl) (fun _ _ _ h => h) (Or.inl ⟨by rfl, ?_⟩) hHeld ?_
        rotate_left
        · intro W hS
          try dsimp only at hS
          go_simp
          try with_reducible rfl
        try simp only [List.getElem_toArray, List.getElem_cons_succ, List.getElem_cons_zero, Act.put, List.setIfInBounds_toArray, List.set_cons_zero, List.set_cons_succ]
        refine wpAnyH_take (i := 3) (v := undef) rfl (by kernel_rfl) (by kernel_rfl) (by kernel_rfl) (fun _ _ _ h => h) (Or.inr ⟨by rfl, rfl⟩) hHeld ?_
        try simp only [List.getElem_toArray, List.getElem_cons_succ, List.getElem_cons_zero, Act.put, List.setIfInBounds_toArray, List.set_cons_zero, List.set_cons_succ]
        refine wpAnyH_take (i := 4) (v := undef) rfl (by kernel_rfl) (by kernel_rfl) (by kernel_rfl) (fun _ _ _ h => h) (Or.inr ⟨by rfl, rfl⟩) hHeld ?_
        try simp only [List.getElem_toArray, List.getElem_cons_succ, List.getElem_cons_zero, Act.put, List.setIfInBounds_toArray, List.set_cons_zero, List.set_cons_succ]
        refine wpAnyH_take (i := 5) (v := undef) rfl (by kernel_rfl) (by kernel_rfl) (by kernel_rfl) (fun _ _ _ h => h) (Or.inr ⟨by rfl, rfl⟩) hHeld ?_
        try simp only [List.getElem_toArray, List.getElem_cons_succ, List.getElem_cons_zero, Act.put, List.setIfInBounds_toArray, List.set_cons_zero, List.set_cons_succ]
        refine wpAnyH_take (i := 6) (v := undef) rfl (by kernel_rfl) (by kernel_rfl) (by kernel_rfl) (fun _ _ _ h => h) (Or.inr ⟨by rfl, rfl⟩) hHeld ?_
        try simp only [List.getElem_toArray, List.getElem_cons_succ, List.getElem_cons_zero, Act.put, List.setIfInBounds_toArray, List.set_cons_zero, List.set_cons_succ]
        refine wpAnyH_take (i := 7) (v := undef) rfl (by kernel_rfl) (by kernel_rfl) (by kernel_rfl) (fun _ _ _ h => h) (Or.inr ⟨by rfl, rfl⟩) hHeld ?_
        try simp only [List.getElem_toArray, List.getElem_cons_succ, List.getElem_cons_zero, Act.put, List.setIfInBounds_toArray, List.set_cons_zero, List.set_cons_succ]
        refine wpAnyH_take (i := 8) (v := undef) rfl (by kernel_rfl) (by kernel_rfl) (by kernel_rfl) (fun _ _ _ h => h) (Or.inr ⟨by rfl, rfl⟩) hHeld ?_
        try simp only [List.getElem_toArray, List.getElem_cons_succ, List.getElem_cons_zero, Act.put, List.setIfInBounds_toArray, List.set_cons_zero, List.set_cons_succ]
        refine wpAnyH_take (i := 9) (v := undef) rfl (by kernel_rfl) (by kernel_rfl) (by kernel_rfl) (fun _ _ _ h => h) (Or.inr ⟨by rfl, rfl⟩) hHeld ?_
        try simp only [List.getElem_toArray, List.getElem_cons_succ, List.getElem_cons_zero, Act.put, List.setIfInBounds_toArray, List.set_cons_zero, List.set_cons_succ]
        refine wpAnyH_take (i := 10) (v := undef) rfl (by kernel_rfl) (by kernel_rfl) (by kernel_rfl) (fun _ _ _ h => h) (Or.inr ⟨by rfl, rfl⟩) hHeld ?_
        try simp only [List.getElem_toArray, List.getElem_cons_succ, List.getElem_cons_zero, Act.put, List.setIfInBounds_toArray, List.set_cons_zero, List.set_cons_succ]
        refine wpAnyH_take (i := 11) (v := undef) rfl (by kernel_rfl) (by kernel_rfl) (by kernel_rfl) (fun _ _ _ h => h) (Or.inr ⟨by rfl, rfl⟩) hHeld ?_
        try simp only [List.getElem_toArray, List.getElem_cons_succ, List.getElem_cons_zero, Act.put, List.setIfInBounds_toArray, List.set_cons_zero, List.set_cons_succ]
        refine wpAnyH_take (i := 12) (v := undef) rfl (by kernel_rfl) (by kernel_rfl) (by kernel_rfl) (fun _ _ _ h => h) (Or.inr ⟨by rfl, rfl⟩) hHeld ?_
        try simp only [List.getElem_toArray, List.getElem_cons_succ, List.getElem_cons_zero, Act.put, List.setIfInBounds_toArray, List.set_cons_zero, List.set_cons_succ]
        refine wpAnyH_take (i := 13) (v := ?_) rfl (by kernel_rfl) (by kernel_rfl) (by kernel_rfl) (fun _ _ _ h => h) (Or.inl ⟨by rfl, ?_⟩) hHeld ?_
        rotate_left
        · intro W hS
          try dsimp only at hS
          go_simp
          try with_reducible rfl
        try simp only [List.getElem_toArray, List.getElem_cons_succ, List.getElem_cons_zero, Act.put, List.setIfInBounds_toArray, List.set_cons_zero, List.set_cons_succ]
        refine wpAnyH_done (by kernel_rfl) ?_ _
        clear ct cg hc0 hc1 hc2
        generalize hw5 : wr.drew = w5 at hHeld ⊢
        obtain ⟨HBB, ct, cg, hc0, hc1, hc2⟩ := hHeld
        have HO5 := Lib.hid (show w5.ownsRow b1 52 3 (.slice A3 M c3) M (acCells (acOf O)) by rw [← hw5]; exact own_touch (gs := []) HO.out (Touch.refl [] _).drew (by simp))
        clear hw5
        go_wp2_with fail
        by_cases he : x.t = t
        · have hq : ∀ w, (binOp .neq 33 (.agg #[.int .i64 x.t.e, .int .i64 x.t.l]) (.agg #[.int .i64 t.e, .int .i64 t.l])).run Try.prog w = .ok (.bool false) w := run_ne (by simp [he])
          have HE := Lib.hid he
          clear he
          go_quiet (fail)
          generalize hW : World.drewN _ _ = w7
          have HB7 := Lib.hid (show Below b1 w1 w7 by rw [← hW]; exact below_drewN HBB _)
          have HO7 := Lib.hid (show w7.ownsRow b1 52 3 (.slice A3 (M) c3) (M) (acCells (acOf (O))) by rw [← hW]; exact own_touch (gs := []) HO5.out ((Touch.refl [] _).drewN _) (by simp))
          clear hW HBB ct cg hc0 hc1 hc2
          go_wp2_with fail
          go_roundw
          case rel => exact ⟨i + 1, M, A3, c3, O, true, by omega, by omega, by go_num, rfl, rfl, Lib.hid (by rw [HSUCC.out]; simp only [stepR, Bool.not_true, Bool.false_and, Bool.true_or, Bool.false_eq_true, if_false]; rw [if_pos HE.out]), HO7, HB7⟩
          case measure => simp [intOf]; omega
        · have hq : ∀ w, (binOp .neq 33 (.agg #[.int .i64 x.t.e, .int .i64 x.t.l]) (.agg #[.int .i64 t.e, .int .i64 t.l])).run Try.prog w = .ok (.bool true) w := run_ne (by simp [he])
          have HE := Lib.hid he
          clear he
          go_quiet (fail)
          generalize hW : World.drewN _ _ = w7
          have HB7 := Lib.hid (show Below b1 w1 w7 by rw [← hW]; exact below_drewN HBB _)
          have HO7 := Lib.hid (show w7.ownsRow b1 52 3 (.slice A3 (M) c3) (M) (acCells (acOf (O))) by rw [← hW]; exact own_touch (gs := []) HO5.out ((Touch.refl [] _).drewN _) (by simp))
          clear hW HBB ct cg hc0 hc1 hc2
          obtain ⟨HBB, ct, cg, hc0, hc1, hc2⟩ := HALL.out _ HB7.out
          go_wp2_with (at_builtin; refine wpList_append_any _ rfl _ _ 28 rfl b1 52 i0 z0 3 24 Try.underlying28 hi0 hz0 hz1 hz2 hz3 (by decide) (.slice A3 (M) c3) (M) (acCells (acOf (O))) rfl (HO7.out.alloc _) (w7.heap.size + 1) _ 1 1 [.int .i64 x.t.e, .int .i64 x.t.l, .int .i64 (x.n)] rfl (reads_three (Blk.new _ _ _)) (three_one _ _ _) (by unfold maxLen; omega) (by omega) (by have := HBB.size; simp; omega) ?_; intro vw8 w8 hown hg _; obtain ⟨Aw8, cw8, rfl⟩ := own_slice hown; have HBN : Below b1 w1 w8 := (HBB.alloc (Nat.le_trans hb1w HBB.size) _).trans ((Touch.grown hg).below (fun y hy => (HO7.out.lt y (by simpa using hy)).1) (by have := HBB.size; simp; omega)); have HOw8 := Lib.hid (own_ce (O := O) (t := x.t) (z := x.n) hown); clear hown hg HBB ct cg hc0 hc1 hc2; have HB8 := Lib.hid HBN; clear HBN; go_frame)
          go_wp2_with fail
          go_roundw
          case rel => exact ⟨i + 1, M + 1, Aw8, cw8, O ++ [(x.t, x.n)], true, by omega, by omega, by go_num, rfl, rfl, Lib.hid (by rw [HSUCC.out]; simp only [stepR, Bool.not_true, Bool.false_and, Bool.true_or, Bool.false_eq_true, if_false]; rw [if_neg HE.out]), HOw8, HB8⟩
          case measure => simp [intOf]; omega
    · obtain rfl : m = i := by omega
      have hfin := stAt_all t (r + n) L (n := m) (by have := HM.out; omega)
      rw [← HST.out, ← HADD.out] at hfin
      have HBB := HB.out
      have KG := HKG.out.below HB.out (by omega)
      have KT := HKX.out.below HB.out (by omega)
      have cg := KG.c
      have fg := KG.f
      have ct := KT.c
      cases d
      · have HFIN := Lib.hid (show O ++ [(t, r + n)] = addL L t n from by simpa using hfin)
        clear hfin
        go_wp2_with (at_builtin; refine wpList_append_any _ rfl _ _ 28 rfl b1 52 i0 z0 3 24 Try.underlying28 hi0 hz0 hz1 hz2 hz3 (by decide) (.slice A3 (M) c3) (M) (acCells (acOf (O))) rfl (HO.out.alloc _) (wr.heap.size + 1) _ 1 1 [.int .i64 t.e, .int .i64 t.l, .int .i64 (r + n)] rfl (reads_three (Blk.new _ _ _)) (three_one _ _ _) (by unfold maxLen; omega) (by omega) (by have := HBB.size; simp; omega) ?_; intro vw6 w6 hown hg _; obtain ⟨Aw6, cw6, rfl⟩ := own_slice hown; have HBN : Below b1 w1 w6 := (HBB.alloc (Nat.le_trans hb1w HBB.size) _).trans ((Touch.grown hg).below (fun y hy => (HO.out.lt y (by simpa using hy)).1) (by have := HBB.size; simp; omega)); have HOw6 := Lib.hid (own_ce (O := O) (t := t) (z := r + n) hown); clear hown hg HBB cg fg ct KG KT; have HBB := HBN; have KG := HKG.out.below HBN (by omega); have cg := KG.c; have fg := KG.f; clear HBN; go_frame)
        go_wp2_with fail
        go_ret
        refine ⟨rfl, ⟨⟨Aw6, M + 1, cw6, KG.set_ 0 _, ?_, ?_⟩, HLO.out, HCAN.out⟩, ?_⟩
        · have := HOw6.out.1; rw [HFIN.out] at this; simp at this; omega
        · rw [← HFIN.out]; exact own_base (own_touch (gs := [g]) HOw6.out ((Touch.refl [g] _).at1 0 _) (by simp; omega)) (by have := HLO.out; omega)
        · exact (Touch.of_below (gs := [g]) (HB1.out.trans (HBB.mono (show w.heap.size ≤ b1 by omega))) (Nat.le_refl _)).at1 0 _
      · have HFIN := Lib.hid (show O = addL L t n from by simpa using hfin)
        clear hfin
        go_wp2_with fail
        go_ret
        refine ⟨rfl, ⟨⟨A3, M, c3, KG.set_ 0 _, ?_, ?_⟩, HLO.out, HCAN.out⟩, ?_⟩
        · have := HO.out.1; rw [HFIN.out] at this; simp at this; omega
        · rw [← HFIN.out]; exact own_base (own_touch (gs := [g]) HO.out ((Touch.refl [g] _).at1 0 _) (by simp; omega)) (by have := HLO.out; omega)
        · exact (Touch.of_below (gs := [g]) (HB1.out.trans (HBB.mono (show w.heap.size ≤ b1 by omega))) (Nat.le_refl _)).at1 0 _
end Go.Proofs.Ytifoonjhcjmehaa
