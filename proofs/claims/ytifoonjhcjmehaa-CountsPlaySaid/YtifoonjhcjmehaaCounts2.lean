/-
  Counts.Add, by contract.
-/
import Derived.Test.YtifoonjhcjmehaaCounts
namespace Go.Proofs.Ytifoonjhcjmehaa
open Go.RowKit
set_option linter.unusedSimpArgs false
set_option linter.unusedVariables false
def Bnd (L : Cnt) : Prop := ∀ t, -1099511627776 ≤ ofL L t ∧ ofL L t ≤ 1099511627776
theorem Bnd.nil : Bnd [] := fun t => by simp [ofL]
theorem Bnd.add {L : Cnt} (h : Bnd L) (hc : Canon L) (t : Tm) (n : Int) : Bnd (addL L t n) := fun s => by
  rw [ofL_addL hc]
  have := h s
  split
  · rename_i hh
    obtain ⟨rfl, ha⟩ := hh
    unfold addOk at ha
    simp at ha
    omega
  · omega

theorem wf_small {a : Int} (h : -9223372036854775808 ≤ a) (h2 : a ≤ 9223372036854775807) : (Lit.int .i64 a).wf = true := by
  simp [Lit.wf, IntKind.min, IntKind.max, IntKind.signed, IntKind.bits]
  omega

set_option maxRecDepth 100000 in
set_option maxHeartbeats 4000000 in
theorem add_no {g N : Nat} {m : Option Nat} {L : Cnt} {t : Tm} {n : Int} (w : World) (K : Blk w g 26 #[.map m]) (h : MV w m N L) (hbnd : Bnd L) (ht : t.ok) (hno : addOk L t n = false) :
    Calls Try.prog 12 #[.pointer (some ⟨g, 0, none⟩), tmv t, .int .i64 n] w fun e w' => e = .returned (.bool false) ∧ Below w.heap.size w w' ∧ Blk w' g 26 #[.map m] ∧ MV w' m N L := by
  have KX := Blk.new w 33 #[.int .i64 t.e, .int .i64 t.l]
  have KC := K.alloc (.cells #[.int .i64 t.e, .int .i64 t.l] 33)
  have HB := (Below.refl w.heap.size w).alloc (Nat.le_refl _) (.cells #[.int .i64 t.e, .int .i64 t.l] 33)
  have hM := h.on HB
  have HRF := Lib.hid (show Blk w g 26 #[.map m] from K)
  clear K h HRF
  cases hmay : t.may
  · have HMAY := Lib.hid hmay
    clear hmay hno
    go_enter Try.func12, Try.ntmps12
    go_wp2_with fail
    refine (may_b _ HMAY.out).mono ?_
    rintro e w1 ⟨rfl, hb⟩
    have HB1 := below_after HB hb HB.size
    have KX1 := KX.on hb
    have KC1 := KC.on hb
    have hM1 := hM.on hb
    clear KX KC hM hb HB
    go_wp2_with fail
    go_ret
    exact ⟨rfl, HB1, KC1, hM1⟩
  · have HMAY := Lib.hid hmay
    by_cases h1 : n < -2199023255552
    · clear hmay hno
      go_enter Try.func12, Try.ntmps12
      go_wp2_with fail
      refine (may_b _ HMAY.out).mono ?_
      rintro e w1 ⟨rfl, hb⟩
      have HB1 := below_after HB hb HB.size
      have KX1 := KX.on hb
      have KC1 := KC.on hb
      have hM1 := hM.on hb
      clear KX KC hM hb HB
      go_wp2_with fail
      go_ret
      exact ⟨rfl, HB1, KC1, hM1⟩
    · by_cases h2 : 2199023255552 < n
      · clear hmay hno
        go_enter Try.func12, Try.ntmps12
        go_wp2_with fail
        refine (may_b _ HMAY.out).mono ?_
        rintro e w1 ⟨rfl, hb⟩
        have HB1 := below_after HB hb HB.size
        have KX1 := KX.on hb
        have KC1 := KC.on hb
        have hM1 := hM.on hb
        clear KX KC hM hb HB
        go_wp2_with fail
        go_ret
        exact ⟨rfl, HB1, KC1, hM1⟩
      · have hr := hbnd t
        obtain ⟨r, hrr⟩ : ∃ r, ofL L t = r := ⟨_, rfl⟩
        rw [hrr] at hr
        have hsum : r + n < -1099511627776 ∨ ¬ (r + n < -1099511627776) ∧ 1099511627776 < r + n := by
          unfold addOk at hno
          rw [hmay, hrr] at hno
          simp at hno
          omega
        obtain ⟨hr1, hr2⟩ := hr
        clear hmay hno
        go_enter Try.func12, Try.ntmps12
        go_wp2_with fail
        refine (may_b _ HMAY.out).mono ?_
        rintro e w1 ⟨rfl, hb⟩
        have HB1 := below_after HB hb HB.size
        have KX1 := KX.on hb
        have KC1 := KC.on hb
        have hM1 := hM.on hb
        clear KX KC hM hb HB
        have hl : ∀ q, (Instr.lookup 24 (.map m) (.agg #[.int .i64 t.e, .int .i64 t.l]) false).run Try.prog (w1.drewN q) = .ok (.int .i64 r) (w1.drewN q) := fun q => by
          have := (hM1.drewN q).look ht
          rw [hrr] at this
          exact this
        have cx := KX1.c
        have cc := KC1.c
        have HKX := Lib.hid KX1
        have HKC := Lib.hid KC1
        have HM1 := Lib.hid hM1
        have HBB1 := Lib.hid HB1
        clear KX1 KC1 hM1 HB1
        rcases hsum with hs | ⟨hs, hs2⟩
        · go_wp2_with fail
          go_quiet (fail)
          go_wp2_with fail
          go_ret
          exact ⟨rfl, below_drewN HBB1.out _, HKC.out.drewN _, HM1.out.drewN _⟩
        · go_wp2_with fail
          go_quiet (fail)
          go_wp2_with fail
          go_ret
          exact ⟨rfl, below_drewN HBB1.out _, HKC.out.drewN _, HM1.out.drewN _⟩

set_option maxRecDepth 100000 in
set_option maxHeartbeats 4000000 in
theorem add_yes_some_more {g N : Nat} {m : Option Nat} {L : Cnt} {t : Tm} {n : Int} (w : World) (K : Blk w g 26 #[.map m]) (h : MV w m N L) (hbnd : Bnd L) (hc : Canon L) (ht : t.ok) (hN : N ≤ 1000000) (hyes : addOk L t n = true) (hm0 : m ≠ none) (hzero : ¬ (ofL L t + n = 0)) :
    Calls Try.prog 12 #[.pointer (some ⟨g, 0, none⟩), tmv t, .int .i64 n] w fun e w' => e = .returned (.bool true) ∧ ∃ m', Blk w' g 26 #[.map m'] ∧ MV w' m' (N + 1) (addL L t n) ∧ Touch (g :: m'.toList) w w' ∧ ∀ b, m' = some b → m = some b ∨ w.heap.size ≤ b := by
  have KX := Blk.new w 33 #[.int .i64 t.e, .int .i64 t.l]
  have KC := K.alloc (.cells #[.int .i64 t.e, .int .i64 t.l] 33)
  have HB := (Below.refl w.heap.size w).alloc (Nat.le_refl _) (.cells #[.int .i64 t.e, .int .i64 t.l] 33)
  have hM := h.on HB
  obtain ⟨b, rfl, hMT⟩ : ∃ b, m = some b ∧ MapT w b N L := by
    rcases h with ⟨rfl, _⟩ | ⟨b, rfl, hm⟩
    · exact absurd rfl hm0
    · exact ⟨b, rfl, hm⟩
  have HMT0 := Lib.hid hMT
  have hlt := hMT.lt
  have hgb : g ≠ b := by
    rintro rfl
    obtain ⟨D, ⟨es, cl, hb, _⟩, _⟩ := hMT
    have := K
    unfold Blk at this
    rw [hb] at this; cases this
  have hxb : w.heap.size ≠ b := by omega
  clear hMT
  have hzg := K.lt
  have hr := hbnd t
  obtain ⟨r, hrr⟩ : ∃ r, ofL L t = r := ⟨_, rfl⟩
  rw [hrr] at hr
  obtain ⟨hr1, hr2⟩ := hr
  have hfacts : t.may = true ∧ ¬ n < -2199023255552 ∧ ¬ 2199023255552 < n ∧ ¬ (r + n < -1099511627776) ∧ ¬ (1099511627776 < r + n) := by
    unfold addOk at hyes
    rw [hrr] at hyes
    simp at hyes
    refine ⟨hyes.1.1.1.1, ?_⟩
    omega
  obtain ⟨hmay, hn1, hn2, hs1, hs2⟩ := hfacts
  have HMAY := Lib.hid hmay
  have hsw : (Lit.int .i64 (r + n)).wf = true := wf_small (by omega) (by omega)
  obtain ⟨v, hv⟩ : ∃ v, r + n = v := ⟨_, rfl⟩
  rw [hv] at hsw hs1 hs2
  have hnz : v ≠ 0 := by rw [← hv, ← hrr]; exact hzero
  have hnzb : (v == 0) = false := by simpa using hnz
  have HADD := Lib.hid (show addL L t n = setL t v L by unfold addL; rw [if_pos hyes, hrr, hv])
  clear K h hmay hyes hzero
  go_enter Try.func12, Try.ntmps12
  go_wp2_with fail
  refine (may_b _ HMAY.out).mono ?_
  rintro e w1 ⟨rfl, hb⟩
  have HB1 := below_after HB hb HB.size
  have KX1 := KX.on hb
  have KC1 := KC.on hb
  have hM1 := hM.on hb
  clear KX KC hM hb HB
  have hl : ∀ q, (Instr.lookup 24 (.map (some b)) (.agg #[.int .i64 t.e, .int .i64 t.l]) false).run Try.prog (w1.drewN q) = .ok (.int .i64 r) (w1.drewN q) := fun q => by
    have := (hM1.drewN q).look ht
    rw [hrr] at this
    exact this
  have cx := KX1.c
  have cc := KC1.c
  have HKX := Lib.hid KX1
  have HKC := Lib.hid KC1
  have HM1 := Lib.hid hM1
  have HBB1 := Lib.hid HB1
  clear KX1 KC1 hM1 HB1
  have hen : ∀ w, (binOp .eql 24 (.map (some b)) (.map none)).run Try.prog w = .ok (.bool false) w := fun w => run_eql_map_nil w _ _ _ (some b) Try.underlying24
  go_wp2_with fail
  go_quiet (fail)
  generalize hW : World.drewN w1 _ = w3
  have HB3 : Below w.heap.size w w3 := by rw [← hW]; exact below_drewN HBB1.out _
  have KX3 : Blk w3 w.heap.size 33 #[.int .i64 t.e, .int .i64 t.l] := by rw [← hW]; exact HKX.out
  have KC3 : Blk w3 g 26 #[.map (some b)] := by rw [← hW]; exact HKC.out
  have cc3 := KC3.c
  have fc3 := KC3.f
  have cx3 := KX3.c
  have HMT := Lib.hid (show MapT w3 b N L from HMT0.out.touch (gs := []) (Touch.of_below HB3 (Nat.le_refl _)) (by simp))
  have HG := Lib.hid KC3
  have HX := Lib.hid KX3
  have HTC := Lib.hid (show Touch [g, b] w w3 from Touch.of_below HB3 (Nat.le_refl _))
  have HBG := Lib.hid (show ∀ b', some b = some b' → some b = some b' ∨ w.heap.size ≤ b' from fun b' h => .inl h)
  clear hW hl cc cx KC3 KX3 HB3
  go_wp2_with fail
  obtain ⟨w8, D, hoD, hrep, hrun8, ho8, hg8, hz8⟩ := MapT.store (w := w3.drew) (b := b) (N := N) (L := L) (HMT.out.touch (gs := []) (Touch.refl [] w3).drew (by simp)) (by unfold maxLen; omega) ht hsw
  have T8 := Touch.grown hg8
  have HG8 := (HG.out.drewN 1).touch T8 (by simpa using hgb)
  have HX8 := (HX.out.drewN 1).touch T8 (by simpa using hxb)
  have HD := Lib.hid hrep
  have HOD := Lib.hid hoD
  have HO8 := Lib.hid ho8
  have HT8 := Lib.hid (HTC.out.trans (((Touch.refl [g, b] w3).drew).trans (T8.more (by simp))))
  have cg := HG.out.c 0
  have cg8 := HG8.c 0
  have cx8 := HX8.c
  have cxM := HX.out.c
  simp only [List.getElem?_toArray, List.getElem?_cons_zero] at cg cg8
  have HGG := Lib.hid HG8
  have HXX := Lib.hid HX8
  clear hrep hoD ho8 hg8 T8 HG8 HX8 hz8
  refine wp_region_held_drew (S := (fun W => W.cell? ⟨g, 0, none⟩ = some (.map (some b)) ∧ (∀ i, W.cell? ⟨w.heap.size, i, none⟩ = (#[.int .i64 t.e, .int .i64 t.l] : Array Value)[i]?))) (by kernel_rfl) (⟨cg, cxM⟩) (fun hHeld => ?_)
  refine wpAnyH_take (i := 0) (v := ?_) rfl (by kernel_rfl) (by kernel_rfl) (by kernel_rfl) (fun _ _ _ h => h) (Or.inl ⟨by rfl, ?_⟩) hHeld ?_
  rotate_left
  · intro W hS
    try dsimp only at hS
    go_simp
    try with_reducible rfl
  try simp only [List.getElem_toArray, List.getElem_cons_succ, List.getElem_cons_zero, Act.put, List.setIfInBounds_toArray, List.set_cons_zero, List.set_cons_succ]
  refine wpAnyH_take (i := 1) (v := ?_) rfl (by kernel_rfl) (by kernel_rfl) (by kernel_rfl) (fun _ _ _ h => h) (Or.inl ⟨by rfl, ?_⟩) hHeld ?_
  rotate_left
  · intro W hS
    try dsimp only at hS
    go_simp
    try with_reducible rfl
  try simp only [List.getElem_toArray, List.getElem_cons_succ, List.getElem_cons_zero, Act.put, List.setIfInBounds_toArray, List.set_cons_zero, List.set_cons_succ]
  refine wpAnyH_take (i := 2) (v := ?_) rfl (by kernel_rfl) (by kernel_rfl) (by kernel_rfl) (fun _ _ _ h => h) (Or.inl ⟨by rfl, ?_⟩) hHeld ?_
  rotate_left
  · intro W hS
    try dsimp only at hS
    go_simp
    try with_reducible rfl
  try simp only [List.getElem_toArray, List.getElem_cons_succ, List.getElem_cons_zero, Act.put, List.setIfInBounds_toArray, List.set_cons_zero, List.set_cons_succ]
  refine wpAnyH_take (i := 3) (v := ?_) rfl (by kernel_rfl) (by kernel_rfl) (by kernel_rfl) (fun _ _ _ h => h) (Or.inl ⟨by rfl, ?_⟩) hHeld ?_
  rotate_left
  · intro W hS
    try dsimp only at hS
    go_simp
    try with_reducible rfl
  try simp only [List.getElem_toArray, List.getElem_cons_succ, List.getElem_cons_zero, Act.put, List.setIfInBounds_toArray, List.set_cons_zero, List.set_cons_succ]
  refine wpAnyH_take (i := 4) (v := ?_) rfl (by kernel_rfl) (by kernel_rfl) (by kernel_rfl) (fun _ _ _ h => h) (Or.inl ⟨by rfl, ?_⟩) hHeld ?_
  rotate_left
  · intro W hS
    try dsimp only at hS
    go_simp
    try with_reducible rfl
  try simp only [List.getElem_toArray, List.getElem_cons_succ, List.getElem_cons_zero, Act.put, List.setIfInBounds_toArray, List.set_cons_zero, List.set_cons_succ]
  refine wpAnyH_take (i := 5) (v := ?_) rfl (by kernel_rfl) (by kernel_rfl) (by kernel_rfl) (fun _ _ _ h => h) (Or.inl ⟨by rfl, ?_⟩) hHeld ?_
  rotate_left
  · intro W hS
    try dsimp only at hS
    go_simp
    try with_reducible rfl
  try simp only [List.getElem_toArray, List.getElem_cons_succ, List.getElem_cons_zero, Act.put, List.setIfInBounds_toArray, List.set_cons_zero, List.set_cons_succ]
  refine wpAnyH_ready (rs := [6]) (by kernel_rfl) (by simp) ?_
  refine AllReadyH.cons rfl (fun K hK => ?_) AllReadyH.nil
  go_simp
  refine hK.out _ _ (⟨cg8, cx8⟩) (fun hHeld => ?_)
  clear hK K
  try simp only [List.getElem_toArray, List.getElem_cons_succ, List.getElem_cons_zero, Act.put, List.setIfInBounds_toArray, List.set_cons_zero, List.set_cons_succ]
  refine wpAnyH_done (by kernel_rfl) ?_ _
  go_wp2_with fail
  go_ret
  exact ⟨rfl, some b, HGG.out, .inr ⟨b, rfl, _, HO8.out, by rw [HADD.out]; exact HD.out.put HOD.out.isMap hc ht hnz⟩, HT8.out, HBG.out⟩

set_option maxRecDepth 100000 in
set_option maxHeartbeats 4000000 in
theorem add_yes_some_zero {g N : Nat} {m : Option Nat} {L : Cnt} {t : Tm} {n : Int} (w : World) (K : Blk w g 26 #[.map m]) (h : MV w m N L) (hbnd : Bnd L) (hc : Canon L) (ht : t.ok) (hN : N ≤ 1000000) (hyes : addOk L t n = true) (hm0 : m ≠ none) (hzero : (ofL L t + n = 0)) :
    Calls Try.prog 12 #[.pointer (some ⟨g, 0, none⟩), tmv t, .int .i64 n] w fun e w' => e = .returned (.bool true) ∧ ∃ m', Blk w' g 26 #[.map m'] ∧ MV w' m' (N + 1) (addL L t n) ∧ Touch (g :: m'.toList) w w' ∧ ∀ b, m' = some b → m = some b ∨ w.heap.size ≤ b := by
  have KX := Blk.new w 33 #[.int .i64 t.e, .int .i64 t.l]
  have KC := K.alloc (.cells #[.int .i64 t.e, .int .i64 t.l] 33)
  have HB := (Below.refl w.heap.size w).alloc (Nat.le_refl _) (.cells #[.int .i64 t.e, .int .i64 t.l] 33)
  have hM := h.on HB
  obtain ⟨b, rfl, hMT⟩ : ∃ b, m = some b ∧ MapT w b N L := by
    rcases h with ⟨rfl, _⟩ | ⟨b, rfl, hm⟩
    · exact absurd rfl hm0
    · exact ⟨b, rfl, hm⟩
  have HMT0 := Lib.hid hMT
  have hlt := hMT.lt
  have hgb : g ≠ b := by
    rintro rfl
    obtain ⟨D, ⟨es, cl, hb, _⟩, _⟩ := hMT
    have := K
    unfold Blk at this
    rw [hb] at this; cases this
  have hxb : w.heap.size ≠ b := by omega
  clear hMT
  have hzg := K.lt
  have hr := hbnd t
  obtain ⟨r, hrr⟩ : ∃ r, ofL L t = r := ⟨_, rfl⟩
  rw [hrr] at hr
  obtain ⟨hr1, hr2⟩ := hr
  have hfacts : t.may = true ∧ ¬ n < -2199023255552 ∧ ¬ 2199023255552 < n ∧ ¬ (r + n < -1099511627776) ∧ ¬ (1099511627776 < r + n) := by
    unfold addOk at hyes
    rw [hrr] at hyes
    simp at hyes
    refine ⟨hyes.1.1.1.1, ?_⟩
    omega
  obtain ⟨hmay, hn1, hn2, hs1, hs2⟩ := hfacts
  have HMAY := Lib.hid hmay
  have hsw : (Lit.int .i64 (r + n)).wf = true := wf_small (by omega) (by omega)
  have hv : r + n = 0 := by rw [← hrr]; exact hzero
  rw [hv] at hsw hs1 hs2
  have HADD := Lib.hid (show addL L t n = setL t 0 L by unfold addL; rw [if_pos hyes, hrr, hv])
  clear K h hmay hyes hzero
  go_enter Try.func12, Try.ntmps12
  go_wp2_with fail
  refine (may_b _ HMAY.out).mono ?_
  rintro e w1 ⟨rfl, hb⟩
  have HB1 := below_after HB hb HB.size
  have KX1 := KX.on hb
  have KC1 := KC.on hb
  have hM1 := hM.on hb
  clear KX KC hM hb HB
  have hl : ∀ q, (Instr.lookup 24 (.map (some b)) (.agg #[.int .i64 t.e, .int .i64 t.l]) false).run Try.prog (w1.drewN q) = .ok (.int .i64 r) (w1.drewN q) := fun q => by
    have := (hM1.drewN q).look ht
    rw [hrr] at this
    exact this
  have cx := KX1.c
  have cc := KC1.c
  have HKX := Lib.hid KX1
  have HKC := Lib.hid KC1
  have HM1 := Lib.hid hM1
  have HBB1 := Lib.hid HB1
  clear KX1 KC1 hM1 HB1
  have hen : ∀ w, (binOp .eql 24 (.map (some b)) (.map none)).run Try.prog w = .ok (.bool false) w := fun w => run_eql_map_nil w _ _ _ (some b) Try.underlying24
  go_wp2_with fail
  go_quiet (fail)
  generalize hW : World.drewN w1 _ = w3
  have HB3 : Below w.heap.size w w3 := by rw [← hW]; exact below_drewN HBB1.out _
  have KX3 : Blk w3 w.heap.size 33 #[.int .i64 t.e, .int .i64 t.l] := by rw [← hW]; exact HKX.out
  have KC3 : Blk w3 g 26 #[.map (some b)] := by rw [← hW]; exact HKC.out
  have cc3 := KC3.c
  have fc3 := KC3.f
  have cx3 := KX3.c
  have HMT := Lib.hid (show MapT w3 b N L from HMT0.out.touch (gs := []) (Touch.of_below HB3 (Nat.le_refl _)) (by simp))
  have HG := Lib.hid KC3
  have HX := Lib.hid KX3
  have HTC := Lib.hid (show Touch [g, b] w w3 from Touch.of_below HB3 (Nat.le_refl _))
  have HBG := Lib.hid (show ∀ b', some b = some b' → some b = some b' ∨ w.heap.size ≤ b' from fun b' h => .inl h)
  clear hW hl cc cx KC3 KX3 HB3
  go_wp2_with fail
  obtain ⟨w8, D, hoD, hrep, hrun8, ho8, hg8, hz8⟩ := MapT.store (w := w3.drew) (b := b) (N := N) (L := L) (HMT.out.touch (gs := []) (Touch.refl [] w3).drew (by simp)) (by unfold maxLen; omega) ht hsw
  have T8 := Touch.grown hg8
  have HG8 := (HG.out.drewN 1).touch T8 (by simpa using hgb)
  have HX8 := (HX.out.drewN 1).touch T8 (by simpa using hxb)
  have HD := Lib.hid hrep
  have HOD := Lib.hid hoD
  have HO8 := Lib.hid ho8
  have HT8 := Lib.hid (HTC.out.trans (((Touch.refl [g, b] w3).drew).trans (T8.more (by simp))))
  have cg := HG.out.c 0
  have cg8 := HG8.c 0
  have cx8 := HX8.c
  have cxM := HX.out.c
  simp only [List.getElem?_toArray, List.getElem?_cons_zero] at cg cg8
  have HGG := Lib.hid HG8
  have HXX := Lib.hid HX8
  clear hrep hoD ho8 hg8 T8 HG8 HX8 hz8
  refine wp_region_held_drew (S := (fun W => W.cell? ⟨g, 0, none⟩ = some (.map (some b)) ∧ (∀ i, W.cell? ⟨w.heap.size, i, none⟩ = (#[.int .i64 t.e, .int .i64 t.l] : Array Value)[i]?))) (by kernel_rfl) (⟨cg, cxM⟩) (fun hHeld => ?_)
  refine wpAnyH_take (i := 0) (v := ?_) rfl (by kernel_rfl) (by kernel_rfl) (by kernel_rfl) (fun _ _ _ h => h) (Or.inl ⟨by rfl, ?_⟩) hHeld ?_
  rotate_left
  · intro W hS
    try dsimp only at hS
    go_simp
    try with_reducible rfl
  try simp only [List.getElem_toArray, List.getElem_cons_succ, List.getElem_cons_zero, Act.put, List.setIfInBounds_toArray, List.set_cons_zero, List.set_cons_succ]
  refine wpAnyH_take (i := 1) (v := ?_) rfl (by kernel_rfl) (by kernel_rfl) (by kernel_rfl) (fun _ _ _ h => h) (Or.inl ⟨by rfl, ?_⟩) hHeld ?_
  rotate_left
  · intro W hS
    try dsimp only at hS
    go_simp
    try with_reducible rfl
  try simp only [List.getElem_toArray, List.getElem_cons_succ, List.getElem_cons_zero, Act.put, List.setIfInBounds_toArray, List.set_cons_zero, List.set_cons_succ]
  refine wpAnyH_take (i := 2) (v := ?_) rfl (by kernel_rfl) (by kernel_rfl) (by kernel_rfl) (fun _ _ _ h => h) (Or.inl ⟨by rfl, ?_⟩) hHeld ?_
  rotate_left
  · intro W hS
    try dsimp only at hS
    go_simp
    try with_reducible rfl
  try simp only [List.getElem_toArray, List.getElem_cons_succ, List.getElem_cons_zero, Act.put, List.setIfInBounds_toArray, List.set_cons_zero, List.set_cons_succ]
  refine wpAnyH_take (i := 3) (v := ?_) rfl (by kernel_rfl) (by kernel_rfl) (by kernel_rfl) (fun _ _ _ h => h) (Or.inl ⟨by rfl, ?_⟩) hHeld ?_
  rotate_left
  · intro W hS
    try dsimp only at hS
    go_simp
    try with_reducible rfl
  try simp only [List.getElem_toArray, List.getElem_cons_succ, List.getElem_cons_zero, Act.put, List.setIfInBounds_toArray, List.set_cons_zero, List.set_cons_succ]
  refine wpAnyH_take (i := 4) (v := ?_) rfl (by kernel_rfl) (by kernel_rfl) (by kernel_rfl) (fun _ _ _ h => h) (Or.inl ⟨by rfl, ?_⟩) hHeld ?_
  rotate_left
  · intro W hS
    try dsimp only at hS
    go_simp
    try with_reducible rfl
  try simp only [List.getElem_toArray, List.getElem_cons_succ, List.getElem_cons_zero, Act.put, List.setIfInBounds_toArray, List.set_cons_zero, List.set_cons_succ]
  refine wpAnyH_take (i := 5) (v := ?_) rfl (by kernel_rfl) (by kernel_rfl) (by kernel_rfl) (fun _ _ _ h => h) (Or.inl ⟨by rfl, ?_⟩) hHeld ?_
  rotate_left
  · intro W hS
    try dsimp only at hS
    go_simp
    try with_reducible rfl
  try simp only [List.getElem_toArray, List.getElem_cons_succ, List.getElem_cons_zero, Act.put, List.setIfInBounds_toArray, List.set_cons_zero, List.set_cons_succ]
  refine wpAnyH_ready (rs := [6]) (by kernel_rfl) (by simp) ?_
  refine AllReadyH.cons rfl (fun K hK => ?_) AllReadyH.nil
  go_simp
  refine hK.out _ _ (⟨cg8, cx8⟩) (fun hHeld => ?_)
  clear hK K
  try simp only [List.getElem_toArray, List.getElem_cons_succ, List.getElem_cons_zero, Act.put, List.setIfInBounds_toArray, List.set_cons_zero, List.set_cons_succ]
  refine wpAnyH_done (by kernel_rfl) ?_ _
  obtain ⟨w10, hrun10, ho10, hg10⟩ := OwnsT.del (w := w8.drew) (b := b) (N := N + 1) HO8.out ht 0
  have T10 := Touch.grown hg10
  have HG10 := (HGG.out.drewN 1).touch T10 (by simpa using hgb)
  have HX10 := (HXX.out.drewN 1).touch T10 (by simpa using hxb)
  have HO10 := Lib.hid ho10
  have HT10 := Lib.hid (HT8.out.trans (((Touch.refl [g, b] w8).drew).trans (T10.more (by simp))))
  have cg10 := HG10.c 0
  have cx10 := HX10.c
  simp only [List.getElem?_toArray, List.getElem?_cons_zero] at cg10
  have HGH := Lib.hid HG10
  clear ho10 hg10 T10 HG10 HX10 hrun8
  go_wp2_with fail
  refine wp_region_held_drew (S := (fun W => W.cell? ⟨g, 0, none⟩ = some (.map (some b)) ∧ (∀ i, W.cell? ⟨w.heap.size, i, none⟩ = (#[.int .i64 t.e, .int .i64 t.l] : Array Value)[i]?))) (by kernel_rfl) (⟨cg8, cx8⟩) (fun hHeld => ?_)
  refine wpAnyH_take (i := 0) (v := ?_) rfl (by kernel_rfl) (by kernel_rfl) (by kernel_rfl) (fun _ _ _ h => h) (Or.inl ⟨by rfl, ?_⟩) hHeld ?_
  rotate_left
  · intro W hS
    try dsimp only at hS
    go_simp
    try with_reducible rfl
  try simp only [List.getElem_toArray, List.getElem_cons_succ, List.getElem_cons_zero, Act.put, List.setIfInBounds_toArray, List.set_cons_zero, List.set_cons_succ]
  refine wpAnyH_take (i := 1) (v := ?_) rfl (by kernel_rfl) (by kernel_rfl) (by kernel_rfl) (fun _ _ _ h => h) (Or.inl ⟨by rfl, ?_⟩) hHeld ?_
  rotate_left
  · intro W hS
    try dsimp only at hS
    go_simp
    try with_reducible rfl
  try simp only [List.getElem_toArray, List.getElem_cons_succ, List.getElem_cons_zero, Act.put, List.setIfInBounds_toArray, List.set_cons_zero, List.set_cons_succ]
  refine wpAnyH_take (i := 2) (v := ?_) rfl (by kernel_rfl) (by kernel_rfl) (by kernel_rfl) (fun _ _ _ h => h) (Or.inl ⟨by rfl, ?_⟩) hHeld ?_
  rotate_left
  · intro W hS
    try dsimp only at hS
    go_simp
    try with_reducible rfl
  try simp only [List.getElem_toArray, List.getElem_cons_succ, List.getElem_cons_zero, Act.put, List.setIfInBounds_toArray, List.set_cons_zero, List.set_cons_succ]
  refine wpAnyH_take (i := 3) (v := ?_) rfl (by kernel_rfl) (by kernel_rfl) (by kernel_rfl) (fun _ _ _ h => h) (Or.inl ⟨by rfl, ?_⟩) hHeld ?_
  rotate_left
  · intro W hS
    try dsimp only at hS
    go_simp
    try with_reducible rfl
  try simp only [List.getElem_toArray, List.getElem_cons_succ, List.getElem_cons_zero, Act.put, List.setIfInBounds_toArray, List.set_cons_zero, List.set_cons_succ]
  refine wpAnyH_take (i := 4) (v := ?_) rfl (by kernel_rfl) (by kernel_rfl) (by kernel_rfl) (fun _ _ _ h => h) (Or.inl ⟨by rfl, ?_⟩) hHeld ?_
  rotate_left
  · intro W hS
    try dsimp only at hS
    go_simp
    try with_reducible rfl
  try simp only [List.getElem_toArray, List.getElem_cons_succ, List.getElem_cons_zero, Act.put, List.setIfInBounds_toArray, List.set_cons_zero, List.set_cons_succ]
  refine wpAnyH_ready (rs := [5]) (by kernel_rfl) (by simp) ?_
  refine AllReadyH.cons rfl (fun K hK => ?_) AllReadyH.nil
  go_simp
  refine hK.out _ _ (⟨cg10, cx10⟩) (fun hHeld => ?_)
  clear hK K
  try simp only [List.getElem_toArray, List.getElem_cons_succ, List.getElem_cons_zero, Act.put, List.setIfInBounds_toArray, List.set_cons_zero, List.set_cons_succ]
  refine wpAnyH_done (by kernel_rfl) ?_ _
  go_wp2_with fail
  go_ret
  exact ⟨rfl, some b, HGH.out, .inr ⟨b, rfl, _, HO10.out, by rw [HADD.out]; exact HD.out.put_del hc ht⟩, HT10.out, HBG.out⟩

set_option maxRecDepth 100000 in
set_option maxHeartbeats 4000000 in
theorem add_yes_none_more {g N : Nat} {m : Option Nat} {L : Cnt} {t : Tm} {n : Int} (w : World) (K : Blk w g 26 #[.map m]) (h : MV w m N L) (hbnd : Bnd L) (hc : Canon L) (ht : t.ok) (hN : N ≤ 1000000) (hyes : addOk L t n = true) (hm0 : m = none) (hzero : ¬ (ofL L t + n = 0)) :
    Calls Try.prog 12 #[.pointer (some ⟨g, 0, none⟩), tmv t, .int .i64 n] w fun e w' => e = .returned (.bool true) ∧ ∃ m', Blk w' g 26 #[.map m'] ∧ MV w' m' (N + 1) (addL L t n) ∧ Touch (g :: m'.toList) w w' ∧ ∀ b, m' = some b → m = some b ∨ w.heap.size ≤ b := by
  have KX := Blk.new w 33 #[.int .i64 t.e, .int .i64 t.l]
  have KC := K.alloc (.cells #[.int .i64 t.e, .int .i64 t.l] 33)
  have HB := (Below.refl w.heap.size w).alloc (Nat.le_refl _) (.cells #[.int .i64 t.e, .int .i64 t.l] 33)
  have hM := h.on HB
  obtain ⟨rfl, hL⟩ : m = none ∧ L = [] := by
    rcases h with h | ⟨b, rfl, hm⟩
    · exact h
    · cases hm0
  subst hL
  have hmm := @run_makeMap Try.prog
  have hzg := K.lt
  have hr := hbnd t
  obtain ⟨r, hrr⟩ : ∃ r, ofL [] t = r := ⟨_, rfl⟩
  rw [hrr] at hr
  obtain ⟨hr1, hr2⟩ := hr
  have hfacts : t.may = true ∧ ¬ n < -2199023255552 ∧ ¬ 2199023255552 < n ∧ ¬ (r + n < -1099511627776) ∧ ¬ (1099511627776 < r + n) := by
    unfold addOk at hyes
    rw [hrr] at hyes
    simp at hyes
    refine ⟨hyes.1.1.1.1, ?_⟩
    omega
  obtain ⟨hmay, hn1, hn2, hs1, hs2⟩ := hfacts
  have HMAY := Lib.hid hmay
  have hsw : (Lit.int .i64 (r + n)).wf = true := wf_small (by omega) (by omega)
  obtain ⟨v, hv⟩ : ∃ v, r + n = v := ⟨_, rfl⟩
  rw [hv] at hsw hs1 hs2
  have hnz : v ≠ 0 := by rw [← hv, ← hrr]; exact hzero
  have hnzb : (v == 0) = false := by simpa using hnz
  have HADD := Lib.hid (show addL [] t n = setL t v [] by unfold addL; rw [if_pos hyes, hrr, hv])
  clear K h hmay hyes hzero
  go_enter Try.func12, Try.ntmps12
  go_wp2_with fail
  refine (may_b _ HMAY.out).mono ?_
  rintro e w1 ⟨rfl, hb⟩
  have HB1 := below_after HB hb HB.size
  have KX1 := KX.on hb
  have KC1 := KC.on hb
  have hM1 := hM.on hb
  clear KX KC hM hb HB
  have hl : ∀ q, (Instr.lookup 24 (.map none) (.agg #[.int .i64 t.e, .int .i64 t.l]) false).run Try.prog (w1.drewN q) = .ok (.int .i64 r) (w1.drewN q) := fun q => by
    have := (hM1.drewN q).look ht
    rw [hrr] at this
    exact this
  have cx := KX1.c
  have cc := KC1.c
  have HKX := Lib.hid KX1
  have HKC := Lib.hid KC1
  have HM1 := Lib.hid hM1
  have HBB1 := Lib.hid HB1
  clear KX1 KC1 hM1 HB1
  have hen : ∀ w, (binOp .eql 24 (.map none) (.map none)).run Try.prog w = .ok (.bool true) w := fun w => run_eql_map_nil w _ _ _ none Try.underlying24
  go_wp2_with fail
  go_quiet (fail)
  generalize hW : World.drewN w1 _ = w3
  have HB3 : Below w.heap.size w w3 := by rw [← hW]; exact below_drewN HBB1.out _
  have KX3 : Blk w3 w.heap.size 33 #[.int .i64 t.e, .int .i64 t.l] := by rw [← hW]; exact HKX.out
  have KC3 : Blk w3 g 26 #[.map none] := by rw [← hW]; exact HKC.out
  have cc3 := KC3.c
  have fc3 := KC3.f
  have cx3 := KX3.c
  have hz3 := HB3.size
  have hxl := KX3.lt
  obtain ⟨b, hb3⟩ : ∃ b, w3.heap.size = b := ⟨_, rfl⟩
  have hgb : g ≠ b := by omega
  have hxb : w.heap.size ≠ b := by omega
  have KCA := KC3.alloc (.map #[] 0)
  have cA := KCA.c
  have fA := KCA.f
  obtain ⟨wM, hWM⟩ : ∃ wM, (w3.alloc (.map #[] 0)).setCell ⟨g, 0, none⟩ (.map (some b)) = wM := ⟨_, rfl⟩
  have HG := Lib.hid (show Blk wM g 26 #[.map (some b)] by rw [← hWM]; exact KCA.set_ 0 (.map (some b)))
  have HX := Lib.hid (show Blk wM w.heap.size 33 #[.int .i64 t.e, .int .i64 t.l] by rw [← hWM]; exact (KX3.alloc _).far (by simp; omega) _)
  have HMT := Lib.hid (show MapT wM b N [] by
    have h1 : MapT (w3.alloc (.map #[] 0)) b N [] := ⟨_, by have := (World.ownsMap_made (H := Unit) w3 Try.prog 33 (plainElem Try.prog 3)).mono (Nat.zero_le N); rw [hb3] at this; exact this, Rep.nil⟩
    rw [← hWM]
    exact h1.touch ((Touch.refl [g] _).at1 0 _) (by simpa using fun e => hgb e.symm))
  have HTC := Lib.hid (show Touch [g, b] w wM by rw [← hWM]; exact ((Touch.of_below (gs := [g, b]) HB3 (Nat.le_refl _)).alloc _).set_ (p := ⟨g, 0, none⟩) (by simp) _)
  have HBG := Lib.hid (show ∀ b', some b = some b' → (none : Option Nat) = some b' ∨ w.heap.size ≤ b' from fun b' h => by cases h; exact .inr (by omega))
  clear hW hl cc cx KC3 KX3 HB3 KCA
  go_wp2_with fail
  obtain ⟨w8, D, hoD, hrep, hrun8, ho8, hg8, hz8⟩ := MapT.store (w := wM.drew) (b := b) (N := N) (L := []) (HMT.out.touch (gs := []) (Touch.refl [] wM).drew (by simp)) (by unfold maxLen; omega) ht hsw
  have T8 := Touch.grown hg8
  have HG8 := (HG.out.drewN 1).touch T8 (by simpa using hgb)
  have HX8 := (HX.out.drewN 1).touch T8 (by simpa using hxb)
  have HD := Lib.hid hrep
  have HOD := Lib.hid hoD
  have HO8 := Lib.hid ho8
  have HT8 := Lib.hid (HTC.out.trans (((Touch.refl [g, b] wM).drew).trans (T8.more (by simp))))
  have cg := HG.out.c 0
  have cg8 := HG8.c 0
  have cx8 := HX8.c
  have cxM := HX.out.c
  simp only [List.getElem?_toArray, List.getElem?_cons_zero] at cg cg8
  have HGG := Lib.hid HG8
  have HXX := Lib.hid HX8
  clear hrep hoD ho8 hg8 T8 HG8 HX8 hz8
  refine wp_region_held_drew (S := (fun W => W.cell? ⟨g, 0, none⟩ = some (.map (some b)) ∧ (∀ i, W.cell? ⟨w.heap.size, i, none⟩ = (#[.int .i64 t.e, .int .i64 t.l] : Array Value)[i]?))) (by kernel_rfl) (⟨cg, cxM⟩) (fun hHeld => ?_)
  refine wpAnyH_take (i := 0) (v := ?_) rfl (by kernel_rfl) (by kernel_rfl) (by kernel_rfl) (fun _ _ _ h => h) (Or.inl ⟨by rfl, ?_⟩) hHeld ?_
  rotate_left
  · intro W hS
    try dsimp only at hS
    go_simp
    try with_reducible rfl
  try simp only [List.getElem_toArray, List.getElem_cons_succ, List.getElem_cons_zero, Act.put, List.setIfInBounds_toArray, List.set_cons_zero, List.set_cons_succ]
  refine wpAnyH_take (i := 1) (v := ?_) rfl (by kernel_rfl) (by kernel_rfl) (by kernel_rfl) (fun _ _ _ h => h) (Or.inl ⟨by rfl, ?_⟩) hHeld ?_
  rotate_left
  · intro W hS
    try dsimp only at hS
    go_simp
    try with_reducible rfl
  try simp only [List.getElem_toArray, List.getElem_cons_succ, List.getElem_cons_zero, Act.put, List.setIfInBounds_toArray, List.set_cons_zero, List.set_cons_succ]
  refine wpAnyH_take (i := 2) (v := ?_) rfl (by kernel_rfl) (by kernel_rfl) (by kernel_rfl) (fun _ _ _ h => h) (Or.inl ⟨by rfl, ?_⟩) hHeld ?_
  rotate_left
  · intro W hS
    try dsimp only at hS
    go_simp
    try with_reducible rfl
  try simp only [List.getElem_toArray, List.getElem_cons_succ, List.getElem_cons_zero, Act.put, List.setIfInBounds_toArray, List.set_cons_zero, List.set_cons_succ]
  refine wpAnyH_take (i := 3) (v := ?_) rfl (by kernel_rfl) (by kernel_rfl) (by kernel_rfl) (fun _ _ _ h => h) (Or.inl ⟨by rfl, ?_⟩) hHeld ?_
  rotate_left
  · intro W hS
    try dsimp only at hS
    go_simp
    try with_reducible rfl
  try simp only [List.getElem_toArray, List.getElem_cons_succ, List.getElem_cons_zero, Act.put, List.setIfInBounds_toArray, List.set_cons_zero, List.set_cons_succ]
  refine wpAnyH_take (i := 4) (v := ?_) rfl (by kernel_rfl) (by kernel_rfl) (by kernel_rfl) (fun _ _ _ h => h) (Or.inl ⟨by rfl, ?_⟩) hHeld ?_
  rotate_left
  · intro W hS
    try dsimp only at hS
    go_simp
    try with_reducible rfl
  try simp only [List.getElem_toArray, List.getElem_cons_succ, List.getElem_cons_zero, Act.put, List.setIfInBounds_toArray, List.set_cons_zero, List.set_cons_succ]
  refine wpAnyH_take (i := 5) (v := ?_) rfl (by kernel_rfl) (by kernel_rfl) (by kernel_rfl) (fun _ _ _ h => h) (Or.inl ⟨by rfl, ?_⟩) hHeld ?_
  rotate_left
  · intro W hS
    try dsimp only at hS
    go_simp
    try with_reducible rfl
  try simp only [List.getElem_toArray, List.getElem_cons_succ, List.getElem_cons_zero, Act.put, List.setIfInBounds_toArray, List.set_cons_zero, List.set_cons_succ]
  refine wpAnyH_ready (rs := [6]) (by kernel_rfl) (by simp) ?_
  refine AllReadyH.cons rfl (fun K hK => ?_) AllReadyH.nil
  go_simp
  refine hK.out _ _ (⟨cg8, cx8⟩) (fun hHeld => ?_)
  clear hK K
  try simp only [List.getElem_toArray, List.getElem_cons_succ, List.getElem_cons_zero, Act.put, List.setIfInBounds_toArray, List.set_cons_zero, List.set_cons_succ]
  refine wpAnyH_done (by kernel_rfl) ?_ _
  go_wp2_with fail
  go_ret
  exact ⟨rfl, some b, HGG.out, .inr ⟨b, rfl, _, HO8.out, by rw [HADD.out]; exact HD.out.put HOD.out.isMap hc ht hnz⟩, HT8.out, HBG.out⟩

set_option maxRecDepth 100000 in
set_option maxHeartbeats 4000000 in
theorem add_yes_none_zero {g N : Nat} {m : Option Nat} {L : Cnt} {t : Tm} {n : Int} (w : World) (K : Blk w g 26 #[.map m]) (h : MV w m N L) (hbnd : Bnd L) (hc : Canon L) (ht : t.ok) (hN : N ≤ 1000000) (hyes : addOk L t n = true) (hm0 : m = none) (hzero : (ofL L t + n = 0)) :
    Calls Try.prog 12 #[.pointer (some ⟨g, 0, none⟩), tmv t, .int .i64 n] w fun e w' => e = .returned (.bool true) ∧ ∃ m', Blk w' g 26 #[.map m'] ∧ MV w' m' (N + 1) (addL L t n) ∧ Touch (g :: m'.toList) w w' ∧ ∀ b, m' = some b → m = some b ∨ w.heap.size ≤ b := by
  have KX := Blk.new w 33 #[.int .i64 t.e, .int .i64 t.l]
  have KC := K.alloc (.cells #[.int .i64 t.e, .int .i64 t.l] 33)
  have HB := (Below.refl w.heap.size w).alloc (Nat.le_refl _) (.cells #[.int .i64 t.e, .int .i64 t.l] 33)
  have hM := h.on HB
  obtain ⟨rfl, hL⟩ : m = none ∧ L = [] := by
    rcases h with h | ⟨b, rfl, hm⟩
    · exact h
    · cases hm0
  subst hL
  have hmm := @run_makeMap Try.prog
  have hzg := K.lt
  have hr := hbnd t
  obtain ⟨r, hrr⟩ : ∃ r, ofL [] t = r := ⟨_, rfl⟩
  rw [hrr] at hr
  obtain ⟨hr1, hr2⟩ := hr
  have hfacts : t.may = true ∧ ¬ n < -2199023255552 ∧ ¬ 2199023255552 < n ∧ ¬ (r + n < -1099511627776) ∧ ¬ (1099511627776 < r + n) := by
    unfold addOk at hyes
    rw [hrr] at hyes
    simp at hyes
    refine ⟨hyes.1.1.1.1, ?_⟩
    omega
  obtain ⟨hmay, hn1, hn2, hs1, hs2⟩ := hfacts
  have HMAY := Lib.hid hmay
  have hsw : (Lit.int .i64 (r + n)).wf = true := wf_small (by omega) (by omega)
  have hv : r + n = 0 := by rw [← hrr]; exact hzero
  rw [hv] at hsw hs1 hs2
  have HADD := Lib.hid (show addL [] t n = setL t 0 [] by unfold addL; rw [if_pos hyes, hrr, hv])
  clear K h hmay hyes hzero
  go_enter Try.func12, Try.ntmps12
  go_wp2_with fail
  refine (may_b _ HMAY.out).mono ?_
  rintro e w1 ⟨rfl, hb⟩
  have HB1 := below_after HB hb HB.size
  have KX1 := KX.on hb
  have KC1 := KC.on hb
  have hM1 := hM.on hb
  clear KX KC hM hb HB
  have hl : ∀ q, (Instr.lookup 24 (.map none) (.agg #[.int .i64 t.e, .int .i64 t.l]) false).run Try.prog (w1.drewN q) = .ok (.int .i64 r) (w1.drewN q) := fun q => by
    have := (hM1.drewN q).look ht
    rw [hrr] at this
    exact this
  have cx := KX1.c
  have cc := KC1.c
  have HKX := Lib.hid KX1
  have HKC := Lib.hid KC1
  have HM1 := Lib.hid hM1
  have HBB1 := Lib.hid HB1
  clear KX1 KC1 hM1 HB1
  have hen : ∀ w, (binOp .eql 24 (.map none) (.map none)).run Try.prog w = .ok (.bool true) w := fun w => run_eql_map_nil w _ _ _ none Try.underlying24
  go_wp2_with fail
  go_quiet (fail)
  generalize hW : World.drewN w1 _ = w3
  have HB3 : Below w.heap.size w w3 := by rw [← hW]; exact below_drewN HBB1.out _
  have KX3 : Blk w3 w.heap.size 33 #[.int .i64 t.e, .int .i64 t.l] := by rw [← hW]; exact HKX.out
  have KC3 : Blk w3 g 26 #[.map none] := by rw [← hW]; exact HKC.out
  have cc3 := KC3.c
  have fc3 := KC3.f
  have cx3 := KX3.c
  have hz3 := HB3.size
  have hxl := KX3.lt
  obtain ⟨b, hb3⟩ : ∃ b, w3.heap.size = b := ⟨_, rfl⟩
  have hgb : g ≠ b := by omega
  have hxb : w.heap.size ≠ b := by omega
  have KCA := KC3.alloc (.map #[] 0)
  have cA := KCA.c
  have fA := KCA.f
  obtain ⟨wM, hWM⟩ : ∃ wM, (w3.alloc (.map #[] 0)).setCell ⟨g, 0, none⟩ (.map (some b)) = wM := ⟨_, rfl⟩
  have HG := Lib.hid (show Blk wM g 26 #[.map (some b)] by rw [← hWM]; exact KCA.set_ 0 (.map (some b)))
  have HX := Lib.hid (show Blk wM w.heap.size 33 #[.int .i64 t.e, .int .i64 t.l] by rw [← hWM]; exact (KX3.alloc _).far (by simp; omega) _)
  have HMT := Lib.hid (show MapT wM b N [] by
    have h1 : MapT (w3.alloc (.map #[] 0)) b N [] := ⟨_, by have := (World.ownsMap_made (H := Unit) w3 Try.prog 33 (plainElem Try.prog 3)).mono (Nat.zero_le N); rw [hb3] at this; exact this, Rep.nil⟩
    rw [← hWM]
    exact h1.touch ((Touch.refl [g] _).at1 0 _) (by simpa using fun e => hgb e.symm))
  have HTC := Lib.hid (show Touch [g, b] w wM by rw [← hWM]; exact ((Touch.of_below (gs := [g, b]) HB3 (Nat.le_refl _)).alloc _).set_ (p := ⟨g, 0, none⟩) (by simp) _)
  have HBG := Lib.hid (show ∀ b', some b = some b' → (none : Option Nat) = some b' ∨ w.heap.size ≤ b' from fun b' h => by cases h; exact .inr (by omega))
  clear hW hl cc cx KC3 KX3 HB3 KCA
  go_wp2_with fail
  obtain ⟨w8, D, hoD, hrep, hrun8, ho8, hg8, hz8⟩ := MapT.store (w := wM.drew) (b := b) (N := N) (L := []) (HMT.out.touch (gs := []) (Touch.refl [] wM).drew (by simp)) (by unfold maxLen; omega) ht hsw
  have T8 := Touch.grown hg8
  have HG8 := (HG.out.drewN 1).touch T8 (by simpa using hgb)
  have HX8 := (HX.out.drewN 1).touch T8 (by simpa using hxb)
  have HD := Lib.hid hrep
  have HOD := Lib.hid hoD
  have HO8 := Lib.hid ho8
  have HT8 := Lib.hid (HTC.out.trans (((Touch.refl [g, b] wM).drew).trans (T8.more (by simp))))
  have cg := HG.out.c 0
  have cg8 := HG8.c 0
  have cx8 := HX8.c
  have cxM := HX.out.c
  simp only [List.getElem?_toArray, List.getElem?_cons_zero] at cg cg8
  have HGG := Lib.hid HG8
  have HXX := Lib.hid HX8
  clear hrep hoD ho8 hg8 T8 HG8 HX8 hz8
  refine wp_region_held_drew (S := (fun W => W.cell? ⟨g, 0, none⟩ = some (.map (some b)) ∧ (∀ i, W.cell? ⟨w.heap.size, i, none⟩ = (#[.int .i64 t.e, .int .i64 t.l] : Array Value)[i]?))) (by kernel_rfl) (⟨cg, cxM⟩) (fun hHeld => ?_)
  refine wpAnyH_take (i := 0) (v := ?_) rfl (by kernel_rfl) (by kernel_rfl) (by kernel_rfl) (fun _ _ _ h => h) (Or.inl ⟨by rfl, ?_⟩) hHeld ?_
  rotate_left
  · intro W hS
    try dsimp only at hS
    go_simp
    try with_reducible rfl
  try simp only [List.getElem_toArray, List.getElem_cons_succ, List.getElem_cons_zero, Act.put, List.setIfInBounds_toArray, List.set_cons_zero, List.set_cons_succ]
  refine wpAnyH_take (i := 1) (v := ?_) rfl (by kernel_rfl) (by kernel_rfl) (by kernel_rfl) (fun _ _ _ h => h) (Or.inl ⟨by rfl, ?_⟩) hHeld ?_
  rotate_left
  · intro W hS
    try dsimp only at hS
    go_simp
    try with_reducible rfl
  try simp only [List.getElem_toArray, List.getElem_cons_succ, List.getElem_cons_zero, Act.put, List.setIfInBounds_toArray, List.set_cons_zero, List.set_cons_succ]
  refine wpAnyH_take (i := 2) (v := ?_) rfl (by kernel_rfl) (by kernel_rfl) (by kernel_rfl) (fun _ _ _ h => h) (Or.inl ⟨by rfl, ?_⟩) hHeld ?_
  rotate_left
  · intro W hS
    try dsimp only at hS
    go_simp
    try with_reducible rfl
  try simp only [List.getElem_toArray, List.getElem_cons_succ, List.getElem_cons_zero, Act.put, List.setIfInBounds_toArray, List.set_cons_zero, List.set_cons_succ]
  refine wpAnyH_take (i := 3) (v := ?_) rfl (by kernel_rfl) (by kernel_rfl) (by kernel_rfl) (fun _ _ _ h => h) (Or.inl ⟨by rfl, ?_⟩) hHeld ?_
  rotate_left
  · intro W hS
    try dsimp only at hS
    go_simp
    try with_reducible rfl
  try simp only [List.getElem_toArray, List.getElem_cons_succ, List.getElem_cons_zero, Act.put, List.setIfInBounds_toArray, List.set_cons_zero, List.set_cons_succ]
  refine wpAnyH_take (i := 4) (v := ?_) rfl (by kernel_rfl) (by kernel_rfl) (by kernel_rfl) (fun _ _ _ h => h) (Or.inl ⟨by rfl, ?_⟩) hHeld ?_
  rotate_left
  · intro W hS
    try dsimp only at hS
    go_simp
    try with_reducible rfl
  try simp only [List.getElem_toArray, List.getElem_cons_succ, List.getElem_cons_zero, Act.put, List.setIfInBounds_toArray, List.set_cons_zero, List.set_cons_succ]
  refine wpAnyH_take (i := 5) (v := ?_) rfl (by kernel_rfl) (by kernel_rfl) (by kernel_rfl) (fun _ _ _ h => h) (Or.inl ⟨by rfl, ?_⟩) hHeld ?_
  rotate_left
  · intro W hS
    try dsimp only at hS
    go_simp
    try with_reducible rfl
  try simp only [List.getElem_toArray, List.getElem_cons_succ, List.getElem_cons_zero, Act.put, List.setIfInBounds_toArray, List.set_cons_zero, List.set_cons_succ]
  refine wpAnyH_ready (rs := [6]) (by kernel_rfl) (by simp) ?_
  refine AllReadyH.cons rfl (fun K hK => ?_) AllReadyH.nil
  go_simp
  refine hK.out _ _ (⟨cg8, cx8⟩) (fun hHeld => ?_)
  clear hK K
  try simp only [List.getElem_toArray, List.getElem_cons_succ, List.getElem_cons_zero, Act.put, List.setIfInBounds_toArray, List.set_cons_zero, List.set_cons_succ]
  refine wpAnyH_done (by kernel_rfl) ?_ _
  obtain ⟨w10, hrun10, ho10, hg10⟩ := OwnsT.del (w := w8.drew) (b := b) (N := N + 1) HO8.out ht 0
  have T10 := Touch.grown hg10
  have HG10 := (HGG.out.drewN 1).touch T10 (by simpa using hgb)
  have HX10 := (HXX.out.drewN 1).touch T10 (by simpa using hxb)
  have HO10 := Lib.hid ho10
  have HT10 := Lib.hid (HT8.out.trans (((Touch.refl [g, b] w8).drew).trans (T10.more (by simp))))
  have cg10 := HG10.c 0
  have cx10 := HX10.c
  simp only [List.getElem?_toArray, List.getElem?_cons_zero] at cg10
  have HGH := Lib.hid HG10
  clear ho10 hg10 T10 HG10 HX10 hrun8
  go_wp2_with fail
  refine wp_region_held_drew (S := (fun W => W.cell? ⟨g, 0, none⟩ = some (.map (some b)) ∧ (∀ i, W.cell? ⟨w.heap.size, i, none⟩ = (#[.int .i64 t.e, .int .i64 t.l] : Array Value)[i]?))) (by kernel_rfl) (⟨cg8, cx8⟩) (fun hHeld => ?_)
  refine wpAnyH_take (i := 0) (v := ?_) rfl (by kernel_rfl) (by kernel_rfl) (by kernel_rfl) (fun _ _ _ h => h) (Or.inl ⟨by rfl, ?_⟩) hHeld ?_
  rotate_left
  · intro W hS
    try dsimp only at hS
    go_simp
    try with_reducible rfl
  try simp only [List.getElem_toArray, List.getElem_cons_succ, List.getElem_cons_zero, Act.put, List.setIfInBounds_toArray, List.set_cons_zero, List.set_cons_succ]
  refine wpAnyH_take (i := 1) (v := ?_) rfl (by kernel_rfl) (by kernel_rfl) (by kernel_rfl) (fun _ _ _ h => h) (Or.inl ⟨by rfl, ?_⟩) hHeld ?_
  rotate_left
  · intro W hS
    try dsimp only at hS
    go_simp
    try with_reducible rfl
  try simp only [List.getElem_toArray, List.getElem_cons_succ, List.getElem_cons_zero, Act.put, List.setIfInBounds_toArray, List.set_cons_zero, List.set_cons_succ]
  refine wpAnyH_take (i := 2) (v := ?_) rfl (by kernel_rfl) (by kernel_rfl) (by kernel_rfl) (fun _ _ _ h => h) (Or.inl ⟨by rfl, ?_⟩) hHeld ?_
  rotate_left
  · intro W hS
    try dsimp only at hS
    go_simp
    try with_reducible rfl
  try simp only [List.getElem_toArray, List.getElem_cons_succ, List.getElem_cons_zero, Act.put, List.setIfInBounds_toArray, List.set_cons_zero, List.set_cons_succ]
  refine wpAnyH_take (i := 3) (v := ?_) rfl (by kernel_rfl) (by kernel_rfl) (by kernel_rfl) (fun _ _ _ h => h) (Or.inl ⟨by rfl, ?_⟩) hHeld ?_
  rotate_left
  · intro W hS
    try dsimp only at hS
    go_simp
    try with_reducible rfl
  try simp only [List.getElem_toArray, List.getElem_cons_succ, List.getElem_cons_zero, Act.put, List.setIfInBounds_toArray, List.set_cons_zero, List.set_cons_succ]
  refine wpAnyH_take (i := 4) (v := ?_) rfl (by kernel_rfl) (by kernel_rfl) (by kernel_rfl) (fun _ _ _ h => h) (Or.inl ⟨by rfl, ?_⟩) hHeld ?_
  rotate_left
  · intro W hS
    try dsimp only at hS
    go_simp
    try with_reducible rfl
  try simp only [List.getElem_toArray, List.getElem_cons_succ, List.getElem_cons_zero, Act.put, List.setIfInBounds_toArray, List.set_cons_zero, List.set_cons_succ]
  refine wpAnyH_ready (rs := [5]) (by kernel_rfl) (by simp) ?_
  refine AllReadyH.cons rfl (fun K hK => ?_) AllReadyH.nil
  go_simp
  refine hK.out _ _ (⟨cg10, cx10⟩) (fun hHeld => ?_)
  clear hK K
  try simp only [List.getElem_toArray, List.getElem_cons_succ, List.getElem_cons_zero, Act.put, List.setIfInBounds_toArray, List.set_cons_zero, List.set_cons_succ]
  refine wpAnyH_done (by kernel_rfl) ?_ _
  go_wp2_with fail
  go_ret
  exact ⟨rfl, some b, HGH.out, .inr ⟨b, rfl, _, HO10.out, by rw [HADD.out]; exact HD.out.put_del hc ht⟩, HT10.out, HBG.out⟩

/-- Whether or not it is taken. -/
theorem add_any {g N : Nat} {m : Option Nat} {L : Cnt} {t : Tm} {n : Int} (w : World) (K : Blk w g 26 #[.map m]) (h : MV w m N L) (hbnd : Bnd L) (hc : Canon L) (ht : t.ok) (hN : N ≤ 1000000) :
    Calls Try.prog 12 #[.pointer (some ⟨g, 0, none⟩), tmv t, .int .i64 n] w fun e w' => e = .returned (.bool (addOk L t n)) ∧ ∃ m', Blk w' g 26 #[.map m'] ∧ MV w' m' (N + 1) (addL L t n) ∧ Touch (g :: m'.toList) w w' ∧ ∀ b, m' = some b → m = some b ∨ w.heap.size ≤ b := by
  cases hyes : addOk L t n
  · refine (add_no w K h hbnd ht hyes).mono ?_
    rintro e w' ⟨rfl, hb, hK, hM⟩
    refine ⟨rfl, m, hK, ?_, Touch.of_below hb (Nat.le_refl _), fun b hb => .inl hb⟩
    have e1 : addL L t n = L := by unfold addL; rw [hyes]; rfl
    rw [e1]
    rcases hM with hM | ⟨b, rfl, D, ho, hr⟩
    · exact .inl hM
    · exact .inr ⟨b, rfl, D, ho.mono (Nat.le_succ N), hr⟩
  · by_cases hz : ofL L t + n = 0 <;> by_cases hm : m = none
    · exact add_yes_none_zero w K h hbnd hc ht hN hyes hm hz
    · exact add_yes_some_zero w K h hbnd hc ht hN hyes hm hz
    · exact add_yes_none_more w K h hbnd hc ht hN hyes hm hz
    · exact add_yes_some_more w K h hbnd hc ht hN hyes hm hz
end Go.Proofs.Ytifoonjhcjmehaa
