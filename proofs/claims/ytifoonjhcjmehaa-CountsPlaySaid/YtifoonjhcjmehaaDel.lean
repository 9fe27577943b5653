/-
  slices.Clone and slices.DeleteFunc at times, by contracts.
-/
import Derived.Test.YtifoonjhcjmehaaFuncs
namespace Go.Proofs.Ytifoonjhcjmehaa
open Go.RowKit
set_option linter.unusedSimpArgs false
set_option linter.unusedVariables false

/-! A clear of the last times of a block. -/
theorem Blk.sets {t : TypeId} {g : Nat} : ∀ (vs : List Value) (o : Nat) (l : List Value) (w : World), Blk w g t l.toArray → o + vs.length ≤ l.length → Blk (w.setCells g o vs) g t (l.take o ++ vs ++ l.drop (o + vs.length)).toArray
  | [], o, l, w, h, _ => by simpa [World.setCells] using h
  | v :: vs, o, l, w, h, hl => by
    simp only [List.length_cons] at hl
    have h1 := h.set_ o v
    simp only [List.setIfInBounds_toArray] at h1
    have := Blk.sets vs (o + 1) (l.set o v) _ h1 (by simp; omega)
    show Blk ((w.setCell ⟨g, o, none⟩ v).setCells g (o + 1) vs) g t _
    have e : (l.set o v).take (o + 1) ++ vs ++ (l.set o v).drop (o + 1 + vs.length) = l.take o ++ (v :: vs) ++ l.drop (o + (v :: vs).length) := by
      rw [List.take_set, List.drop_set, if_pos (by omega), List.take_add_one, List.set_append, if_neg (by simp; omega), List.getElem?_eq_getElem (by omega)]
      simp [Nat.min_eq_left (by omega : o ≤ l.length), Nat.add_assoc, Nat.add_comm 1]
    rw [e] at this
    exact this
theorem Touch.sets {g : Nat} {w : World} : ∀ (vs : List Value) (o : Nat) {w' : World}, Touch [g] w w' → Touch [g] w (w'.setCells g o vs)
  | [], _, _, h => h
  | v :: vs, o, _, h => Touch.sets vs (o + 1) (h.at1 o v)
theorem tmCells_zero (n : Nat) : tmCells (List.replicate n ⟨0, 0⟩) = List.replicate (n * 2) (.int .i64 0) := by
  induction n with
  | zero => rfl
  | succ n ih => rw [List.replicate_succ, tmCells_cons, ih, show (n + 1) * 2 = n * 2 + 1 + 1 by omega, List.replicate_succ, List.replicate_succ]
theorem TBlk.clear {w : World} {g o : Nat} {l : List Tm} (h : TBlk w g l) (vs : List Value) (ho : o * 2 + vs.length ≤ l.length * 2) : TBlk (w.setCells g (o * 2) vs) g (l.take o) := by
  obtain ⟨r, h⟩ := h
  refine ⟨vs ++ (tmCells l ++ r).drop (o * 2 + vs.length), ?_⟩
  have := Blk.sets vs (o * 2) _ _ h (by simp; omega)
  rw [List.take_append_of_le_length (by simp; omega), ← tmCells_take, List.append_assoc] at this
  exact this
theorem run_clear_t (w : World) (ty : TypeId) {g o n c : Nat} {l : List Tm} (h : TBlk w g l) (hn : 0 < n) (ho : o + n ≤ l.length) :
    (Builtin.clear_ #[38] ty #[.slice (some ⟨g, o * 2, none⟩) n c]).run Try.prog w = .ok (.tuple #[]) (w.setCells g (o * 2) (List.replicate (n * 2) (.int .i64 0))) := by
  have hzc : (Builtin.zeroCells #[.int .i64 0, .int .i64 0] n).toList = List.replicate (n * 2) (.int .i64 0) := by
    simp [Builtin.zeroCells]
    apply List.ext_getElem
    · simp
    · intro i h1 h2
      simp
      rcases Nat.mod_two_eq_zero_or_one i with e | e <;> rw [e] <;> rfl
  have hst := run_storeCells_cells (P := Try.prog) g (o * 2) (List.replicate (n * 2) (.int .i64 0)) 0 w (by
    intro j hj
    simp at hj
    rw [h.c (List.getElem?_eq_getElem (by simp; omega))]; rfl) (by intro j hj; exact h.f _) (by intro v hv; rw [List.eq_of_mem_replicate hv]; rfl)
  simp only [Nat.add_zero] at hst
  obtain ⟨m, rfl⟩ : ∃ m, n = m + 1 := ⟨n - 1, by omega⟩
  have hz : (zeroValue 33).run Try.prog w = .ok (.agg #[.int .i64 0, .int .i64 0]) w := by kernel_rfl
  have hu : (underlying 38).run Try.prog w = .ok (.slice 33) w := by kernel_rfl
  simp [Builtin.clear_, hu, hz, Value.cells, hzc, hst]
theorem infoTime : (Try.prog.info? 33).map (fun i => (i.zero, i.size, i.bytes)) = some (some (.agg #[.int .i64 0, .int .i64 0]), 2, 16) := by kernel_rfl
theorem tblk_of_own {w : World} {B n : Nat} {v : Value} {l : List Tm} (h : w.ownsRow B 33 2 v n (tmCells l)) (hn : 0 < n) : ∃ g c, v = .slice (some ⟨g, 0, none⟩) n c ∧ B ≤ g ∧ n ≤ c ∧ TBlk w g l := by
  rcases h.2 with ⟨_, h0⟩ | ⟨g, cap, cur, rfl, hb, hg, hc, _, hs, ht⟩
  · omega
  · refine ⟨g, cap, rfl, hb, hc, cur.toList.drop (n * 2), ?_⟩
    rw [← ht, List.take_append_drop]
    exact hg
theorem Tms.nil {w : World} {B n : Nat} {l : List Tm} (h : Tms w B none n l) : n = 0 ∧ l = [] := by
  have : n = 0 := by
    rcases Nat.eq_zero_or_pos n with h0 | h0
    · exact h0
    · obtain ⟨_, e, _⟩ := h.2 h0; cases e
  subst this
  exact ⟨rfl, List.eq_nil_of_length_eq_zero (Tms.len h)⟩

set_option maxRecDepth 100000 in
set_option maxHeartbeats 2000000 in
theorem clone_some {B n c : Nat} {ad : Addr} {l : List Tm} (w : World) (h : Tms w B (some ad) n l) (hB : B ≤ w.heap.size) (hbig : n ≤ 1000000) :
    Calls Try.prog 38 #[.slice (some ad) n c] w fun e w' => ∃ v, e = .returned v ∧ w'.ownsRow w.heap.size 33 2 v n (tmCells l) ∧ Below w.heap.size w w' := by
  obtain ⟨i0, hi0, hz0, hz1, hz2⟩ := info_parts infoTime
  have he := Lib.run_eql_slice_nil (P := Try.prog) w 38 33 (some ad) n c 0 0 (by kernel_rfl)
  go_enter Try.func38, Try.ntmps38
  go_wp2_with (at_builtin; refine wpList_append_any _ rfl _ _ 38 rfl w.heap.size 33 i0 (.agg #[.int .i64 0, .int .i64 0]) 2 16 Try.underlying38 hi0 hz0 hz1 hz2 rfl (by decide) _ _ _ rfl (World.ownsRow_made w #[] 0 (Nat.le_refl _) (Nat.zero_le _) rfl) B (some ad) n c (tmCells l) rfl (h.alloc hB _) (tmCells_one _) (by unfold maxLen; omega) (by omega) (by simp) ?_)
  intro v1 w1 hown hg _
  have hb : Below w.heap.size w w1 := ((Below.refl _ _).alloc (Nat.le_refl _) _).grown hg (by simp) (by simp [Value.ownBlock])
  go_wp2
  go_ret
  exact ⟨_, rfl, by simpa using hown, hb⟩

set_option maxRecDepth 100000 in
set_option maxHeartbeats 2000000 in
theorem clone_nil {n c : Nat} (w : World) : Calls Try.prog 38 #[.slice none n c] w fun e w' => e = .returned (.slice none 0 0) ∧ w' = w := by
  have he := Lib.run_eql_slice_nil (P := Try.prog) w 38 33 none n c 0 0 (by kernel_rfl)
  go_enter Try.func38, Try.ntmps38
  go_wp2_with fail
  go_ret
  exact ⟨rfl, rfl⟩

theorem filter_take_succ {l : List Tm} {p : Tm → Bool} {j : Nat} (hj : j < l.length) : (l.take (j + 1)).filter p = (l.take j).filter p ++ (if p (Tm.at_ l j) then [Tm.at_ l j] else []) := by
  rw [take_succ_at hj, List.filter_append]
  cases h : p (Tm.at_ l j) <;> simp [h]
theorem filter_take_all {l : List Tm} {p : Tm → Bool} {j : Nat} (hj : j ≤ l.length) (h : ∀ k, k < j → p (Tm.at_ l k) = true) : (l.take j).filter p = l.take j := by
  rw [List.filter_eq_self]
  intro x hx
  obtain ⟨k, hk, rfl⟩ := List.mem_iff_getElem.1 hx
  simp at hk
  have := h k (by omega)
  rw [Tm.at_some (List.getElem?_eq_getElem (by omega))] at this
  simpa using this
theorem take_set_succ {l : List Tm} {i : Nat} {x : Tm} (hi : i < l.length) : (l.set i x).take (i + 1) = l.take i ++ [x] := by
  rw [take_succ_at (by simpa using hi), List.take_set_of_le (Nat.le_refl _)]
  congr 1
  unfold Tm.at_
  simp [List.getD, hi]
theorem at_set_ne {l : List Tm} {i k : Nat} {x : Tm} (h : i ≠ k) : Tm.at_ (l.set i x) k = Tm.at_ l k := by
  unfold Tm.at_
  simp [List.getD, List.getElem?_set, h]

set_option maxRecDepth 100000 in
set_option maxHeartbeats 4000000 in
theorem del_any {g n c f : Nat} {l : List Tm} {lb : Array Value} {p : Tm → Bool} (w : World) (K : TBlk w g l) (hl : l.length = n) (hc : n ≤ c) (hbig : n ≤ 1000000)
    (hp : PredT f lb [g] p w) (ef : ∀ args w, (callFunc f args).run Try.prog w = .ok (.enter f args) w) :
    Calls Try.prog 30 #[.slice (some ⟨g, 0, none⟩) n c, .func (.func f) #[] lb] w fun e w' => ∃ k : Nat, e = .returned (.slice (some ⟨g, 0, none⟩) k c) ∧ (l.filter fun x => !p x).length = k ∧ k ≤ n ∧ TBlk w' g (l.filter fun x => !p x) ∧ Touch [g] w w' := by
  have HL := Lib.hid hl
  have HK := Lib.hid K
  have HP := Lib.hid hp
  have hT := (K.tms (N := n) (by omega))
  rw [List.take_of_length_le (by omega)] at hT
  have hz := K.lt
  have HIX := Lib.hid (idxf_any (c := c) w hT (by omega) hbig hp ef)
  clear hl K hp hT
  go_enter Try.func30, Try.ntmps30
  go_wp2_with fail
  refine HIX.out.mono ?_
  rintro e w1 ⟨r, rfl, hb, hi⟩
  rcases hi with ⟨rfl, hall⟩ | ⟨i0, rfl, hi0, hpi, hbefore⟩
  · have hf : (l.filter fun x => !p x) = l := by
      have := filter_take_all (l := l) (p := fun x => !p x) (j := n) (by have := HL.out; omega) (fun k hk => by simp [hall k hk])
      rwa [List.take_of_length_le (by have := HL.out; omega)] at this
    have HF := Lib.hid hf
    clear hf
    go_wp2_with fail
    go_ret
    exact ⟨n, rfl, by rw [HF.out]; exact HL.out, Nat.le_refl _, by rw [HF.out]; exact HK.out.on hb, Touch.of_below hb (Nat.le_refl _)⟩
  · have hf0 : (l.take (i0 + 1)).filter (fun x => !p x) = l.take i0 := by
      rw [filter_take_succ (by have := HL.out; omega), filter_take_all (by have := HL.out; omega) (fun k hk => by simp [hbefore k hk])]
      simp [hpi]
    have HF0 := Lib.hid hf0
    have hneg : ((i0 : Int) == -1) = false := by simp
    have hK1 := HK.out.on hb
    have HK1 := Lib.hid hK1
    have HT1 := Lib.hid (Touch.of_below (gs := [g]) hb (Nat.le_refl _))
    clear hf0 hpi hbefore hK1
    go_wp2_with fail
    go_loopw [5, 6] (fun vi vj wr => ∃ (i j : Nat) (l' : List Tm), vi = .int .i64 i ∧ vj = .int .i64 j ∧ i < j ∧ j ≤ n ∧ Hid (l'.length = n) ∧ Hid (l'.take i = (l.take j).filter fun x => !p x) ∧ Hid (∀ k, j ≤ k → Tm.at_ l' k = Tm.at_ l k) ∧ Hid (TBlk wr g l') ∧ Hid (Touch [g] w wr)) (fun _ vj _ => n - (intOf vj).toNat)
    case atStart => exact ⟨i0, i0 + 1, l, rfl, by go_num, by omega, by omega, HL, Lib.hid HF0.out.symm, Lib.hid (fun _ _ => rfl), HK1, HT1⟩
    case round =>
      obtain ⟨i, j, l', rfl, rfl, hij, hjn, HLL, HTK, HA, K, T⟩ := hrel
      by_cases hlt : j < n
      · obtain ⟨hc0, hc1⟩ := K.out.tm (k := j) (by have := HLL.out; omega)
        have hx0 := HA.out j (Nat.le_refl _)
        obtain ⟨x, hx⟩ : ∃ x, Tm.at_ l j = x := ⟨_, rfl⟩
        rw [hx0, hx] at hc0 hc1
        have hft := filter_take_succ (l := l) (p := fun x => !p x) (j := j) (by have := HL.out; omega)
        rw [hx] at hft
        have hg0 := K.out.lt
        have HX := Lib.hid hx
        have HPW := Lib.hid (HP.out.on (T.out.alloc (.cells #[.int .i64 x.e, .int .i64 x.l] 33)))
        clear hx hx0
        cases hq : p x
        · rw [hq] at hft
          have HFT := Lib.hid hft
          have HQ := Lib.hid hq
          clear hq hft
          go_wp2_with fail
          refine (HPW.out.b HQ.out).mono ?_
          rintro e w2 ⟨rfl, hb2⟩
          have KX := (Blk.new wr 33 #[.int .i64 x.e, .int .i64 x.l]).on hb2
          have KL := (K.out.alloc (.cells #[.int .i64 x.e, .int .i64 x.l] 33)).on hb2
          have cx := KX.c
          have fl := KL.f
          obtain ⟨hd0, hd1⟩ := KL.tm (k := i) (by have := HLL.out; omega)
          have HKL := Lib.hid KL
          clear KL KX
          go_wp2_with fail
          go_roundw
          case rel =>
            refine ⟨i + 1, j + 1, l'.set i x, by go_num, by go_num, by omega, by omega, Lib.hid (by simpa using HLL.out), Lib.hid ?_, Lib.hid (fun k hk => (at_set_ne (by omega)).trans (HA.out k (by omega))), Lib.hid (HKL.out.set_ (by have := HLL.out; omega) x), Lib.hid ?_⟩
            · rw [take_set_succ (by have := HLL.out; omega), HTK.out, HFT.out]; rfl
            · exact (((T.out.alloc _).trans (Touch.of_below hb2 (Nat.le_refl _))).at1 _ _).at1 _ _
          case measure => simp [intOf]; omega
        · rw [hq] at hft
          have HFT := Lib.hid hft
          have HQ := Lib.hid hq
          clear hq hft
          go_wp2_with fail
          refine (HPW.out.b HQ.out).mono ?_
          rintro e w2 ⟨rfl, hb2⟩
          have HKL := Lib.hid ((K.out.alloc (.cells #[.int .i64 x.e, .int .i64 x.l] 33)).on hb2)
          go_wp2_with fail
          go_roundw
          case rel => exact ⟨i, j + 1, l', rfl, by go_num, by omega, by omega, HLL, Lib.hid (by rw [HTK.out, HFT.out]; simp), Lib.hid (fun k hk => HA.out k (by omega)), HKL, Lib.hid ((T.out.alloc _).trans (Touch.of_below hb2 (Nat.le_refl _)))⟩
          case measure => simp [intOf]; omega
      · obtain rfl : j = n := by omega
        have hcl : ∀ ty, (Builtin.clear_ #[38] ty #[.slice (some ⟨g, i * 2, none⟩) (j - i) (c - i)]).run Try.prog wr = .ok (.tuple #[]) (wr.setCells g (i * 2) (List.replicate ((j - i) * 2) (.int .i64 0))) :=
          fun ty => run_clear_t wr ty K.out (by omega) (by have := HLL.out; omega)
        go_wp2_with fail
        go_ret
        have e := HTK.out
        rw [List.take_of_length_le (l := l) (by have := HL.out; omega)] at e
        refine ⟨i, rfl, by rw [← e]; simp; (try (have := HLL.out; omega)), by omega, by rw [← e]; exact K.out.clear _ (by have := HLL.out; simp; omega), Touch.sets _ _ T.out⟩
end Go.Proofs.Ytifoonjhcjmehaa
