/-
  PackBack: numbers come back as they were put, and each wants as many bytes as its groups of seven bits; the call returns true and changes nothing that was in memory.
-/
import Derived.Test.YtejijghghbicdaaCursor2
import Derived.Test.YtejijghghbicdaaOpen
namespace Go.Proofs.Ytejijghghbicdaa
open Go.ChangeShapes Go.WideShapes Go.ChangeAt Go.RowKit Go.Joins
set_option linter.unusedSimpArgs false
set_option linter.unusedVariables false

theorem rd_enc {n : Nat} (h : W64 n) (rest : List Nat) : rd topW (enc n ++ rest) = some (n, rest) := by
  have := rd_of (top := topW) (scan_of_enc h rest) (by unfold W64 at h; unfold topW; omega)
  rw [this, List.drop_left]
theorem below_cur {B g : Nat} {w W w1 : World} (h : Below B w W) (hg : W.grownBy w1 (some g)) (hB : B ≤ W.heap.size) (hb : B ≤ g) : Below B w w1 := h.grown hg hB (fun k hk => by injection hk with e; omega)

theorem PC.drew {w : World} {g : Nat} {l : List Nat} {bad : Bool} (h : PC w g l bad) : PC w.drew g l bad := h
theorem grown_drew {w w' : World} {r : Option Nat} (h : w.drew.grownBy w' r) : w.grownBy w' r := ⟨h.os, h.tape, h.output, h.size, h.block⟩
theorem cword_enc {g y : Nat} {rest : List Nat} {bad : Bool} (w : World) (hy : W64 y) (hr : ∀ d ∈ rest, d < 256) (h : PC w g (enc y ++ rest) bad) :
    Calls Try.prog 24 #[.pointer (some ⟨g, 0, none⟩)] w fun e w' => e = .returned (.int .u64 (y : Nat)) ∧ PC w' g rest bad ∧ w.grownBy w' (some g) := by
  refine (cword_any w h (fun d hd => ?_)).mono ?_
  · rcases List.mem_append.1 hd with h | h
    · exact enc_byte y d h
    · exact hr d h
  · rintro e w' ⟨rfl, hp, hg⟩
    have e1 := rd_enc hy rest
    simp only [rdV, rdL, rdB, e1, Option.map_some, Option.getD_some, Option.isSome_some, if_true] at hp ⊢
    exact ⟨trivial, hp, hg⟩
theorem cend_nil {g : Nat} (w : World) (h : PC w g [] false) :
    Calls Try.prog 26 #[.pointer (some ⟨g, 0, none⟩)] w fun e w' => e = .returned (.bool true) ∧ w = w' := cend_any w h
theorem cleft_r {g r : Nat} {l : List Nat} {bad : Bool} (w : World) (hr : l.length = r) (h : PC w g l bad) :
    Calls Try.prog 25 #[.pointer (some ⟨g, 0, none⟩)] w fun e w' => e = .returned (.int .i64 (r : Nat)) ∧ w = w' := by
  subst hr; exact cleft_any w h

set_option maxHeartbeats 400000 in
theorem back_early {A : Option Addr} {m c : Nat} (w : World) (hm : m ≤ maxLen) (h : 100 < m) :
    Calls Try.prog 4 #[.slice A m c] w fun e w' => e = .returned (.bool true) ∧ Below w.heap.size w w' := by
  unfold maxLen at hm
  go_enter Try.func4, Try.ntmps4
  go_wp2_with fail
  refine (alive1_any _).mono ?_
  rintro e w1 ⟨rfl, hb⟩
  go_wp2_with fail
  go_ret
  exact ⟨rfl, hb⟩

theorem drop_enc {ys : List Nat} {k : Nat} (h : k < ys.length) : encs (ys.drop k) = enc ys[k] ++ encs (ys.drop (k + 1)) := by
  rw [List.drop_eq_getElem_cons h, encs_cons]
theorem len_take_drop (ys : List Nat) (k : Nat) : (encs (ys.take k)).length + (encs (ys.drop k)).length = (encs ys).length := by
  rw [← List.length_append, ← encs_append, List.take_append_drop]

set_option maxRecDepth 100000 in
set_option maxHeartbeats 4000000 in
theorem back_main {A : Option Addr} {m c : Nat} {ys : List Nat} (w : World) (hy : Reads w w.heap.size 1 A m (u64s ys)) (hys : ∀ y ∈ ys, W64 y) (h : ¬ 100 < m) :
    Calls Try.prog 4 #[.slice A m c] w fun e w' => e = .returned (.bool true) ∧ Below w.heap.size w w' := by
  have hyl : ys.length = m := by simpa using hy.1
  have HY := Lib.hid hyl
  have HS := Lib.hid hys
  have hln := encs_len ys hys
  have HN := Lib.hid (show (encs ys).length ≤ 1000 by omega)
  clear hyl hys hln
  go_enter Try.func4, Try.ntmps4
  go_wp2_with fail
  refine (alive1_any _).mono ?_
  rintro e w1 ⟨rfl, hb1⟩
  go_wp2_with fail
  refine (gets (word_any (B := w1.heap.size) (xs := []) _ (reads_nil _ _ _) ((hy.below hb1).more hb1.size) (Nat.le_refl _) HS.out (by omega) (by omega))).mono ?_
  rintro e w2 ⟨D, t, u, rfl, hD, hb2⟩
  rw [List.nil_append] at hD
  have ht : t = (encs ys).length := by have := hD.1; simpa using this.symm
  have HT := Lib.hid ht
  have ht2 : t ≤ 1000 := by have := HN.out; omega
  clear ht
  go_wp2_with fail
  refine (new_any (B := w2.heap.size) _ hD (Nat.le_refl _) (by omega)).mono ?_
  rintro e w3 ⟨g, rfl, hg, hp, hb3⟩
  have hB2 : Below w.heap.size w w2 := below_after hb1 hb2 hb1.size
  have hB3 : Below w.heap.size w w3 := below_after hB2 hb3 hB2.size
  have hwg : w.heap.size ≤ g := Nat.le_trans hB2.size hg
  clear hD hb1 hb2 hb3
  go_wp2_with fail
  go_loopw [5, 7] (fun nn i wr => ∃ k : Nat, k ≤ m ∧ i = .int .i64 k ∧ nn = .int .i64 ((encs (ys.take k)).length : Nat) ∧ PC wr g (encs (ys.drop k)) false ∧ Below w.heap.size w wr) (fun _ i _ => m - (intOf i).toNat)
  case atStart => exact ⟨0, Nat.zero_le _, rfl, by simp [encs], hp, hB3⟩
  case round =>
    obtain ⟨k, hk, rfl, rfl, hpk, hBk⟩ := hrel
    by_cases hlt : k < m
    · obtain ⟨ad, v, rfl, _, hu, hc⟩ := (hy.below hBk).at_ hlt
      have hkl : k < ys.length := by have := HY.out; omega
      have eu : v = .int .u64 (ys[k] : Nat) := by
        simp [u64s, hkl] at hu; exact hu.symm
      subst eu
      clear hu
      obtain ⟨yk, hyk⟩ : ∃ yk, yk = ys[k] := ⟨_, rfl⟩
      rw [← hyk] at hc
      have HW := Lib.hid (show W64 yk by rw [hyk]; exact HS.out _ (List.getElem_mem hkl))
      have HD := Lib.hid (show encs (ys.drop k) = enc yk ++ encs (ys.drop (k + 1)) by rw [hyk]; exact drop_enc hkl)
      obtain ⟨a, ha⟩ : ∃ a, a = (encs (ys.take k)).length := ⟨_, rfl⟩
      have HA := Lib.hid (show (encs (ys.take (k + 1))).length = a + (enc yk).length by rw [ha, take_snoc_ ys k hkl, encs_snoc, hyk]; simp)
      have hal : a ≤ 1000 := by have := len_take_drop ys k; have := HN.out; omega
      have HT2 := Lib.hid (show a + (enc yk).length + (encs (ys.drop (k + 1))).length = t by have h1 := len_take_drop ys k; have h2 := congrArg List.length HD.out; have h3 := HT.out; simp at h2; omega)
      rw [← ha]
      clear ha hyk hkl
      obtain ⟨r, hr⟩ : ∃ r, r = (encs (ys.drop (k + 1))).length := ⟨_, rfl⟩
      have HR := Lib.hid hr.symm
      have HT3 := Lib.hid (show a + (enc yk).length + r = t by rw [hr]; exact HT2.out)
      have hpk2 : PC wr g (enc yk ++ encs (ys.drop (k + 1))) false := by rw [← HD.out]; exact hpk
      have HP := Lib.hid hpk2
      have H10 := Lib.hid (enc_len10 HW.out)
      clear hr hpk hpk2
      go_wp2_with fail
      have HC := Lib.hid hc
      clear hc
      go_loop [8, 9] (fun sz x => ∃ (y s : Nat), s ≤ 10 ∧ x = .int .u64 (y : Nat) ∧ sz = .int .i64 (s : Nat) ∧ Hid (s + (enc y).length = (enc yk).length + 1)) (fun _ x => (intOf x).toNat)
      case atStart => exact ⟨yk, 1, by omega, rfl, rfl, by show 1 + _ = _; omega⟩
      case round =>
        obtain ⟨y, s, hs10, rfl, rfl, HI⟩ := hrel
        by_cases hge : 128 ≤ y
        · have HI2 := Lib.hid (show (s + 1) + (enc (y / 128)).length = (enc yk).length + 1 by have := HI.out; rw [enc_hi hge] at this; simp at this; omega)
          have hs2 : s + 1 ≤ 10 := by have := HI2.out; have := H10.out; have := enc_pos (y / 128); omega
          go_wp2_with fail
          go_round
          case rel => exact ⟨y / 128, s + 1, hs2, by go_num, by go_num, HI2⟩
          case measure => simp [intOf]; omega
        · have hsr : a + s + r = t := by have h1 := HI.out; rw [enc_lo (by omega)] at h1; simp at h1; have := HT3.out; omega
          have HSE := Lib.hid (show s = (enc yk).length by have h1 := HI.out; rw [enc_lo (by omega)] at h1; simpa using h1)
          have hc := HC.out
          have hne : ((yk : Int) != (yk : Int)) = false := by simp
          have hnb : ((r : Int) != IntKind.i64.wrap ((t : Int) - ((a : Int) + (s : Int)))) = false := by rw [IntWalk.i64_in _ (by omega)]; simp; omega
          have hadg : ad.block < w.heap.size := by assumption
          have hkc : ∀ w' : World, wr.grownBy w' (some g) → w'.cell? (ad.add k) = wr.cell? (ad.add k) := fun w' hg => World.cell?_of_block (hg.block (ad.add k).block (by rw [block_of_add]; have := hBk.size; omega) (by rw [block_of_add]; intro e; injection e with e; omega))
          have HKC := Lib.hid hkc
          clear hkc
          go_wp2_with fail
          go_region_held3 (fun W => W.cell? (ad.add k) = some (.int .u64 (yk : Nat))) (first | exact hc | exact (HKC.out _ (grown_drew hg4)).trans hc | assumption) (first | (go_at_call 24; refine (cword_enc _ HW.out (encs_byte _) (PC.drew HP.out)).mono ?_; rintro e w4 ⟨rfl, hp4, hg4⟩) | (go_at_call 25; refine (cleft_r _ HR.out hp4).mono ?_; rintro e w5 ⟨rfl, rfl⟩))
          have hBn := below_cur hBk (grown_drew hg4) hBk.size hwg
          have HE := Lib.hid (show ((a : Int) + (s : Int)) = ((encs (ys.take (k + 1))).length : Nat) by rw [HA.out, ← HSE.out]; omega)
          clear hc hne
          go_wp2_with fail
          refine ⟨⟨k + 1, by omega, by go_num, by rw [HE.out], hp4, hBn⟩, ?_⟩
          simp [intOf]; omega
    · have hkm : ys.length ≤ k := by have := HY.out; omega
      have HZ := Lib.hid (show PC wr g [] false by have := hpk; rw [List.drop_of_length_le hkm] at this; exact this)
      have HT2 : (encs (ys.take k)).length = t := by rw [List.take_of_length_le hkm]; exact HT.out.symm
      rw [HT2]
      clear HT2 hkm hpk
      go_wp2_with fail
      refine (cend_nil _ HZ.out).mono ?_
      rintro e w9 ⟨rfl, rfl⟩
      go_wp2_with fail
      go_ret
      exact ⟨rfl, hBk⟩

theorem packBack_walk {A : Option Addr} {m c : Nat} {ys : List Nat} (w : World) (hy : Reads w w.heap.size 1 A m (u64s ys)) (hys : ∀ y ∈ ys, W64 y) (hm : m ≤ maxLen) :
    Calls Try.prog 4 #[.slice A m c] w fun e w' => e = .returned (.bool true) ∧ Below w.heap.size w w' := by
  by_cases h : 100 < m
  · exact back_early w hm h
  · exact back_main w hy hys h


namespace packBack
set_option maxRecDepth 100000 in
theorem contract (H : Type) (enc : TypeId × Value → H) (W : World) (base : Nat) (args : Array Value) (ds gs : List (DataW H)) (before : List MemPlace)
    (hval : ∀ (j : Nat) t v, Try.f4.params[j]? = some t → args[j]? = some v → Value.okWide Try.prog W .any base t v)
    (hW : DataW.Whole enc Try.prog Try.f4.params.toList Rows.packBackSpec.vars false W args.toList ds gs before) :
    Calls Try.prog 4 args W fun e W' => ∃ v, e = .returned v ∧ Rows.packBackSpec.post enc Try.prog Try.f4 false true false false W args v W' := by
  have hWc := hW
  obtain ⟨p, q, hA0, hV, _, _, _⟩ := hW
  have hA : DataW.TrodAll enc Try.prog W 0 (fun _ => true) true Try.f4.params.toList args.toList ds p := hA0
  clear hA0
  rw [Try.params4] at hA hval
  obtain ⟨v0, vs0, d0, ds0, p0, q0, hargs, rfl, rfl, h0, r0⟩ := trodAll_cons hA
  obtain ⟨rfl, rfl, rfl⟩ := trodAll_nil r0
  obtain rfl : args = #[v0] := by cases args; simp_all
  obtain ⟨A0, n0, c0, l0, rfl, hr0, hw0, hn0, hc0⟩ := open_u64s Try.underlying24 Try.underlying33 (by kernel_rfl) (hval 0 24 v0 rfl rfl) h0
  refine (packBack_walk  W hr0 hw0 (Nat.le_trans hn0 hc0)).mono fun e W' ⟨he, hb⟩ => ⟨_, he, ?_⟩
  exact post_true hWc rfl hb laidOut (readables (by kernel_rfl)) rfl Try.underlying4 (fun h => by subst h; rfl)

set_option maxRecDepth 100000 in
theorem lifted (os : Os) (started : os.Started) (H : Type) (enc : TypeId × Value → H) :
    ReturnsInHanded {} Try.checked os 4 .any (Rows.packBackSpec.pre6 enc Try.prog Try.f4 Rows.packBackRow.domain false) (Rows.packBackSpec.post enc Try.prog Try.f4 false true false false) := by
  refine returnsInHanded_of_change (C := Try.checked) own started (by kernel_rfl) Try.func4
    (ChangeSpec.witness6 (enc := enc) (C := Try.checked) false ⟨#[], #[.slice none 0 0], []⟩ 8 (by kernel_rfl) (by kernel_rfl) (by kernel_rfl) (by kernel_rfl)) ?_
  intro W base args ds gs before hval hW _ _
  exact contract H enc W base args ds gs before hval hW

theorem proved : Rows.PackBackSaid :=
  OpenClaim.holds_of_wide 4 Try.f4 rfl rfl rfl rfl rfl rfl rfl ⟨rfl, rfl, rfl, rfl, rfl⟩ rfl rfl rfl rfl rfl (by kernel_rfl) Try.func4 (by kernel_rfl)
    (of_decide_eq_true (by kernel_rfl)) (by unfold Func.isWrapper; first | (rw [if_pos (by decide +kernel)]; kernel_rfl) | (rw [if_neg (by decide +kernel)]; exact ⟨rfl, rfl⟩))
    (fun os started H enc _ => lifted os started H enc)
end packBack
end Go.Proofs.Ytejijghghbicdaa
