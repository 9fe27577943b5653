/-
  slices.IndexFunc, DeleteFunc at times, for a predicate that is known on the row's times alone.
-/
import Derived.Test.YtifoonjhcjmehaaDel
namespace Go.Proofs.Ytifoonjhcjmehaa
open Go.RowKit
set_option linter.unusedSimpArgs false
set_option linter.unusedVariables false
def PredOn (Q : Tm → Prop) (f : Nat) (lb : Array Value) (gs : List Nat) (p : Tm → Bool) (w : World) : Prop :=
  ∀ (W : World) (x : Tm), Q x → Touch gs w W → Calls Try.prog f (#[tmv x] ++ lb) W fun e w' => e = .returned (.bool (p x)) ∧ Below W.heap.size W w'
theorem PredOn.on {Q : Tm → Prop} {f : Nat} {lb : Array Value} {gs : List Nat} {p : Tm → Bool} {w w' : World} (h : PredOn Q f lb gs p w) (ht : Touch gs w w') : PredOn Q f lb gs p w' := fun W x hx hW => h W x hx (ht.trans hW)
theorem PredOn.b {Q : Tm → Prop} {f : Nat} {lb : Array Value} {gs : List Nat} {p : Tm → Bool} {w : World} {x : Tm} {r : Bool} (h : PredOn Q f lb gs p w) (hx : Q x) (hr : p x = r) :
    Calls Try.prog f (#[tmv x] ++ lb) w fun e w' => e = .returned (.bool r) ∧ Below w.heap.size w w' := by subst hr; exact h w x hx (Touch.refl _ _)

set_option maxRecDepth 100000 in
set_option maxHeartbeats 2000000 in
theorem idxf_on {Q : Tm → Prop} {B n c f : Nat} {A : Option Addr} {l : List Tm} {lb : Array Value} {gs : List Nat} {p : Tm → Bool} (w : World) (h : Tms w B A n l) (hB : B ≤ w.heap.size) (hn : n ≤ 1000000)
    (hQ : ∀ x ∈ l, Q x) (hp : PredOn Q f lb gs p w) (ef : ∀ args w, (callFunc f args).run Try.prog w = .ok (.enter f args) w) :
    Calls Try.prog 47 #[.slice A n c, .func (.func f) #[] lb] w fun e w' => ∃ r : Int, e = .returned (.int .i64 r) ∧ Below w.heap.size w w' ∧ idxL p l n r := by
  have HP := Lib.hid hp
  clear hp
  go_enter Try.func47, Try.ntmps47
  go_wp2_with fail
  go_loopw [8] (fun i wr => ∃ k : Nat, k ≤ n ∧ i = .int .i64 k ∧ Below w.heap.size w wr ∧ Hid (∀ j, j < k → p (Tm.at_ l j) = false)) (fun i _ => n - (intOf i).toNat)
  case atStart => exact ⟨0, Nat.zero_le _, rfl, Below.refl _ _, Lib.hid (fun j hj => absurd hj (by omega))⟩
  case round =>
    obtain ⟨k, hk, rfl, HB, HN⟩ := hrel
    by_cases hlt : k < n
    · obtain ⟨ad, rfl, hab, hp, hmem, hc0, hc1⟩ := Tms.tm (h.below (HB.mono hB)) hlt
      obtain ⟨x, hx⟩ : ∃ x, Tm.at_ l k = x := ⟨_, rfl⟩
      rw [hx] at hp hmem hc0 hc1
      have HX := Lib.hid hx
      have HPW := Lib.hid (HP.out.on (Touch.of_below HB (Nat.le_refl _)))
      have HQX := Lib.hid (hQ _ hmem)
      clear hx hp hmem
      cases hq : p x
      · have HQ := Lib.hid hq
        clear hq
        go_wp2_with fail
        refine (HPW.out.b HQX.out HQ.out).mono ?_
        rintro e w1 ⟨rfl, hb⟩
        have HB1 := below_after HB hb HB.size
        go_wp2_with fail
        go_roundw
        case rel => exact ⟨k + 1, by omega, by go_num, HB1, Lib.hid (all_succ HN.out (by rw [HX.out, HQ.out]))⟩
        case measure => simp [intOf]; omega
      · have HQ := Lib.hid hq
        clear hq
        go_wp2_with fail
        refine (HPW.out.b HQX.out HQ.out).mono ?_
        rintro e w1 ⟨rfl, hb⟩
        have HB1 := below_after HB hb HB.size
        go_wp2_with fail
        go_ret
        exact ⟨k, rfl, HB1, .inr ⟨k, rfl, hlt, by rw [HX.out, HQ.out], HN.out⟩⟩
    · go_wp2_with fail
      go_ret
      exact ⟨-1, rfl, HB, .inl ⟨rfl, fun j hj => HN.out j (by omega)⟩⟩


set_option maxRecDepth 100000 in
set_option maxHeartbeats 4000000 in
theorem del_on {Q : Tm → Prop} {g n c f : Nat} {l : List Tm} {lb : Array Value} {p : Tm → Bool} (w : World) (K : TBlk w g l) (hl : l.length = n) (hc : n ≤ c) (hbig : n ≤ 1000000)
    (hQ : ∀ x ∈ l, Q x) (hp : PredOn Q f lb [g] p w) (ef : ∀ args w, (callFunc f args).run Try.prog w = .ok (.enter f args) w) :
    Calls Try.prog 30 #[.slice (some ⟨g, 0, none⟩) n c, .func (.func f) #[] lb] w fun e w' => ∃ k : Nat, e = .returned (.slice (some ⟨g, 0, none⟩) k c) ∧ (l.filter fun x => !p x).length = k ∧ k ≤ n ∧ TBlk w' g (l.filter fun x => !p x) ∧ Touch [g] w w' := by
  have HL := Lib.hid hl
  have HK := Lib.hid K
  have HP := Lib.hid hp
  have hT := (K.tms (N := n) (by omega))
  rw [List.take_of_length_le (by omega)] at hT
  have hz := K.lt
  have HIX := Lib.hid (idxf_on (c := c) w hT (by omega) hbig hQ hp ef)
  clear hl K hp hT
  go_enter Try.func30, Try.ntmps30
  go_wp2_with fail
  refine HIX.out.mono ?_
  rintro e w1 ⟨r, rfl, hb, hi⟩
  rcases hi with ⟨rfl, hall⟩ | ⟨i0, rfl, hi0, hpi, hbefore⟩
  · have hf : (l.filter fun x => !p x) = l := by
      have := filter_take_all (l := l) (p := fun x => !p x) (j := n) (by have := HL.out; omega) (fun k hk => by simp [hall k hk])
      rwa [List.take_of_length_le (by have := HL.out; omega)] at this
    have HF := Lib.hid hf
    clear hf
    go_wp2_with fail
    go_ret
    exact ⟨n, rfl, by rw [HF.out]; exact HL.out, Nat.le_refl _, by rw [HF.out]; exact HK.out.on hb, Touch.of_below hb (Nat.le_refl _)⟩
  · have hf0 : (l.take (i0 + 1)).filter (fun x => !p x) = l.take i0 := by
      rw [filter_take_succ (by have := HL.out; omega), filter_take_all (by have := HL.out; omega) (fun k hk => by simp [hbefore k hk])]
      simp [hpi]
    have HF0 := Lib.hid hf0
    have hneg : ((i0 : Int) == -1) = false := by simp
    have hK1 := HK.out.on hb
    have HK1 := Lib.hid hK1
    have HT1 := Lib.hid (Touch.of_below (gs := [g]) hb (Nat.le_refl _))
    clear hf0 hpi hbefore hK1
    go_wp2_with fail
    go_loopw [5, 6] (fun vi vj wr => ∃ (i j : Nat) (l' : List Tm), vi = .int .i64 i ∧ vj = .int .i64 j ∧ i < j ∧ j ≤ n ∧ Hid (l'.length = n) ∧ Hid (l'.take i = (l.take j).filter fun x => !p x) ∧ Hid (∀ k, j ≤ k → Tm.at_ l' k = Tm.at_ l k) ∧ Hid (TBlk wr g l') ∧ Hid (Touch [g] w wr)) (fun _ vj _ => n - (intOf vj).toNat)
    case atStart => exact ⟨i0, i0 + 1, l, rfl, by go_num, by omega, by omega, HL, Lib.hid HF0.out.symm, Lib.hid (fun _ _ => rfl), HK1, HT1⟩
    case round =>
      obtain ⟨i, j, l', rfl, rfl, hij, hjn, HLL, HTK, HA, K, T⟩ := hrel
      by_cases hlt : j < n
      · obtain ⟨hc0, hc1⟩ := K.out.tm (k := j) (by have := HLL.out; omega)
        have hx0 := HA.out j (Nat.le_refl _)
        obtain ⟨x, hx⟩ : ∃ x, Tm.at_ l j = x := ⟨_, rfl⟩
        rw [hx0, hx] at hc0 hc1
        have hft := filter_take_succ (l := l) (p := fun x => !p x) (j := j) (by have := HL.out; omega)
        rw [hx] at hft
        have hg0 := K.out.lt
        have HX := Lib.hid hx
        have HPW := Lib.hid (HP.out.on (T.out.alloc (.cells #[.int .i64 x.e, .int .i64 x.l] 33)))
        have HQX := Lib.hid (show Q x from hx ▸ hQ _ (Tm.at_mem (by have := HL.out; omega)))
        clear hx hx0
        cases hq : p x
        · rw [hq] at hft
          have HFT := Lib.hid hft
          have HQ := Lib.hid hq
          clear hq hft
          go_wp2_with fail
          refine (HPW.out.b HQX.out HQ.out).mono ?_
          rintro e w2 ⟨rfl, hb2⟩
          have KX := (Blk.new wr 33 #[.int .i64 x.e, .int .i64 x.l]).on hb2
          have KL := (K.out.alloc (.cells #[.int .i64 x.e, .int .i64 x.l] 33)).on hb2
          have cx := KX.c
          have fl := KL.f
          obtain ⟨hd0, hd1⟩ := KL.tm (k := i) (by have := HLL.out; omega)
          have HKL := Lib.hid KL
          clear KL KX
          go_wp2_with fail
          go_roundw
          case rel =>
            refine ⟨i + 1, j + 1, l'.set i x, by go_num, by go_num, by omega, by omega, Lib.hid (by simpa using HLL.out), Lib.hid ?_, Lib.hid (fun k hk => (at_set_ne (by omega)).trans (HA.out k (by omega))), Lib.hid (HKL.out.set_ (by have := HLL.out; omega) x), Lib.hid ?_⟩
            · rw [take_set_succ (by have := HLL.out; omega), HTK.out, HFT.out]; rfl
            · exact (((T.out.alloc _).trans (Touch.of_below hb2 (Nat.le_refl _))).at1 _ _).at1 _ _
          case measure => simp [intOf]; omega
        · rw [hq] at hft
          have HFT := Lib.hid hft
          have HQ := Lib.hid hq
          clear hq hft
          go_wp2_with fail
          refine (HPW.out.b HQX.out HQ.out).mono ?_
          rintro e w2 ⟨rfl, hb2⟩
          have HKL := Lib.hid ((K.out.alloc (.cells #[.int .i64 x.e, .int .i64 x.l] 33)).on hb2)
          go_wp2_with fail
          go_roundw
          case rel => exact ⟨i, j + 1, l', rfl, by go_num, by omega, by omega, HLL, Lib.hid (by rw [HTK.out, HFT.out]; simp), Lib.hid (fun k hk => HA.out k (by omega)), HKL, Lib.hid ((T.out.alloc _).trans (Touch.of_below hb2 (Nat.le_refl _)))⟩
          case measure => simp [intOf]; omega
      · obtain rfl : j = n := by omega
        have hcl : ∀ ty, (Builtin.clear_ #[38] ty #[.slice (some ⟨g, i * 2, none⟩) (j - i) (c - i)]).run Try.prog wr = .ok (.tuple #[]) (wr.setCells g (i * 2) (List.replicate ((j - i) * 2) (.int .i64 0))) :=
          fun ty => run_clear_t wr ty K.out (by omega) (by have := HLL.out; omega)
        go_wp2_with fail
        go_ret
        have e := HTK.out
        rw [List.take_of_length_le (l := l) (by have := HL.out; omega)] at e
        refine ⟨i, rfl, by rw [← e]; simp; (try (have := HLL.out; omega)), by omega, by rw [← e]; exact K.out.clear _ (by have := HLL.out; simp; omega), Touch.sets _ _ T.out⟩
end Go.Proofs.Ytifoonjhcjmehaa
