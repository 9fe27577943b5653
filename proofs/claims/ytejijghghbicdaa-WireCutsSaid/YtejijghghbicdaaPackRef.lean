/-
  pack.Int, and the reference's Word and Int, by their contracts: the same bytes.
-/
import Derived.Test.YtejijghghbicdaaPackWord
namespace Go.Proofs.Ytejijghghbicdaa
open Go.RowKit

/-- An int as the number that is put: a negative one as 0. -/
def nat0 (z : Int) : Nat := (max 0 z).toNat
def IN64 (z : Int) : Prop := z ≤ 9223372036854775807 ∧ -9223372036854775808 ≤ z
theorem nat0_w {z : Int} (h : IN64 z) : W64 (nat0 z) := by unfold W64 nat0; obtain ⟨h, _⟩ := h; omega
theorem own_push64 {w : World} {b e m : Nat} {v : Value} {l : List Nat} {x : Nat} (h : w.ownsRow b e 1 v m (u64s l ++ [.int .u64 (x : Nat)])) : w.ownsRow b e 1 v m (u64s (l ++ [x])) := by
  simpa [u64s] using h

theorem wrap_nat0 {z : Int} (h : IN64 z) (h0 : 0 < z) : IntKind.u64.wrap z = ((nat0 z : Nat) : Int) := by
  obtain ⟨h1, _⟩ := h
  rw [IntKind.wrap_u64]; unfold nat0; omega
theorem nat0_neg {z : Int} (h0 : ¬ 0 < z) : nat0 z = 0 := by unfold nat0; omega
theorem own_le {w : World} {base base' size n : Nat} {e : TypeId} {v : Value} {xs : List Value} (h : w.ownsRow base e size v n xs) (hb : base' ≤ base) : w.ownsRow base' e size v n xs :=
  ⟨h.1, h.2.elim Or.inl (fun ⟨g, cap, cur, hv, hg, r⟩ => Or.inr ⟨g, cap, cur, hv, Nat.le_trans hb hg, r⟩)⟩
theorem own_form {w : World} {base size n : Nat} {e : TypeId} {v : Value} {xs : List Value} (h : w.ownsRow base e size v n xs) : ∃ A c, v = .slice A n c := by
  rcases h.2 with ⟨hv, h0⟩ | ⟨g, cap, _, hv, _⟩
  · rw [h0]; exact ⟨_, _, hv⟩
  · exact ⟨_, _, hv⟩

set_option maxRecDepth 100000 in
set_option maxHeartbeats 1000000 in
theorem int_any {B : Nat} {A A2 : Option Addr} {n c m c2 : Nat} {xs : List Nat} {zs : List Int} (w : World) (hx : Reads w B 1 A n (u8s xs)) (hy : Reads w B 1 A2 m (i64s zs)) (hB : B ≤ w.heap.size)
    (hzs : ∀ z ∈ zs, IN64 z) (hn : n ≤ 1000000000) (hm : m ≤ 1000000000) :
    Calls Try.prog 19 #[.slice A n c, .slice A2 m c2] w fun e w' => ∃ v, e = .returned v ∧ w'.ownsRow w.heap.size 5 1 v (xs ++ encs (zs.map nat0)).length (u8s (xs ++ encs (zs.map nat0))) ∧ Below w.heap.size w w' := by
  have hyl : zs.length = m := by simpa using hy.1
  have HY := Lib.hid hyl
  have HS := Lib.hid hzs
  clear hyl hzs
  obtain ⟨i0, hi0, hz0, hz1, hz2⟩ := info_parts infoU64
  go_enter Try.func19, Try.ntmps19
  go_wp2_with fail
  go_loopw [5, 10] (fun v i wr => ∃ k : Nat, k ≤ m ∧ i = .int .i64 k ∧ wr.ownsRow w.heap.size 33 1 v k (u64s ((zs.map nat0).take k)) ∧ Below w.heap.size w wr) (fun _ i _ => m - (intOf i).toNat)
  case atStart => exact ⟨0, Nat.zero_le _, rfl, World.ownsRow_nil _ _ _ _, Below.refl _ _⟩
  case round =>
    obtain ⟨k, hk, rfl, hown, hb⟩ := hrel
    by_cases hlt : k < m
    · obtain ⟨ad, u, rfl, _, hu, hc⟩ := (hy.below (hb.mono hB)).at_ hlt
      have hkl : k < zs.length := by have := HY.out; omega
      have eu : u = .int .i64 zs[k] := by
        simp [i64s, hkl] at hu; exact hu.symm
      subst eu
      clear hu
      obtain ⟨zk, hzk⟩ : ∃ zk, zk = zs[k] := ⟨_, rfl⟩
      rw [← hzk] at hc
      have HK := Lib.hid (show (zs.map nat0).take (k + 1) = (zs.map nat0).take k ++ [nat0 zk] by rw [take_snoc_ _ k (by simpa using hkl), hzk]; simp)
      have HW := Lib.hid (show IN64 zk by rw [hzk]; exact HS.out _ (List.getElem_mem hkl))
      clear hzk hkl
      by_cases hneg : 0 < zk
      · go_wp2_with (at_builtin; refine wpList_append_own _ rfl _ _ 24 rfl w.heap.size 33 i0 (.int .u64 0) 1 8 Try.underlying24 hi0 hz0 hz1 hz2 rfl (by decide) _ _ _ rfl (hown.alloc _) ⟨wr.heap.size, 0, none⟩ 1 1 [_] rfl rfl (cell_one_new _ _ _) ?c2 ?c3 ?c4 ?c5 ?_)
        case c2 => first | rfl | (intro u hu; simp at hu; subst hu; rfl)
        case c3 => unfold maxLen; omega
        case c4 => omega
        case c5 => have := hb.size; simp; omega
        intro v2 w2 hown3 hg _
        rw [wrap_nat0 HW.out hneg] at hown3
        have hown4 := own_push64 hown3
        rw [← HK.out] at hown4
        have hb3 : Below w.heap.size w w2 := (hb.alloc hb.size _).grown hg (by have := hb.size; simp; omega) (fun g hg' => (hown.lt g hg').1)
        clear hown3 hg hown hb HW HK
        go_wp2
        go_roundw
        case rel => exact ⟨k + 1, by omega, by go_num, hown4, hb3⟩
        case measure => simp [intOf]; omega
      · go_wp2_with (at_builtin; refine wpList_append_own _ rfl _ _ 24 rfl w.heap.size 33 i0 (.int .u64 0) 1 8 Try.underlying24 hi0 hz0 hz1 hz2 rfl (by decide) _ _ _ rfl (hown.alloc _) ⟨wr.heap.size, 0, none⟩ 1 1 [_] rfl rfl (cell_one_new _ _ _) ?c2 ?c3 ?c4 ?c5 ?_)
        case c2 => first | rfl | (intro u hu; simp at hu; subst hu; rfl)
        case c3 => unfold maxLen; omega
        case c4 => omega
        case c5 => have := hb.size; simp; omega
        intro v2 w2 hown3 hg _
        have hown3 : w2.ownsRow w.heap.size 33 1 v2 (k + 1) (u64s ((zs.map nat0).take k) ++ [.int .u64 ((nat0 zk : Nat) : Int)]) := by rw [nat0_neg (by omega)]; exact hown3
        have hown4 := own_push64 hown3
        rw [← HK.out] at hown4
        have hb3 : Below w.heap.size w w2 := (hb.alloc hb.size _).grown hg (by have := hb.size; simp; omega) (fun g hg' => (hown.lt g hg').1)
        clear hown3 hg hown hb HW HK
        go_wp2
        go_roundw
        case rel => exact ⟨k + 1, by omega, by go_num, hown4, hb3⟩
        case measure => simp [intOf]; omega
    · have hkm : k = m := by omega
      have e9 : (zs.map nat0).take k = zs.map nat0 := by rw [List.take_of_length_le (by have := HY.out; simp; omega)]
      rw [e9, hkm] at hown
      clear e9
      obtain rfl : m = k := hkm.symm
      clear hkm
      obtain ⟨A5, c5, rfl⟩ := own_form hown
      go_wp2_with fail
      refine (word_any _ ((hx.below (hb.mono hB)).more (Nat.le_trans hB hb.size)) (Reads.of_own hown) (Nat.le_refl _) (fun y hy => ?_) hn hm).mono ?_
      · obtain ⟨z, hz, rfl⟩ := List.mem_map.1 hy
        exact nat0_w (HS.out z hz)
      · rintro e w2 ⟨v, rfl, hown2, hb2⟩
        go_wp2_with fail
        go_ret
        exact ⟨_, rfl, own_le hown2 hb.size, hb.trans (hb2.mono hb.size)⟩
theorem or127 {y : Nat} (h : W64 y) : bits .or .u8 (bits .and .u64 (y : Int) 127 % 256) 128 = ((y % 128 + 128 : Nat) : Int) := by
  have e1 : bits .and .u64 (y : Int) 127 = ((y % 128 : Nat) : Int) := by
    have := u64_and_nat y 127 h (by omega)
    rw [show ((127 : Nat) : Int) = 127 from rfl] at this
    rw [this, show (127 : Nat) = 2 ^ 7 - 1 from rfl, Nat.and_two_pow_sub_one_eq_mod]
  rw [e1, or128, Nat.mod_mod]

set_option maxRecDepth 100000 in
set_option maxHeartbeats 1000000 in
theorem rword_any {B : Nat} {A A2 : Option Addr} {n c m c2 : Nat} {xs ys : List Nat} (w : World) (hx : Reads w B 1 A n (u8s xs)) (hy : Reads w B 1 A2 m (u64s ys)) (hB : B ≤ w.heap.size)
    (hys : ∀ y ∈ ys, W64 y) (hn : n ≤ 1000000000) (hm : m ≤ 1000000000) :
    Calls Try.prog 22 #[.slice A n c, .slice A2 m c2] w fun e w' => ∃ v, e = .returned v ∧ w'.ownsRow w.heap.size 5 1 v (xs ++ encs ys).length (u8s (xs ++ encs ys)) ∧ Below w.heap.size w w' := by
  have hxl : xs.length = n := by simpa using hx.1
  have hyl : ys.length = m := by simpa using hy.1
  have HX := Lib.hid hxl
  have HY := Lib.hid hyl
  have HS := Lib.hid hys
  clear hxl hyl hys
  obtain ⟨i0, hi0, hz0, hz1, hz2⟩ := info_parts infoU8
  go_enter Try.func22, Try.ntmps22
  go_wp2_with (at_builtin; refine wpList_append_any _ rfl _ _ 22 rfl w.heap.size 5 i0 (.int .u8 0) 1 1 Try.underlying22 hi0 hz0 hz1 hz2 rfl (by decide) _ _ _ rfl (World.ownsRow_nil _ _ _ _) B A n c (u8s xs) rfl hx (u8s_one _) (by unfold maxLen; omega) (by omega) (Nat.le_refl _) ?_)
  intro v1 w1 hown hg _
  have hb : Below w.heap.size w w1 := (Below.refl _ _).grown hg (Nat.le_refl _) (by simp [Value.ownBlock])
  clear hg
  go_wp2_with fail
  go_loopw [5, 6] (fun v i wr => ∃ k : Nat, k ≤ m ∧ i = .int .i64 k ∧ wr.ownsRow w.heap.size 5 1 v (put xs ys k).length (u8s (put xs ys k)) ∧ Below w.heap.size w wr) (fun _ i _ => m - (intOf i).toNat)
  case atStart => exact ⟨0, Nat.zero_le _, rfl, by rw [put_zero, HX.out]; exact hown, hb⟩
  case round =>
    obtain ⟨k, hk, rfl, hown, hb⟩ := hrel
    have hpl := put_len xs ys k HS.out
    have HP := Lib.hid (show (put xs ys k).length ≤ n + 10 * m by have := HX.out; have := HY.out; omega)
    clear hpl
    by_cases hlt : k < m
    · obtain ⟨ad, u, rfl, _, hu, hc⟩ := (hy.below (hb.mono hB)).at_ hlt
      have hkl : k < ys.length := by have := HY.out; omega
      have eu : u = .int .u64 (ys[k] : Nat) := by
        simp [u64s, hkl] at hu; exact hu.symm
      subst eu
      clear hu
      obtain ⟨yk, hyk⟩ : ∃ yk, yk = ys[k] := ⟨_, rfl⟩
      rw [← hyk] at hc
      have HK := Lib.hid (show put xs ys (k + 1) = put xs ys k ++ enc yk by rw [hyk]; exact put_succ xs ys k hkl)
      have HW := Lib.hid (show W64 yk by rw [hyk]; exact HS.out _ (List.getElem_mem hkl))
      clear hyk hkl
      go_wp2_with fail
      clear hc
      go_loopw [5, 7] (fun v x wq => ∃ (y : Nat) (acc : List Nat), W64 y ∧ x = .int .u64 (y : Nat) ∧ acc ++ enc y = enc yk ∧ wq.ownsRow w.heap.size 5 1 v (put xs ys k ++ acc).length (u8s (put xs ys k ++ acc)) ∧ Below w.heap.size w wq) (fun _ x _ => (intOf x).toNat)
      case atStart => exact ⟨yk, [], HW.out, rfl, rfl, by simpa using hown, hb⟩
      case round =>
        obtain ⟨y, acc, hy64, rfl, hacc, hown2, hb2⟩ := hrel
        have HA := Lib.hid hacc
        clear hacc
        by_cases hge : 128 ≤ y
        · go_wp2_with (at_builtin; refine wpList_append_own _ rfl _ _ 22 rfl w.heap.size 5 i0 (.int .u8 0) 1 1 Try.underlying22 hi0 hz0 hz1 hz2 rfl (by decide) _ _ _ rfl (hown2.alloc _) ⟨wr.heap.size, 0, none⟩ 1 1 [_] rfl rfl (cell_one_new _ _ _) ?c2 ?c3 ?c4 ?c5 ?_)
          case c2 => intro u hu; simp at hu; subst hu; rfl
          case c3 => have := HP.out; have := congrArg List.length HA.out; have := enc_len10 HW.out; simp only [List.length_append] at *; unfold maxLen; omega
          case c4 => have := HP.out; have := congrArg List.length HA.out; have := enc_len10 HW.out; simp only [List.length_append] at *; omega
          case c5 => have := hb2.size; simp; omega
          intro v2 w2 hown3 hg _
          rw [or127 hy64] at hown3
          have hown4 := own_push hown3 (by simp)
          have hb3 : Below w.heap.size w w2 := (hb2.alloc hb2.size _).grown hg (by have := hb2.size; simp; omega) (fun g hg' => (hown2.lt g hg').1)
          have HA2 := Lib.hid (show (acc ++ [y % 128 + 128]) ++ enc (y / 128) = enc yk by have := HA.out; rw [enc_hi hge] at this; simpa using this)
          have hy2 : W64 (y / 128) := by have := hy64; unfold W64 at *; omega
          clear hown3 hg hown2 hb2 HA hy64
          go_wp2
          go_roundw
          case rel => exact ⟨y / 128, acc ++ [y % 128 + 128], hy2, by go_num, HA2.out, by rw [← List.append_assoc]; exact hown4, hb3⟩
          case measure => simp [intOf]; omega
        · go_wp2_with (at_builtin; refine wpList_append_own _ rfl _ _ 22 rfl w.heap.size 5 i0 (.int .u8 0) 1 1 Try.underlying22 hi0 hz0 hz1 hz2 rfl (by decide) _ _ _ rfl (hown2.alloc _) ⟨wr.heap.size, 0, none⟩ 1 1 [_] rfl rfl (cell_one_new _ _ _) ?c2 ?c3 ?c4 ?c5 ?_)
          case c2 => intro u hu; simp at hu; subst hu; rfl
          case c3 => have := HP.out; have := congrArg List.length HA.out; have := enc_len10 HW.out; simp only [List.length_append] at *; unfold maxLen; omega
          case c4 => have := HP.out; have := congrArg List.length HA.out; have := enc_len10 HW.out; simp only [List.length_append] at *; omega
          case c5 => have := hb2.size; simp; omega
          intro v2 w2 hown3 hg _
          have hown4 := own_push hown3 (by simp)
          have hb3 : Below w.heap.size w w2 := (hb2.alloc hb2.size _).grown hg (by have := hb2.size; simp; omega) (fun g hg' => (hown2.lt g hg').1)
          have HA2 := Lib.hid (show acc ++ [y] = enc yk by have := HA.out; rw [enc_lo (by omega)] at this; exact this)
          have HE : w2.ownsRow w.heap.size 5 1 v2 (put xs ys (k + 1)).length (u8s (put xs ys (k + 1))) := by rw [HK.out, ← HA2.out, ← List.append_assoc]; exact hown4
          clear hown3 hg hown2 hb2 HA hy64 hown4
          go_wp2
          go_roundw
          case rel => exact ⟨k + 1, by omega, by go_num, HE, hb3⟩
          case measure => simp [intOf]; omega
    · go_wp2
      go_ret
      exact ⟨_, rfl, by rw [← put_all xs ys k (by have := HY.out; omega)]; exact hown, hb⟩
theorem wrap_nat1 {z : Int} (h : IN64 z) (h0 : 0 ≤ z) : IntKind.u64.wrap z = ((nat0 z : Nat) : Int) := by
  obtain ⟨h1, _⟩ := h
  rw [IntKind.wrap_u64]; unfold nat0; omega
set_option maxRecDepth 100000 in
set_option maxHeartbeats 1000000 in
theorem rint_any {B : Nat} {A A2 : Option Addr} {n c m c2 : Nat} {xs : List Nat} {zs : List Int} (w : World) (hx : Reads w B 1 A n (u8s xs)) (hy : Reads w B 1 A2 m (i64s zs)) (hB : B ≤ w.heap.size)
    (hzs : ∀ z ∈ zs, IN64 z) (hn : n ≤ 1000000000) (hm : m ≤ 1000000000) :
    Calls Try.prog 21 #[.slice A n c, .slice A2 m c2] w fun e w' => ∃ v, e = .returned v ∧ w'.ownsRow w.heap.size 5 1 v (xs ++ encs (zs.map nat0)).length (u8s (xs ++ encs (zs.map nat0))) ∧ Below w.heap.size w w' := by
  have hyl : zs.length = m := by simpa using hy.1
  have HY := Lib.hid hyl
  have HS := Lib.hid hzs
  clear hyl hzs
  obtain ⟨i0, hi0, hz0, hz1, hz2⟩ := info_parts infoU64
  go_enter Try.func21, Try.ntmps21
  go_wp2_with fail
  go_loopw [5, 6] (fun v i wr => ∃ k : Nat, k ≤ m ∧ i = .int .i64 k ∧ wr.ownsRow w.heap.size 33 1 v k (u64s ((zs.map nat0).take k)) ∧ Below w.heap.size w wr) (fun _ i _ => m - (intOf i).toNat)
  case atStart => exact ⟨0, Nat.zero_le _, rfl, World.ownsRow_nil _ _ _ _, Below.refl _ _⟩
  case round =>
    obtain ⟨k, hk, rfl, hown, hb⟩ := hrel
    by_cases hlt : k < m
    · obtain ⟨ad, u, rfl, _, hu, hc⟩ := (hy.below (hb.mono hB)).at_ hlt
      have hkl : k < zs.length := by have := HY.out; omega
      have eu : u = .int .i64 zs[k] := by
        simp [i64s, hkl] at hu; exact hu.symm
      subst eu
      clear hu
      obtain ⟨zk, hzk⟩ : ∃ zk, zk = zs[k] := ⟨_, rfl⟩
      rw [← hzk] at hc
      have HK := Lib.hid (show (zs.map nat0).take (k + 1) = (zs.map nat0).take k ++ [nat0 zk] by rw [take_snoc_ _ k (by simpa using hkl), hzk]; simp)
      have HW := Lib.hid (show IN64 zk by rw [hzk]; exact HS.out _ (List.getElem_mem hkl))
      clear hzk hkl
      by_cases hneg : 0 ≤ zk
      · go_wp2_with (at_builtin; refine wpList_append_own _ rfl _ _ 24 rfl w.heap.size 33 i0 (.int .u64 0) 1 8 Try.underlying24 hi0 hz0 hz1 hz2 rfl (by decide) _ _ _ rfl (hown.alloc _) ⟨wr.heap.size, 0, none⟩ 1 1 [_] rfl rfl (cell_one_new _ _ _) ?c2 ?c3 ?c4 ?c5 ?_)
        case c2 => first | rfl | (intro u hu; simp at hu; subst hu; rfl)
        case c3 => unfold maxLen; omega
        case c4 => omega
        case c5 => have := hb.size; simp; omega
        intro v2 w2 hown3 hg _
        rw [wrap_nat1 HW.out hneg] at hown3
        have hown4 := own_push64 hown3
        rw [← HK.out] at hown4
        have hb3 : Below w.heap.size w w2 := (hb.alloc hb.size _).grown hg (by have := hb.size; simp; omega) (fun g hg' => (hown.lt g hg').1)
        clear hown3 hg hown hb HW HK
        go_wp2
        go_roundw
        case rel => exact ⟨k + 1, by omega, by go_num, hown4, hb3⟩
        case measure => simp [intOf]; omega
      · go_wp2_with (at_builtin; refine wpList_append_own _ rfl _ _ 24 rfl w.heap.size 33 i0 (.int .u64 0) 1 8 Try.underlying24 hi0 hz0 hz1 hz2 rfl (by decide) _ _ _ rfl (hown.alloc _) ⟨wr.heap.size, 0, none⟩ 1 1 [_] rfl rfl (cell_one_new _ _ _) ?c2 ?c3 ?c4 ?c5 ?_)
        case c2 => first | rfl | (intro u hu; simp at hu; subst hu; rfl)
        case c3 => unfold maxLen; omega
        case c4 => omega
        case c5 => have := hb.size; simp; omega
        intro v2 w2 hown3 hg _
        have hown3 : w2.ownsRow w.heap.size 33 1 v2 (k + 1) (u64s ((zs.map nat0).take k) ++ [.int .u64 ((nat0 zk : Nat) : Int)]) := by rw [nat0_neg (by omega)]; exact hown3
        have hown4 := own_push64 hown3
        rw [← HK.out] at hown4
        have hb3 : Below w.heap.size w w2 := (hb.alloc hb.size _).grown hg (by have := hb.size; simp; omega) (fun g hg' => (hown.lt g hg').1)
        clear hown3 hg hown hb HW HK
        go_wp2
        go_roundw
        case rel => exact ⟨k + 1, by omega, by go_num, hown4, hb3⟩
        case measure => simp [intOf]; omega
    · have hkm : k = m := by omega
      have e9 : (zs.map nat0).take k = zs.map nat0 := by rw [List.take_of_length_le (by have := HY.out; simp; omega)]
      rw [e9, hkm] at hown
      clear e9
      obtain rfl : m = k := hkm.symm
      clear hkm
      obtain ⟨A5, c5, rfl⟩ := own_form hown
      go_wp2_with fail
      refine (rword_any _ ((hx.below (hb.mono hB)).more (Nat.le_trans hB hb.size)) (Reads.of_own hown) (Nat.le_refl _) (fun y hy => ?_) hn hm).mono ?_
      · obtain ⟨z, hz, rfl⟩ := List.mem_map.1 hy
        exact nat0_w (HS.out z hz)
      · rintro e w2 ⟨v, rfl, hown2, hb2⟩
        go_wp2_with fail
        go_ret
        exact ⟨_, rfl, own_le hown2 hb.size, hb.trans (hb2.mono hb.size)⟩
end Go.Proofs.Ytejijghghbicdaa
