/-
  bytes.Clone and pack.Word, by their contracts: the bytes of numbers behind bytes.
-/
import Derived.Test.YtejijghghbicdaaPackLaw
namespace Go.Proofs.Ytejijghghbicdaa
open Go.RowKit

theorem infoU8 : (Try.prog.info? 5).map (fun i => (i.zero, i.size, i.bytes)) = some (some (.int .u8 0), 1, 1) := by kernel_rfl
theorem infoU64 : (Try.prog.info? 33).map (fun i => (i.zero, i.size, i.bytes)) = some (some (.int .u64 0), 1, 8) := by kernel_rfl

set_option maxHeartbeats 400000 in
theorem clone_any {B : Nat} {A : Option Addr} {n c : Nat} {xs : List Nat} (w : World) (hx : Reads w B 1 A n (u8s xs)) (hB : B ≤ w.heap.size) (hn : n ≤ 1099511627776) :
    Calls Try.prog 49 #[.slice A n c] w fun e w' => ∃ v, e = .returned v ∧ w'.ownsRow w.heap.size 5 1 v n (u8s xs) ∧ Below w.heap.size w w' := by
  obtain ⟨i0, hi0, hz0, hz1, hz2⟩ := info_parts infoU8
  have q : ∀ (w : World) (a : Option Addr) (n c n' c' : Nat), (binOp .eql 22 (.slice a n c) (.slice none n' c')).run Try.prog w = .ok (.bool a.isNone) w := fun w a n c n' c' => Lib.run_eql_slice_nil w _ _ a n c n' c' Try.underlying22
  cases A with
  | none =>
    have h0 : n = 0 := by
      rcases Nat.eq_zero_or_pos n with h | h
      · exact h
      · obtain ⟨ad, h, _⟩ := hx.2 h; cases h
    subst h0
    have hl : xs = [] := List.eq_nil_of_length_eq_zero (by have := hx.1; simpa using this)
    subst hl
    go_enter Try.func49, Try.ntmps49
    go_wp2
    go_ret
    exact ⟨_, rfl, World.ownsRow_nil _ _ _ _, Below.refl _ _⟩
  | some ad =>
    go_enter Try.func49, Try.ntmps49
    go_wp2_with (at_builtin; refine wpList_append_any _ rfl _ _ 22 rfl w.heap.size 5 i0 (.int .u8 0) 1 1 Try.underlying22 hi0 hz0 hz1 hz2 rfl (by decide) _ _ _ rfl (World.ownsRow_made w #[] 0 (Nat.le_refl _) (Nat.zero_le _) rfl) B (some ad) n c (u8s xs) rfl (hx.alloc hB _) (u8s_one _) (by unfold maxLen; omega) (by omega) (by simp) ?_)
    intro v1 w1 hown hg _
    have hb : Below w.heap.size w w1 := ((Below.refl _ _).alloc (Nat.le_refl _) _).grown hg (by simp) (by simp [Value.ownBlock])
    go_wp2
    go_ret
    exact ⟨_, rfl, by simpa using hown, hb⟩

theorem own_push {w : World} {b e m : Nat} {v : Value} {l : List Nat} {x : Nat} (h : w.ownsRow b e 1 v m (u8s l ++ [.int .u8 (x : Nat)])) (hm : m = l.length + 1) : w.ownsRow b e 1 v (l ++ [x]).length (u8s (l ++ [x])) := by
  subst hm
  simpa [u8s] using h
theorem or128 (y : Nat) : bits .or .u8 ((y : Int) % 256) 128 = ((y % 128 + 128 : Nat) : Int) := by
  have h : ∀ a : Fin 256, bits .or .u8 ((a.val : Nat) : Int) 128 = ((a.val % 128 + 128 : Nat) : Int) := by decide +kernel
  have := h ⟨y % 256, by omega⟩
  rw [show (y % 256) % 128 = y % 128 by omega] at this
  rw [← this]
  congr 1
/-- What a loop over numbers has put: xs, then the bytes of those before the k-th. -/
def put (xs ys : List Nat) (k : Nat) : List Nat := xs ++ encs (ys.take k)
theorem put_zero (xs ys : List Nat) : put xs ys 0 = xs := by simp [put, encs]
theorem put_succ (xs ys : List Nat) (k : Nat) (h : k < ys.length) : put xs ys (k + 1) = put xs ys k ++ enc ys[k] := by
  unfold put; rw [take_snoc_ ys k h, encs_snoc, List.append_assoc]
theorem put_all (xs ys : List Nat) (k : Nat) (h : ys.length ≤ k) : put xs ys k = xs ++ encs ys := by simp [put, List.take_of_length_le h]
theorem put_len (xs ys : List Nat) (k : Nat) (h : ∀ y ∈ ys, W64 y) : (put xs ys k).length ≤ xs.length + 10 * ys.length := by
  have := encs_len (ys.take k) (fun y hy => h y (List.mem_of_mem_take hy))
  have : (ys.take k).length ≤ ys.length := List.length_take_le' ..
  simp only [put, List.length_append]; omega

set_option maxRecDepth 100000 in
set_option maxHeartbeats 1000000 in
theorem word_any {B : Nat} {A A2 : Option Addr} {n c m c2 : Nat} {xs ys : List Nat} (w : World) (hx : Reads w B 1 A n (u8s xs)) (hy : Reads w B 1 A2 m (u64s ys)) (hB : B ≤ w.heap.size)
    (hys : ∀ y ∈ ys, W64 y) (hn : n ≤ 1000000000) (hm : m ≤ 1000000000) :
    Calls Try.prog 20 #[.slice A n c, .slice A2 m c2] w fun e w' => ∃ v, e = .returned v ∧ w'.ownsRow w.heap.size 5 1 v (xs ++ encs ys).length (u8s (xs ++ encs ys)) ∧ Below w.heap.size w w' := by
  have hxl : xs.length = n := by simpa using hx.1
  have hyl : ys.length = m := by simpa using hy.1
  have HX := Lib.hid hxl
  have HY := Lib.hid hyl
  have HS := Lib.hid hys
  clear hxl hyl hys
  obtain ⟨i0, hi0, hz0, hz1, hz2⟩ := info_parts infoU8
  go_enter Try.func20, Try.ntmps20
  go_wp2_with fail
  refine (clone_any _ hx hB (by omega)).mono ?_
  rintro e w1 ⟨v1, rfl, hown, hb⟩
  go_wp2_with fail
  go_loopw [5, 12] (fun v i wr => ∃ k : Nat, k ≤ m ∧ i = .int .i64 k ∧ wr.ownsRow w.heap.size 5 1 v (put xs ys k).length (u8s (put xs ys k)) ∧ Below w.heap.size w wr) (fun _ i _ => m - (intOf i).toNat)
  case atStart => exact ⟨0, Nat.zero_le _, rfl, by rw [put_zero, HX.out]; exact hown, hb⟩
  case round =>
    obtain ⟨k, hk, rfl, hown, hb⟩ := hrel
    have hpl := put_len xs ys k HS.out
    have HP := Lib.hid (show (put xs ys k).length ≤ n + 10 * m by have := HX.out; have := HY.out; omega)
    clear hpl
    by_cases hlt : k < m
    · obtain ⟨ad, u, rfl, _, hu, hc⟩ := (hy.below (hb.mono hB)).at_ hlt
      have hkl : k < ys.length := by have := HY.out; omega
      have eu : u = .int .u64 (ys[k] : Nat) := by
        simp [u64s, hkl] at hu; exact hu.symm
      subst eu
      clear hu
      obtain ⟨yk, hyk⟩ : ∃ yk, yk = ys[k] := ⟨_, rfl⟩
      rw [← hyk] at hc
      have HK := Lib.hid (show put xs ys (k + 1) = put xs ys k ++ enc yk by rw [hyk]; exact put_succ xs ys k hkl)
      have HW := Lib.hid (show W64 yk by rw [hyk]; exact HS.out _ (List.getElem_mem hkl))
      clear hyk hkl
      go_wp2_with fail
      clear hc
      go_loopw [5, 7] (fun v x wq => ∃ (y : Nat) (acc : List Nat), W64 y ∧ x = .int .u64 (y : Nat) ∧ acc ++ enc y = enc yk ∧ wq.ownsRow w.heap.size 5 1 v (put xs ys k ++ acc).length (u8s (put xs ys k ++ acc)) ∧ Below w.heap.size w wq) (fun _ x _ => (intOf x).toNat)
      case atStart => exact ⟨yk, [], HW.out, rfl, rfl, by simpa using hown, hb⟩
      case round =>
        obtain ⟨y, acc, hy64, rfl, hacc, hown2, hb2⟩ := hrel
        have HA := Lib.hid hacc
        clear hacc
        by_cases hge : 128 ≤ y
        · go_wp2_with (at_builtin; refine wpList_append_own _ rfl _ _ 22 rfl w.heap.size 5 i0 (.int .u8 0) 1 1 Try.underlying22 hi0 hz0 hz1 hz2 rfl (by decide) _ _ _ rfl (hown2.alloc _) ⟨wr.heap.size, 0, none⟩ 1 1 [_] rfl rfl (cell_one_new _ _ _) ?c2 ?c3 ?c4 ?c5 ?_)
          case c2 => intro u hu; simp at hu; subst hu; rfl
          case c3 => have := HP.out; have := congrArg List.length HA.out; have := enc_len10 HW.out; simp only [List.length_append] at *; unfold maxLen; omega
          case c4 => have := HP.out; have := congrArg List.length HA.out; have := enc_len10 HW.out; simp only [List.length_append] at *; omega
          case c5 => have := hb2.size; simp; omega
          intro v2 w2 hown3 hg _
          rw [or128] at hown3
          have hown4 := own_push hown3 (by simp)
          have hb3 : Below w.heap.size w w2 := (hb2.alloc hb2.size _).grown hg (by have := hb2.size; simp; omega) (fun g hg' => (hown2.lt g hg').1)
          have HA2 := Lib.hid (show (acc ++ [y % 128 + 128]) ++ enc (y / 128) = enc yk by have := HA.out; rw [enc_hi hge] at this; simpa using this)
          have hy2 : W64 (y / 128) := by have := hy64; unfold W64 at *; omega
          clear hown3 hg hown2 hb2 HA hy64
          go_wp2
          go_roundw
          case rel => exact ⟨y / 128, acc ++ [y % 128 + 128], hy2, by go_num, HA2.out, by rw [← List.append_assoc]; exact hown4, hb3⟩
          case measure => simp [intOf]; omega
        · go_wp2_with (at_builtin; refine wpList_append_own _ rfl _ _ 22 rfl w.heap.size 5 i0 (.int .u8 0) 1 1 Try.underlying22 hi0 hz0 hz1 hz2 rfl (by decide) _ _ _ rfl (hown2.alloc _) ⟨wr.heap.size, 0, none⟩ 1 1 [_] rfl rfl (cell_one_new _ _ _) ?c2 ?c3 ?c4 ?c5 ?_)
          case c2 => intro u hu; simp at hu; subst hu; rfl
          case c3 => have := HP.out; have := congrArg List.length HA.out; have := enc_len10 HW.out; simp only [List.length_append] at *; unfold maxLen; omega
          case c4 => have := HP.out; have := congrArg List.length HA.out; have := enc_len10 HW.out; simp only [List.length_append] at *; omega
          case c5 => have := hb2.size; simp; omega
          intro v2 w2 hown3 hg _
          have hown4 := own_push hown3 (by simp)
          have hb3 : Below w.heap.size w w2 := (hb2.alloc hb2.size _).grown hg (by have := hb2.size; simp; omega) (fun g hg' => (hown2.lt g hg').1)
          have HA2 := Lib.hid (show acc ++ [y] = enc yk by have := HA.out; rw [enc_lo (by omega)] at this; exact this)
          have HE : w2.ownsRow w.heap.size 5 1 v2 (put xs ys (k + 1)).length (u8s (put xs ys (k + 1))) := by rw [HK.out, ← HA2.out, ← List.append_assoc]; exact hown4
          clear hown3 hg hown2 hb2 HA hy64 hown4
          go_wp2
          go_roundw
          case rel => exact ⟨k + 1, by omega, by go_num, HE, hb3⟩
          case measure => simp [intOf]; omega
    · go_wp2
      go_ret
      exact ⟨_, rfl, by rw [← put_all xs ys k (by have := HY.out; omega)]; exact hown, hb⟩
end Go.Proofs.Ytejijghghbicdaa
