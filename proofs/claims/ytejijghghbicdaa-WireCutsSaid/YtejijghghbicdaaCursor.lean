/-
  The cursor of package pack, by contracts: a cursor reads as the bytes that are left and whether it is bad; number, Word and Int do what scan says.
-/
import Derived.Test.YtejijghghbicdaaScan
import Derived.Test.YtejijghghbicdaaPackAlive
namespace Go.Proofs.Ytejijghghbicdaa
open Go.RowKit

/-- The cursor in block g has the bytes l left. -/
def PC (w : World) (g : Nat) (l : List Nat) (bad : Bool) : Prop :=
  ∃ (A : Option Addr) (n c : Nat), Blk w g 95 #[.slice A n c, .bool bad] ∧ Reads w g 1 A n (u8s l) ∧ n ≤ c ∧ c ≤ maxLen
theorem grown_set {w w' : World} {g i : Nat} (h : w.grownBy w' (some g)) (u : Value) : w.grownBy (w'.setCell ⟨g, i, none⟩ u) (some g) :=
  ⟨h.os, h.tape, h.output, by simpa [World.setCell] using h.size, fun k hk hne => (Below.heap_setCell w' ⟨g, i, none⟩ u k (fun e => hne (by rw [e]))).trans (h.block k hk hne)⟩
theorem grown_self (w : World) (row : Option Nat) : w.grownBy w row := ⟨rfl, rfl, rfl, Nat.le_refl _, fun _ _ _ => rfl⟩

set_option maxHeartbeats 400000 in
theorem spoil_any {g : Nat} {l : List Nat} {bad : Bool} (w : World) (h : PC w g l bad) :
    Calls Try.prog 65 #[.pointer (some ⟨g, 0, none⟩)] w fun e w' => e = .returned (.int .u64 0) ∧ PC w' g [] true ∧ w.grownBy w' (some g) := by
  obtain ⟨A, n, c, hB, hR, hn, hc⟩ := h
  have c0 := hB.c
  have f0 := hB.f
  go_enter Try.func65, Try.ntmps65
  go_wp2
  go_ret
  refine ⟨rfl, ⟨none, 0, 0, ?_, ⟨by simp [u8s], fun h => absurd h (by omega)⟩, Nat.le_refl _, Nat.zero_le _⟩, grown_set (grown_set (grown_self _ _) _) _⟩
  have := (hB.set_ 0 (.slice none 0 0)).set_ 1 (.bool true)
  simpa using this

theorem cut_end {w : World} {g k n c : Nat} {ad : Addr} {l : List Nat} {bad : Bool} (hB : Blk w g 95 #[.slice (some ad) n c, .bool bad]) (hR : Reads w g 1 (some ad) n (u8s l)) (hk : k + 1 ≤ n) (hn : n ≤ c) (hc : c = k + 1) :
    PC (w.setCell ⟨g, 0, none⟩ (.slice (some ad) (n - (k + 1)) 0)) g (l.drop (k + 1)) bad := by
  have hl : l.length = n := by simpa using hR.1
  have e : n - (k + 1) = 0 := by omega
  refine ⟨some ad, n - (k + 1), 0, by simpa using hB.set_ 0 (.slice (some ad) (n - (k + 1)) 0), ?_, by omega, Nat.zero_le _⟩
  rw [e, List.drop_of_length_le (by omega)]
  exact ⟨by simp [u8s], fun h => absurd h (by omega)⟩
theorem cut_mid {w : World} {g k n c : Nat} {ad : Addr} {l : List Nat} {bad : Bool} (hB : Blk w g 95 #[.slice (some ad) n c, .bool bad]) (hR : Reads w g 1 (some ad) n (u8s l)) (hk : k + 1 ≤ n) (hn : n ≤ c) (hc : c ≤ maxLen) :
    PC (w.setCell ⟨g, 0, none⟩ (.slice (some ⟨ad.block, ad.off + (k + 1), none⟩) (n - (k + 1)) (c - (k + 1)))) g (l.drop (k + 1)) bad := by
  have hadd : ad.add (k + 1) = ⟨ad.block, ad.off + (k + 1), none⟩ := by simp [Addr.add]
  refine ⟨_, _, _, by simpa using hB.set_ 0 (.slice (some ⟨ad.block, ad.off + (k + 1), none⟩) (n - (k + 1)) (c - (k + 1))), ?_, by omega, by omega⟩
  refine Reads.setCell ?_ (Nat.le_refl _) _
  refine ⟨by have := hR.1; simp at this ⊢; omega, fun h0 => ?_⟩
  obtain ⟨ad', e, hb, hc'⟩ := hR.2 (by omega)
  obtain rfl : ad = ad' := by simpa using e
  refine ⟨_, rfl, hb, fun j u hu => ?_⟩
  rw [← hadd, add_of_add]
  refine hc' _ u ?_
  rw [← hu]; simp [u8s, List.getElem?_drop]
theorem andNot128 {d : Nat} (hd : d < 256) : bits .andNot .u8 (d : Int) 128 = ((d % 128 : Nat) : Int) := by
  have h : ∀ a : Fin 256, bits .andNot .u8 ((a.val : Nat) : Int) 128 = ((a.val % 128 : Nat) : Int) := by decide +kernel
  exact h ⟨d, hd⟩
theorem wrap_small {m : Nat} (h : W64 m) : IntKind.u64.wrap ((m : Nat) : Int) = ((m : Nat) : Int) := by
  unfold W64 at h; rw [IntKind.wrap_u64]; omega
/-- A group of seven bits behind those that were read. -/
theorem or_shift {y k m : Nat} (hy : y < 128 ^ k) (hm : W64 (m * 128 ^ k)) (hy64 : W64 y) : bits .or .u64 (y : Int) (((m * 128 ^ k : Nat) : Nat) : Int) = ((y + m * 128 ^ k : Nat) : Int) := by
  rw [u64_or_nat y (m * 128 ^ k) hy64 hm]
  congr 1
  have e : (128 : Nat) ^ k = 2 ^ (7 * k) := by rw [Nat.pow_mul]
  rw [e] at hy ⊢
  rw [Nat.or_comm, Nat.mul_comm m, ← Nat.two_pow_add_eq_or_of_lt hy, Nat.add_comm]
theorem w64_pow {k y : Nat} (hk : k ≤ 9) (h : y < 128 ^ k) : W64 y := by
  have := pow_le9 hk; unfold W64; omega
theorem w64_step {k m : Nat} (hk : k ≤ 9) (hm : m < 128) (h9 : k = 9 → m ≤ 1) : W64 (m * 128 ^ k) := by
  unfold W64
  rcases Nat.lt_or_ge k 9 with h | h
  · have h6 : 128 ^ k ≤ 128 ^ 8 := Nat.pow_le_pow_right (by omega) (by omega)
    have h7 : m * 128 ^ k ≤ 128 * 128 ^ 8 := Nat.mul_le_mul (by omega) h6
    have h8 : (128 : Nat) * 128 ^ 8 = 9223372036854775808 := by decide
    omega
  · have : k = 9 := by omega
    subst this
    have := h9 rfl
    rw [pow9]; omega
theorem acc_or {y k d : Nat} (hk : k ≤ 9) (hy : y < 128 ^ k) (hd : d < 256) (h9 : ¬ (k = 9 ∧ 1 < d)) :
    bits .or .u64 (y : Int) (IntKind.u64.wrap (IntKind.u64.wrap (bits .andNot .u8 (d : Int) 128) * 2 ^ (7 * k))) = ((y + d % 128 * 128 ^ k : Nat) : Int) := by
  have hm : W64 (d % 128 * 128 ^ k) := w64_step hk (by omega) (by omega)
  have hd2 : W64 (d % 128) := by unfold W64; omega
  rw [andNot128 hd, wrap_small hd2]
  have e : ((d % 128 : Nat) : Int) * 2 ^ (7 * k) = ((d % 128 * 128 ^ k : Nat) : Int) := by
    rw [Int.natCast_mul]
    congr 1
    rw [Int.natCast_pow, Int.pow_mul]; rfl
  rw [e, wrap_small hm, or_shift hy hm (w64_pow hk hy)]
theorem shift9 {y k d z : Nat} (hk : k = 9) (h : bits .or .u64 (y : Int) (IntKind.u64.wrap (IntKind.u64.wrap (bits .andNot .u8 (d : Int) 128) * 2 ^ (7 * k))) = ((z : Nat) : Int)) :
    bits .or .u64 (y : Int) (IntKind.u64.wrap (IntKind.u64.wrap (bits .andNot .u8 (d : Int) 128) * 9223372036854775808)) = ((z : Nat) : Int) := by
  subst hk
  rw [← h]
  rfl
theorem acc_lt {y k d : Nat} (hy : y < 128 ^ k) : y + d % 128 * 128 ^ k < 128 ^ (k + 1) := by
  rw [Nat.pow_succ]
  have h1 : d % 128 * 128 ^ k ≤ 127 * 128 ^ k := Nat.mul_le_mul_right _ (by omega)
  omega

set_option maxRecDepth 100000 in
set_option maxHeartbeats 4000000 in
theorem number_any {g : Nat} {l : List Nat} {bad : Bool} {top : Nat} (w : World) (h : PC w g l bad) (hl : ∀ d ∈ l, d < 256) :
    Calls Try.prog 51 #[.pointer (some ⟨g, 0, none⟩), .int .u64 (top : Nat)] w fun e w' => w.grownBy w' (some g) ∧
      ((∃ y j, scan 0 0 l = some (y, j) ∧ y ≤ top ∧ e = .returned (.int .u64 (y : Nat)) ∧ PC w' g (l.drop j) bad) ∨ ((∀ y j, scan 0 0 l = some (y, j) → top < y) ∧ e = .returned (.int .u64 0) ∧ PC w' g [] true)) := by
  have hP := Lib.hid h
  obtain ⟨A, n, c, hB, hR, hn, hc⟩ := h
  have c0 := hB.c
  have f0 := hB.f
  have HL := Lib.hid hl
  unfold maxLen at hc
  have HB := Lib.hid hB
  clear hl hB
  go_enter Try.func51, Try.ntmps51
  go_wp2_with fail
  all_goals
    go_loop [5, 14] (fun x i => ∃ (k y : Nat), k ≤ 9 ∧ k ≤ n ∧ i = .int .i64 k ∧ x = .int .u64 (y : Nat) ∧ Hid (y < 128 ^ k ∧ scan 0 0 l = scan k y (l.drop k))) (fun _ i => 10 - (intOf i).toNat)
    case atStart => exact ⟨0, 0, by omega, by omega, rfl, rfl, by simp [Hid]⟩
    case round =>
      obtain ⟨k, y, hk9, hkn, rfl, rfl, HI⟩ := hrel
      by_cases hlt : k < n
      · obtain ⟨ad, u, rfl, _, hu, hd⟩ := hR.at_ hlt
        have hll : l.length = n := by simpa using hR.1
        have hkl : k < l.length := by omega
        have eu : u = .int .u8 (l[k] : Nat) := by
          simp [u8s, hkl] at hu; exact hu.symm
        subst eu
        clear hu
        obtain ⟨d, hdk⟩ : ∃ d, d = l[k] := ⟨_, rfl⟩
        rw [← hdk] at hd
        have hd256 : d < 256 := by rw [hdk]; exact HL.out _ (List.getElem_mem hkl)
        have HD := Lib.hid (show l.drop k = d :: l.drop (k + 1) by rw [hdk]; exact List.drop_eq_getElem_cons hkl)
        clear hdk hkl hll
        by_cases h9 : k = 9 ∧ 1 < d
        · have HN := Lib.hid (show scan 0 0 l = none by rw [HI.out.2, HD.out, scan, if_pos h9])
          have hk9' : 9 ≤ k := by omega
          have hd1 : 1 < d := h9.2
          clear h9
          all_goals try (exfalso; omega)
          all_goals
            go_wp2_with (go_at_call 65; refine (spoil_any _ hP.out).mono ?_; rintro e w1 ⟨rfl, hpc, hg⟩)
            go_ret
            exact ⟨hg, .inr ⟨fun y j hs => (by rw [HN.out] at hs; cases hs), rfl, hpc⟩⟩
        · obtain ⟨z, hz⟩ : ∃ z, z = y + d % 128 * 128 ^ k := ⟨_, rfl⟩
          have e := acc_or hk9 HI.out.1 hd256 h9
          rw [← hz] at e
          have HZ := Lib.hid (show z < 128 ^ (k + 1) by rw [hz]; exact acc_lt HI.out.1)
          have HS := Lib.hid (show scan 0 0 l = if 128 ≤ d then scan (k + 1) z (l.drop (k + 1)) else if 0 < k ∧ d = 0 then none else some (z, k + 1) by rw [HI.out.2, HD.out, scan, if_neg h9, hz])
          have H9 := Lib.hid h9
          clear hz h9
          by_cases h1 : 128 ≤ d
          · have hk8 : k < 9 := by have := H9.out; omega
            go_wp2_with fail
            go_round
            case rel => exact ⟨k + 1, z, by omega, by omega, by go_num, rfl, HZ.out, by rw [HS.out, if_pos h1]⟩
            case measure => simp [intOf]; omega
          · by_cases h2 : 0 < k ∧ d = 0
            · have HN := Lib.hid (show scan 0 0 l = none by rw [HS.out, if_neg h1, if_pos h2])
              have hk0 : 0 < k := h2.1
              have hdb : ((d : Int) == 0) = true := by simp; omega
              have hd9 : d ≤ 1 := by omega
              clear h2
              go_wp2_with (go_at_call 65; refine (spoil_any _ hP.out).mono ?_; rintro e w1 ⟨rfl, hpc, hg⟩)
              all_goals
                go_ret
                exact ⟨hg, .inr ⟨fun y j hs => (by rw [HN.out] at hs; cases hs), rfl, hpc⟩⟩
            · have HN := Lib.hid (show scan 0 0 l = some (z, k + 1) by rw [HS.out, if_neg h1, if_neg h2])
              have H2 := Lib.hid h2
              clear h2
              by_cases hk0 : 0 < k
              · have hdb : ((d : Int) == 0) = false := by have := H2.out; simp; omega
                by_cases hk9' : 9 ≤ k
                · have hd9 : d ≤ 1 := by have := H9.out; omega
                  have e9 := shift9 (show k = 9 by omega) e
                  all_goals try (exfalso; omega)
                  all_goals
                    by_cases ht : top < z
                    · go_wp2_with (go_at_call 65; refine (spoil_any _ hP.out).mono ?_; rintro e w1 ⟨rfl, hpc, hg⟩)
                      go_ret
                      exact ⟨hg, .inr ⟨fun y j hs => (by rw [HN.out] at hs; cases hs; exact ht), rfl, hpc⟩⟩
                    · go_wp2_with fail
                      all_goals (go_ret; refine ⟨grown_set (grown_self _ _) _, .inl ⟨z, k + 1, HN.out, by omega, rfl, ?_⟩⟩)
                      all_goals (obtain rfl : k = 9 := by omega)
                      all_goals first | exact cut_end (k := 9) HB.out hR (by omega) hn (by omega) | exact cut_mid (k := 9) HB.out hR (by omega) hn (by unfold maxLen; omega)
                · by_cases ht : top < z
                  · skip
                    go_wp2_with (go_at_call 65; refine (spoil_any _ hP.out).mono ?_; rintro e w1 ⟨rfl, hpc, hg⟩)
                    all_goals
                      go_ret
                      exact ⟨hg, .inr ⟨fun y j hs => (by rw [HN.out] at hs; cases hs; exact ht), rfl, hpc⟩⟩
                  · go_wp2_with fail
                    all_goals (go_ret; refine ⟨grown_set (grown_self _ _) _, .inl ⟨z, k + 1, HN.out, by omega, rfl, ?_⟩⟩; first | exact cut_end HB.out hR (by omega) hn (by omega) | exact cut_mid HB.out hR (by omega) hn (by unfold maxLen; omega))
              · by_cases ht : top < z
                · skip
                  go_wp2_with (go_at_call 65; refine (spoil_any _ hP.out).mono ?_; rintro e w1 ⟨rfl, hpc, hg⟩)
                  all_goals
                    go_ret
                    exact ⟨hg, .inr ⟨fun y j hs => (by rw [HN.out] at hs; cases hs; exact ht), rfl, hpc⟩⟩
                · go_wp2_with fail
                  all_goals (go_ret; refine ⟨grown_set (grown_self _ _) _, .inl ⟨z, k + 1, HN.out, by omega, rfl, ?_⟩⟩; first | exact cut_end HB.out hR (by omega) hn (by omega) | exact cut_mid HB.out hR (by omega) hn (by unfold maxLen; omega))
      · have HN := Lib.hid (show scan 0 0 l = none by rw [HI.out.2, List.drop_of_length_le (by have : l.length = n := (by simpa using hR.1); omega)]; rfl)
        go_wp2_with (go_at_call 65; refine (spoil_any _ hP.out).mono ?_; rintro e w1 ⟨rfl, hpc, hg⟩)
        all_goals
          go_ret
          exact ⟨hg, .inr ⟨fun y j hs => (by rw [HN.out] at hs; cases hs), rfl, hpc⟩⟩
end Go.Proofs.Ytejijghghbicdaa
