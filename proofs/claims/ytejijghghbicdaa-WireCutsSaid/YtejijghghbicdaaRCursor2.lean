/-
  The reference's cursor, by contracts: Word reads what scan says.
-/
import Derived.Test.YtejijghghbicdaaRCursor
namespace Go.Proofs.Ytejijghghbicdaa
open Go.RowKit
variable {B : Nat}
set_option linter.unusedSimpArgs false
set_option linter.unusedVariables false

set_option maxHeartbeats 1000000 in
theorem rcword_bad {g : Nat} {l : List Nat} (w : World) (h : RC w B g l true) :
    Calls Try.prog 30 #[.pointer (some ⟨g, 0, none⟩)] w fun e w' => e = .returned (.int .u64 0) ∧ w = w' := by
  obtain ⟨A, n, c, a, all, hB, hR, hBg, ha, hn, h1, h2⟩ := h
  have c0 := hB.c
  have HR := Lib.hid hR
  clear h1 h2 hR
  go_enter Try.func30, Try.ntmps30
  go_wp2_with fail
  go_ret
  exact ⟨rfl, rfl⟩

theorem set_rc {w : World} {g n c a j : Nat} {v : Int} {A : Option Addr} {all l : List Nat} (hB : Blk w g 43 #[.slice A n c, .int .i64 (a : Nat), .bool false]) (hR : Reads w B 1 A n (u8s all)) (hBg : B ≤ g) (hj : a + j ≤ n) (hn : n ≤ 1000000000) (hl : l = all.drop (a + j)) (hv : v = ((a + j : Nat) : Int)) :
    RC (w.setCell ⟨g, 1, none⟩ (.int .i64 v)) B g l false := by
  subst hv
  exact ⟨A, n, c, a + j, all, by simpa using hB.set_ 1 (.int .i64 ((a + j : Nat) : Int)), hR.setCell hBg _, hBg, hj, hn, fun h => (by cases h), fun _ => hl⟩
theorem set_rbad {w : World} {g n c a : Nat} {A : Option Addr} {all : List Nat} {bad : Bool} (hB : Blk w g 43 #[.slice A n c, .int .i64 (a : Nat), .bool bad]) (hR : Reads w B 1 A n (u8s all)) (hBg : B ≤ g) (ha : a ≤ n) (hn : n ≤ 1000000000) :
    RC (w.setCell ⟨g, 2, none⟩ (.bool true)) B g [] true :=
  ⟨A, n, c, a, all, by simpa using hB.set_ 2 (.bool true), hR.setCell hBg _, hBg, ha, hn, fun _ => rfl, fun h => by cases h⟩
theorem and127 {d : Nat} (hd : d < 256) : bits .and .u64 (d : Int) 127 = ((d % 128 : Nat) : Int) := by
  have := u64_and_nat d 127 (by omega) (by omega)
  rw [show ((127 : Nat) : Int) = 127 from rfl] at this
  rw [this, show (127 : Nat) = 2 ^ 7 - 1 from rfl, Nat.and_two_pow_sub_one_eq_mod]
theorem acc_and {y k d : Nat} (hk : k ≤ 9) (hy : y < 128 ^ k) (hd : d < 256) (h9 : ¬ (k = 9 ∧ 1 < d)) :
    bits .or .u64 (y : Int) (IntKind.u64.wrap (bits .and .u64 (d : Int) 127 * 2 ^ (7 * k))) = ((y + d % 128 * 128 ^ k : Nat) : Int) := by
  have := acc_or hk hy hd h9
  rw [andNot128 hd, wrap_small (by unfold W64; omega)] at this
  rw [and127 hd]; exact this

theorem grown_drewN {w w' : World} {r : Option Nat} (h : w.grownBy w' r) (n : Nat) : w.grownBy (w'.drewN n) r := ⟨h.os, h.tape, h.output, h.size, h.block⟩
theorem acc_and9 {y k d z : Nat} (hk : k = 9) (h : bits .or .u64 (y : Int) (IntKind.u64.wrap (bits .and .u64 (d : Int) 127 * 2 ^ (7 * k))) = ((z : Nat) : Int)) :
    bits .or .u64 (y : Int) (IntKind.u64.wrap (bits .and .u64 (d : Int) 127 * 9223372036854775808)) = ((z : Nat) : Int) := by
  subst hk
  rw [← h]
  rfl
set_option maxRecDepth 100000 in
set_option maxHeartbeats 4000000 in
theorem rcword_good {g n c a : Nat} {A : Option Addr} {all : List Nat} (w : World) (hB : Blk w g 43 #[.slice A n c, .int .i64 (a : Nat), .bool false]) (hR : Reads w B 1 A n (u8s all)) (hBg : B ≤ g) (ha : a ≤ n) (hn : n ≤ 1000000000) (hl : ∀ d ∈ all.drop a, d < 256) :
    Calls Try.prog 30 #[.pointer (some ⟨g, 0, none⟩)] w fun e w' => w.grownBy w' (some g) ∧
      ((∃ y j, scan 0 0 (all.drop a) = some (y, j) ∧ e = .returned (.int .u64 (y : Nat)) ∧ RC w' B g ((all.drop a).drop j) false) ∨ (scan 0 0 (all.drop a) = none ∧ e = .returned (.int .u64 0) ∧ RC w' B g [] true)) := by
  have c0 := hB.c
  have f0 := hB.f
  have HL := Lib.hid hl
  have HB := Lib.hid hB
  clear hl hB
  go_enter Try.func30, Try.ntmps30
  go_wp2_with fail
  go_loopw [3, 4] (fun x i wr => ∃ (k y q : Nat), k ≤ 9 ∧ a + k ≤ n ∧ i = .int .i64 k ∧ x = .int .u64 (y : Nat) ∧ wr = w.drewN q ∧ Hid (y < 128 ^ k ∧ scan 0 0 (all.drop a) = scan k y (all.drop (a + k)))) (fun _ i _ => 10 - (intOf i).toNat)
  case atStart => exact ⟨0, 0, 0, by omega, by omega, rfl, rfl, rfl, by simp [Hid]⟩
  case round =>
    obtain ⟨k, y, q, hk9, hkn, rfl, rfl, rfl, HI⟩ := hrel
    have es : IntKind.i64.wrap ((a : Int) + (k : Int)) = (a : Int) + (k : Int) := IntWalk.i64_in _ (by omega)
    have es0 : 0 ≤ (a : Int) + (k : Int) := by omega
    have est : ((a : Int) + (k : Int)).toNat = a + k := by omega
    have hll : all.length = n := by simpa using hR.1
    by_cases hlt : a + k < n
    · have hlt' : (a : Int) + (k : Int) < (n : Int) := by omega
      obtain ⟨ad, u, rfl, _, hu, hd⟩ := hR.at_ hlt
      have hkl : a + k < all.length := by omega
      have eu : u = .int .u8 (all[a + k] : Nat) := by
        simp [u8s, hkl] at hu; exact hu.symm
      subst eu
      clear hu
      obtain ⟨d, hdk⟩ : ∃ d, d = all[a + k] := ⟨_, rfl⟩
      rw [← hdk] at hd
      have hd256 : d < 256 := by rw [hdk]; exact HL.out _ (List.mem_iff_getElem.2 ⟨k, by simp; omega, by simp⟩)
      have HD := Lib.hid (show all.drop (a + k) = d :: all.drop (a + k + 1) by rw [hdk]; exact List.drop_eq_getElem_cons hkl)
      have HR := Lib.hid hR
      clear hdk hkl hll hR
      by_cases h9 : k = 9 ∧ 1 < d
      · have HN := Lib.hid (show scan 0 0 (all.drop a) = none by rw [HI.out.2, HD.out, scan, if_pos h9])
        have hk9' : 9 ≤ k := by omega
        have hd1 : 1 < d := h9.2
        have hk9b : ((k : Int) == 9) = true := by simp; omega
        clear h9
        go_wp2_with fail
        go_quiet (fail)
        go_wp2_with fail
        go_quiet (fail)
        go_wp2_with fail
        go_ret
        exact ⟨grown_set (by repeat (first | exact grown_self _ _ | refine grown_drewN ?_ _)) _, .inr ⟨HN.out, rfl, set_rbad (HB.out.drewN _) (HR.out.drewN _) hBg ha hn⟩⟩
      · obtain ⟨z, hz⟩ : ∃ z, z = y + d % 128 * 128 ^ k := ⟨_, rfl⟩
        have e := acc_and hk9 HI.out.1 hd256 h9
        rw [← hz] at e
        have HZ := Lib.hid (show z < 128 ^ (k + 1) by rw [hz]; exact acc_lt HI.out.1)
        have HS := Lib.hid (show scan 0 0 (all.drop a) = if 128 ≤ d then scan (k + 1) z (all.drop (a + k + 1)) else if 0 < k ∧ d = 0 then none else some (z, k + 1) by rw [HI.out.2, HD.out, scan, if_neg h9, hz])
        have H9 := Lib.hid h9
        have HE := Lib.hid e
        have HE9 := Lib.hid (fun h : k = 9 => acc_and9 h e)
        clear hz h9 e
        by_cases h1 : 128 ≤ d
        · have hk8 : ((k : Int) == 9) = false := by have := H9.out; simp; omega
          have hk8' : k < 9 := by have := H9.out; omega
          have e := HE.out
          go_wp2_with fail
          go_quiet (fail)
          go_wp2_with fail
          go_quiet (fail)
          go_wp2_with fail
          go_roundw
          case rel => exact ⟨k + 1, z, _, by omega, by omega, by go_num, rfl, rfl, HZ.out, by rw [HS.out, if_pos h1]; rfl⟩
          case measure => simp [intOf]; omega
        · by_cases h2 : 0 < k ∧ d = 0
          · have HN := Lib.hid (show scan 0 0 (all.drop a) = none by rw [HS.out, if_neg h1, if_pos h2])
            have hk0 : 0 < k := h2.1
            have hdb : ((d : Int) == 0) = true := by simp; omega
            have hd9 : d ≤ 1 := by omega
            clear h2
            by_cases hk9' : 9 ≤ k
            · have hk9b : ((k : Int) == 9) = true := by simp; omega
              have e := HE9.out (by omega)
              go_wp2_with fail
              go_quiet (fail)
              go_wp2_with fail
              go_quiet (fail)
              go_wp2_with fail
              all_goals
                go_ret
                exact ⟨grown_set (by repeat (first | exact grown_self _ _ | refine grown_drewN ?_ _)) _, .inr ⟨HN.out, rfl, set_rbad (HB.out.drewN _) (HR.out.drewN _) hBg ha hn⟩⟩
            · have hk9b : ((k : Int) == 9) = false := by simp; omega
              have e := HE.out
              go_wp2_with fail
              go_quiet (fail)
              go_wp2_with fail
              go_quiet (fail)
              go_wp2_with fail
              all_goals
                go_ret
                exact ⟨grown_set (by repeat (first | exact grown_self _ _ | refine grown_drewN ?_ _)) _, .inr ⟨HN.out, rfl, set_rbad (HB.out.drewN _) (HR.out.drewN _) hBg ha hn⟩⟩
          · have HN := Lib.hid (show scan 0 0 (all.drop a) = some (z, k + 1) by rw [HS.out, if_neg h1, if_neg h2])
            have H2 := Lib.hid h2
            clear h2
            by_cases hk9' : 9 ≤ k
            · have hk9b : ((k : Int) == 9) = true := by simp; omega
              have hd9 : d ≤ 1 := by have := H9.out; omega
              have hdb : ((d : Int) == 0) = false := by have := H2.out; simp; omega
              have e := HE.out
              go_wp2_with fail
              go_quiet (fail)
              go_wp2_with fail
              go_quiet (fail)
              go_wp2_with fail
              go_ret
              exact ⟨grown_set (by repeat (first | exact grown_self _ _ | refine grown_drewN ?_ _)) _, .inl ⟨z, k + 1, HN.out, rfl, set_rc (j := k + 1) (HB.out.drewN _) (HR.out.drewN _) hBg (by omega) hn (by rw [List.drop_drop]) (by omega)⟩⟩
            · have hk9b : ((k : Int) == 9) = false := by simp; omega
              have e := HE.out
              by_cases hd0 : d = 0
              · have hdb : ((d : Int) == 0) = true := by simp; omega
                have hk0 : ¬ 0 < k := by have := H2.out; omega
                have HD0 := Lib.hid hd0
                clear hd0
                go_wp2_with fail
                go_quiet (fail)
                go_wp2_with fail
                go_quiet (fail)
                go_wp2_with fail
                all_goals
                  go_ret
                  exact ⟨grown_set (by repeat (first | exact grown_self _ _ | refine grown_drewN ?_ _)) _, .inl ⟨z, k + 1, HN.out, rfl, set_rc (j := k + 1) (HB.out.drewN _) (HR.out.drewN _) hBg (by omega) hn (by rw [List.drop_drop]) (by omega)⟩⟩
              · have hdb : ((d : Int) == 0) = false := by simp; omega
                go_wp2_with fail
                go_quiet (fail)
                go_wp2_with fail
                go_quiet (fail)
                go_wp2_with fail
                all_goals
                  go_ret
                  exact ⟨grown_set (by repeat (first | exact grown_self _ _ | refine grown_drewN ?_ _)) _, .inl ⟨z, k + 1, HN.out, rfl, set_rc (j := k + 1) (HB.out.drewN _) (HR.out.drewN _) hBg (by omega) hn (by rw [List.drop_drop]) (by omega)⟩⟩
    · have HN := Lib.hid (show scan 0 0 (all.drop a) = none by rw [HI.out.2, List.drop_of_length_le (by omega)]; rfl)
      have hlt' : ¬ ((a : Int) + (k : Int) < (n : Int)) := by omega
      have HR := Lib.hid hR
      clear hll hR
      go_wp2_with fail
      go_quiet (fail)
      go_wp2_with fail
      go_ret
      exact ⟨grown_set (by repeat (first | exact grown_self _ _ | refine grown_drewN ?_ _)) _, .inr ⟨HN.out, rfl, set_rbad (HB.out.drewN _) (HR.out.drewN _) hBg ha hn⟩⟩

theorem rcword_any {g : Nat} {l : List Nat} {bad : Bool} (w : World) (h : RC w B g l bad) (hl : ∀ d ∈ l, d < 256) :
    Calls Try.prog 30 #[.pointer (some ⟨g, 0, none⟩)] w fun e w' => e = .returned (.int .u64 (rdV topW l : Nat)) ∧ RC w' B g (rdL topW l) (rdB topW l bad) ∧ w.grownBy w' (some g) := by
  cases bad
  · obtain ⟨A, n, c, a, all, hB, hR, hBg, ha, hn, h1, h2⟩ := h
    have e := h2 rfl
    subst e
    refine (rcword_good w hB hR hBg ha hn hl).mono ?_
    rintro e w' ⟨hg, ⟨y, j, hs, rfl, hp⟩ | ⟨hs, rfl, hp⟩⟩
    · have hy := (enc_of_scan hl hs).1
      have := rd_of (top := topW) hs (by unfold W64 at hy; unfold topW; omega)
      simp only [rdV, rdL, rdB, this, Option.map_some, Option.getD_some, Option.isSome_some, if_true]
      first | exact ⟨rfl, hp, hg⟩ | exact ⟨trivial, hp, hg⟩
    · have : rd topW (all.drop a) = none := rd_none fun y j h => by rw [hs] at h; cases h
      simp only [rdV, rdL, rdB, this, Option.map_none, Option.getD_none, Option.isSome_none, Bool.false_eq_true, if_false]
      first | exact ⟨rfl, hp, hg⟩ | exact ⟨trivial, hp, hg⟩
  · have hl0 : l = [] := by obtain ⟨A, n, c, a, all, hB, hR, hBg, ha, hn, h1, h2⟩ := h; exact h1 rfl
    subst hl0
    refine (rcword_bad w h).mono ?_
    rintro e w' ⟨rfl, rfl⟩
    exact ⟨rfl, h, grown_self _ _⟩

theorem rd_topI_of {l l' : List Nat} {y : Nat} (h : rd topW l = some (y, l')) : rd topI l = if y ≤ topI then some (y, l') else none := by
  unfold rd at h ⊢
  split at h
  · rename_i y' j hs
    split at h
    · simp only [Option.some.injEq, Prod.mk.injEq] at h
      obtain ⟨rfl, rfl⟩ := h
      rfl
    · cases h
  · cases h
theorem rd_topI_none {l : List Nat} (hl : ∀ d ∈ l, d < 256) (h : rd topW l = none) : rd topI l = none := by
  refine rd_none fun y j hs => ?_
  have hy := (enc_of_scan hl hs).1
  have := rd_of (top := topW) hs (by unfold W64 at hy; unfold topW; omega)
  rw [h] at this
  cases this
theorem topI_lt {y : Nat} (h : ¬ y ≤ topI) : 9223372036854775807 < (y : Int) := by rw [← topI_cast]; omega
theorem topI_ge {y : Nat} (h : y ≤ topI) : ¬ 9223372036854775807 < (y : Int) := by have := topI_cast; omega
theorem topI_wrap {y : Nat} (h : y ≤ topI) : IntKind.i64.wrap (y : Int) = (y : Int) := IntWalk.i64_in _ (by have := topI_cast; omega)
theorem rdV_le_ {l : List Nat} {y : Nat} (h : y = rdV topW l) (h0 : rd topW l = none) : y = 0 := by rw [h, rdV, h0]; rfl

set_option maxHeartbeats 1000000 in
theorem rcint_any {g : Nat} {l : List Nat} {bad : Bool} (w : World) (h : RC w B g l bad) (hl : ∀ d ∈ l, d < 256) :
    Calls Try.prog 29 #[.pointer (some ⟨g, 0, none⟩)] w fun e w' => e = .returned (.int .i64 (rdV topI l : Nat)) ∧ RC w' B g (rdL topI l) (rdB topI l bad) ∧ w.grownBy w' (some g) := by
  have hP := Lib.hid h
  have hL := Lib.hid hl
  clear h hl
  go_enter Try.func29, Try.ntmps29
  go_wp2_with fail
  refine (rcword_any _ hP.out hL.out).mono ?_
  rintro e w1 ⟨rfl, hp, hg⟩
  cases hr : rd topW l with
  | none =>
    have h2 := rd_topI_none hL.out hr
    have HI := Lib.hid (show rdV topI l = 0 ∧ rdL topI l = [] ∧ rdB topI l bad = true by simp [rdV, rdL, rdB, h2])
    have hp2 : RC w1 B g [] true := by simpa [rdL, rdB, hr] using hp
    have HV : rdV topW l = 0 := by simp [rdV, hr]
    rw [HV]
    clear hr h2 HV hp
    go_wp2_with fail
    go_ret
    rw [HI.out.1, HI.out.2.1, HI.out.2.2]
    exact ⟨rfl, hp2, hg⟩
  | some r =>
    obtain ⟨y, l'⟩ := r
    have h2 := rd_topI_of hr
    have HV : rdV topW l = y := by simp [rdV, hr]
    have hp2 : RC w1 B g l' bad := by simpa [rdL, rdB, hr] using hp
    rw [HV]
    by_cases hy : y ≤ topI
    · rw [if_pos hy] at h2
      have HI := Lib.hid (show rdV topI l = y ∧ rdL topI l = l' ∧ rdB topI l bad = bad by simp [rdV, rdL, rdB, h2])
      have hw := topI_wrap hy
      have hn := topI_ge hy
      clear hr h2 HV hp hy
      go_wp2_with fail
      go_ret
      rw [HI.out.1, HI.out.2.1, HI.out.2.2]
      exact ⟨rfl, hp2, hg⟩
    · rw [if_neg hy] at h2
      have HI := Lib.hid (show rdV topI l = 0 ∧ rdL topI l = [] ∧ rdB topI l bad = true by simp [rdV, rdL, rdB, h2])
      have hn := topI_lt hy
      have HP2 := Lib.hid hp2
      obtain ⟨A, n, c, a, all, hB, hR, hBg, ha, hn1, _, _⟩ := hp2
      have c0 := hB.c
      have f0 := hB.f
      clear hr h2 HV hp hy hB hR ha hn1
      go_wp2_with fail
      go_ret
      rw [HI.out.1, HI.out.2.1, HI.out.2.2]
      exact ⟨rfl, HP2.out.spoiled, grown_set hg _⟩
end Go.Proofs.Ytejijghghbicdaa
