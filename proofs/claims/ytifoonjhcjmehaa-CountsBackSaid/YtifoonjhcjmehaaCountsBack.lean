/-
  CountsBack: changes, taken back in any order, leave what was there; the call returns true and changes nothing that was in memory.
-/
import Derived.Test.YtifoonjhcjmehaaBackLaw
namespace Go.Proofs.Ytifoonjhcjmehaa
open Go.ChangeShapes Go.WideShapes Go.ChangeAt Go.RowKit Go.Joins
set_option linter.unusedSimpArgs false
set_option linter.unusedVariables false
theorem wrap_bck (n : Int) : IntKind.i64.wrap (-bits .and .i64 n 255) = bck n := by
  show IntKind.i64.wrap (-fnd n) = -fnd n
  have := fnd_both n
  rw [IntKind.wrap_i64]
  omega

set_option maxHeartbeats 400000 in
theorem cback_early0 {A0 A1 : Option Addr} {n0 c0 n1 c1 : Nat} {a2 : Int} (w : World) (h0 : 30 < n0) : Calls Try.prog 10 #[.slice A0 n0 c0, .slice A1 n1 c1, .int .i64 a2] w fun e w' => e = .returned (.bool true) ∧ Below w.heap.size w w' := by
  go_enter Try.func10, Try.ntmps10
  go_wp2_with fail
  refine (alive4_any _).mono ?_
  rintro e w1 ⟨rfl, HB⟩
  go_wp2_with fail
  go_ret
  exact ⟨rfl, HB⟩

set_option maxHeartbeats 400000 in
theorem cback_early1 {A0 A1 : Option Addr} {n0 c0 n1 c1 : Nat} {a2 : Int} (w : World) (h0 : ¬ 30 < n0) (h1 : 30 < n1) : Calls Try.prog 10 #[.slice A0 n0 c0, .slice A1 n1 c1, .int .i64 a2] w fun e w' => e = .returned (.bool true) ∧ Below w.heap.size w w' := by
  go_enter Try.func10, Try.ntmps10
  go_wp2_with fail
  refine (alive4_any _).mono ?_
  rintro e w1 ⟨rfl, HB⟩
  go_wp2_with fail
  go_ret
  exact ⟨rfl, HB⟩

set_option maxHeartbeats 400000 in
theorem cback_early2 {A0 A1 : Option Addr} {n0 c0 n1 c1 : Nat} {a2 : Int} (w : World) (h0 : ¬ 30 < n0) (h1 : ¬ 30 < n1) (h2 : a2 < 0) : Calls Try.prog 10 #[.slice A0 n0 c0, .slice A1 n1 c1, .int .i64 a2] w fun e w' => e = .returned (.bool true) ∧ Below w.heap.size w w' := by
  go_enter Try.func10, Try.ntmps10
  go_wp2_with fail
  refine (alive4_any _).mono ?_
  rintro e w1 ⟨rfl, HB⟩
  go_wp2_with fail
  go_ret
  exact ⟨rfl, HB⟩

set_option maxHeartbeats 400000 in
theorem cback_early3 {A0 A1 : Option Addr} {n0 c0 n1 c1 : Nat} {a2 : Int} (w : World) (h0 : ¬ 30 < n0) (h1 : ¬ 30 < n1) (h2 : ¬ a2 < 0) (h3 : (n1 : Int) < a2) : Calls Try.prog 10 #[.slice A0 n0 c0, .slice A1 n1 c1, .int .i64 a2] w fun e w' => e = .returned (.bool true) ∧ Below w.heap.size w w' := by
  go_enter Try.func10, Try.ntmps10
  go_wp2_with fail
  refine (alive4_any _).mono ?_
  rintro e w1 ⟨rfl, HB⟩
  go_wp2_with fail
  go_ret
  exact ⟨rfl, HB⟩

set_option maxRecDepth 100000 in
set_option maxHeartbeats 8000000 in
theorem cback_eq {A0 A1 : Option Addr} {n0 c0 n1 k : Nat} {l0 l1 : List Ac} (w : World) (r0 : Acs w w.heap.size A0 n0 l0) (hok0 : ∀ a ∈ l0, a.ok) (r1 : Acs w w.heap.size A1 n1 l1) (hok1 : ∀ a ∈ l1, a.ok) (hk : k ≤ n1) (hnc : n1 ≤ k)  (h0 : ¬ 30 < n0) (h1 : ¬ 30 < n1) : Calls Try.prog 10 #[.slice A0 n0 c0, .slice A1 n1 k, .int .i64 k] w fun e w' => e = .returned (.bool true) ∧ Below w.heap.size w w' := by
  obtain ⟨i0, z0, hi0, hz0, hz3, hz1, hz2⟩ := act_parts
  have H0 := Lib.hid r0
  have H1 := Lib.hid r1
  have HL0 := Lib.hid (Acs.len r0)
  have HL1 := Lib.hid (Acs.len r1)
  have HOK0 := Lib.hid hok0
  have HOK1 := Lib.hid hok1
  have HTK := Lib.hid (Acs.take r1 hk)
  have hm0 : n1 - k = 0 := by omega
  have hD := Acs.drop r1 hk hnc
  rw [if_pos rfl, hm0] at hD
  have HTD := Lib.hid hD
  have hkc2 : k ≤ k := Nat.le_refl k
  have hkn : (k : Int) ≤ (n1 : Int) := by omega
  have HOKM : Hid (∀ a ∈ l1.drop k ++ l1.take k, a.ok) := Lib.hid (fun a ha => hok1 a ((List.mem_append.1 ha).elim List.mem_of_mem_drop List.mem_of_mem_take))
  have HLM : Hid ((l1.drop k ++ l1.take k).length = n1) := Lib.hid (by have := HL1.out; simp; omega)
  have HLAW := Lib.hid (back_law (l0 := l0) (l1 := l1) (k := k) (by have := HL0.out; omega) (by have := HL1.out; omega))
  have HLL := Lib.hid (accL_length fnd [] l0)
  clear r0 r1 hok0 hok1 hD
  go_enter Try.func10, Try.ntmps10
  go_wp2_with fail
  refine (alive4_any _).mono ?_
  rintro e w1 ⟨rfl, HB⟩
  have HCS := Lib.hid (CS.new w1 (B := w.heap.size) HB.size)
  have HB := Lib.hid (HB.alloc HB.size (.cells #[.map none] 26))
  go_wp2_with fail
  have hd : decide (n1 < k) = false := by simp; omega
  simp only [hd, Bool.or_false]
  have HKN := Lib.hid hkn
  have HKC := Lib.hid hkc2
  have HK := Lib.hid hk
  clear hk hkn hkc2 hd
  go_loopw [9] (fun vi wr => ∃ i : Nat, i ≤ n0 ∧ vi = .int .i64 i ∧ Hid (CS wr w.heap.size w1.heap.size (i) (accL fnd [] (l0.take i))) ∧ Hid (Below w.heap.size w wr)) (fun vi _ => n0 - (intOf vi).toNat)
  case atStart => exact ⟨0, Nat.zero_le _, rfl, HCS, HB⟩
  case round =>
    obtain ⟨i, hi, rfl, HCS, HB⟩ := hrel
    by_cases hlt : i < n0
    · obtain ⟨ad, rfl, hab, hmem, hc0, hc1, hc2⟩ := Acs.ac (H0.out.below HB.out) hlt
      have hpb : (ad.add (i * 3)).block < w.heap.size := by rw [block_of_add]; exact hab
      have hsucc := accL_succ fnd ([]) (l := l0) (k := i) (by have := HL0.out; omega)
      obtain ⟨x, hx⟩ : ∃ x, acAt l0 i = x := ⟨_, rfl⟩
      have HX := Lib.hid hx
      rw [hx] at hmem hc0 hc1 hc2 hsucc
      have HXO := Lib.hid (HOK0.out x hmem).1
      have HSUCC := Lib.hid hsucc
      have hfb := fnd_both x.n
      clear hx hmem hsucc
      go_wp2_with fail
      refine wp_region_held_drew (S := (fun W => W.cell? (ad.add (i * 3)) = some (.int .i64 x.t.e) ∧ W.cell? ⟨(ad.add (i * 3)).block, (ad.add (i * 3)).off + 1, none⟩ = some (.int .i64 x.t.l) ∧ W.cell? ⟨(ad.add (i * 3)).block, (ad.add (i * 3)).off + 2, none⟩ = some (.int .i64 x.n))) (by kernel_rfl) (⟨hc0, hc1, hc2⟩) (fun hHeld => ?_)
      refine wpAnyH_take (i := 0) (v := ?_) rfl (by kernel_rfl) (by kernel_rfl) (by kernel_rfl) (fun _ _ _ h => h) (Or.inl ⟨by rfl, ?_⟩) hHeld ?_
      rotate_left
      · intro W hS
        try dsimp only at hS
        go_simp
        try with_reducible rfl
      try simp only [List.getElem_toArray, List.getElem_cons_succ, List.getElem_cons_zero, Act.put, List.setIfInBounds_toArray, List.set_cons_zero, List.set_cons_succ]
      refine wpAnyH_take (i := 1) (v := ?_) rfl (by kernel_rfl) (by kernel_rfl) (by kernel_rfl) (fun _ _ _ h => h) (Or.inl ⟨by rfl, ?_⟩) hHeld ?_
      rotate_left
      · intro W hS
        try dsimp only at hS
        go_simp
        try with_reducible rfl
      try simp only [List.getElem_toArray, List.getElem_cons_succ, List.getElem_cons_zero, Act.put, List.setIfInBounds_toArray, List.set_cons_zero, List.set_cons_succ]
      refine wpAnyH_take (i := 2) (v := ?_) rfl (by kernel_rfl) (by kernel_rfl) (by kernel_rfl) (fun _ _ _ h => h) (Or.inl ⟨by rfl, ?_⟩) hHeld ?_
      rotate_left
      · intro W hS
        try dsimp only at hS
        go_simp
        try with_reducible rfl
      try simp only [List.getElem_toArray, List.getElem_cons_succ, List.getElem_cons_zero, Act.put, List.setIfInBounds_toArray, List.set_cons_zero, List.set_cons_succ]
      refine wpAnyH_take (i := 3) (v := ?_) rfl (by kernel_rfl) (by kernel_rfl) (by kernel_rfl) (fun _ _ _ h => h) (Or.inl ⟨by rfl, ?_⟩) hHeld ?_
      rotate_left
      · intro W hS
        try dsimp only at hS
        go_simp
        try with_reducible rfl
      try simp only [List.getElem_toArray, List.getElem_cons_succ, List.getElem_cons_zero, Act.put, List.setIfInBounds_toArray, List.set_cons_zero, List.set_cons_succ]
      refine wpAnyH_take (i := 4) (v := ?_) rfl (by kernel_rfl) (by kernel_rfl) (by kernel_rfl) (fun _ _ _ h => h) (Or.inl ⟨by rfl, ?_⟩) hHeld ?_
      rotate_left
      · intro W hS
        try dsimp only at hS
        go_simp
        try with_reducible rfl
      try simp only [List.getElem_toArray, List.getElem_cons_succ, List.getElem_cons_zero, Act.put, List.setIfInBounds_toArray, List.set_cons_zero, List.set_cons_succ]
      refine wpAnyH_take (i := 5) (v := ?_) rfl (by kernel_rfl) (by kernel_rfl) (by kernel_rfl) (fun _ _ _ h => h) (Or.inl ⟨by rfl, ?_⟩) hHeld ?_
      rotate_left
      · intro W hS
        try dsimp only at hS
        go_simp
        try with_reducible rfl
      try simp only [List.getElem_toArray, List.getElem_cons_succ, List.getElem_cons_zero, Act.put, List.setIfInBounds_toArray, List.set_cons_zero, List.set_cons_succ]
      refine wpAnyH_take (i := 6) (v := ?_) rfl (by kernel_rfl) (by kernel_rfl) (by kernel_rfl) (fun _ _ _ h => h) (Or.inl ⟨by rfl, ?_⟩) hHeld ?_
      rotate_left
      · intro W hS
        try dsimp only at hS
        go_simp
        try with_reducible rfl
      try simp only [List.getElem_toArray, List.getElem_cons_succ, List.getElem_cons_zero, Act.put, List.setIfInBounds_toArray, List.set_cons_zero, List.set_cons_succ]
      refine wpAnyH_take (i := 7) (v := ?_) rfl (by kernel_rfl) (by kernel_rfl) (by kernel_rfl) (fun _ _ _ h => h) (Or.inl ⟨by rfl, ?_⟩) hHeld ?_
      rotate_left
      · intro W hS
        try dsimp only at hS
        go_simp
        try with_reducible rfl
      try simp only [List.getElem_toArray, List.getElem_cons_succ, List.getElem_cons_zero, Act.put, List.setIfInBounds_toArray, List.set_cons_zero, List.set_cons_succ]
      refine wpAnyH_take (i := 8) (v := ?_) rfl (by kernel_rfl) (by kernel_rfl) (by kernel_rfl) (fun _ _ _ h => h) (Or.inl ⟨by rfl, ?_⟩) hHeld ?_
      rotate_left
      · intro W hS
        try dsimp only at hS
        go_simp
        try with_reducible rfl
      try simp only [List.getElem_toArray, List.getElem_cons_succ, List.getElem_cons_zero, Act.put, List.setIfInBounds_toArray, List.set_cons_zero, List.set_cons_succ]
      refine wpAnyH_take (i := 9) (v := ?_) rfl (by kernel_rfl) (by kernel_rfl) (by kernel_rfl) (fun _ _ _ h => h) (Or.inl ⟨by rfl, ?_⟩) hHeld ?_
      rotate_left
      · intro W hS
        try dsimp only at hS
        go_simp
        try with_reducible rfl
      try simp only [List.getElem_toArray, List.getElem_cons_succ, List.getElem_cons_zero, Act.put, List.setIfInBounds_toArray, List.set_cons_zero, List.set_cons_succ]
      refine wpAnyH_take (i := 10) (v := ?_) rfl (by kernel_rfl) (by kernel_rfl) (by kernel_rfl) (fun _ _ _ h => h) (Or.inl ⟨by rfl, ?_⟩) hHeld ?_
      rotate_left
      · intro W hS
        try dsimp only at hS
        go_simp
        try with_reducible rfl
      try simp only [List.getElem_toArray, List.getElem_cons_succ, List.getElem_cons_zero, Act.put, List.setIfInBounds_toArray, List.set_cons_zero, List.set_cons_succ]
      refine wpAnyH_ready (rs := [11]) (by kernel_rfl) (by simp) ?_
      refine AllReadyH.cons rfl (fun K hK => ?_) AllReadyH.nil
      go_simp
      refine (cs_add (n := fnd x.n) _ HCS.out.drew HXO.out (by omega) rfl).mono ?_
      rintro e w3 ⟨rfl, hcs, hb, hk⟩
      refine hK.out _ _ (⟨(hb.cell hpb).trans hc0, (hb.cell (p := ⟨(ad.add (i * 3)).block, (ad.add (i * 3)).off + 1, none⟩) hpb).trans hc1, (hb.cell (p := ⟨(ad.add (i * 3)).block, (ad.add (i * 3)).off + 2, none⟩) hpb).trans hc2⟩) (fun hHeld => ?_)
      clear hK K
      try simp only [List.getElem_toArray, List.getElem_cons_succ, List.getElem_cons_zero, Act.put, List.setIfInBounds_toArray, List.set_cons_zero, List.set_cons_succ]
      refine wpAnyH_done (by kernel_rfl) ?_ _
      rw [← HSUCC.out] at hcs
      have HCS3 := Lib.hid hcs
      have HB3 := Lib.hid (HB.out.drew.trans hb)
      clear hcs hk hb hHeld
      go_wp2_with fail
      go_roundw
      case rel => exact ⟨i + 1, by omega, by go_num, HCS3, HB3⟩
      case measure => simp [intOf]; omega
    · obtain rfl : n0 = i := by omega
      rw [List.take_of_length_le (by have := HL0.out; omega)] at HCS
      have HLEN : Hid ((accL fnd [] l0).length ≤ n0) := Lib.hid (by have h1 := HLL.out; have h2 := HL0.out; simp only [List.length_nil] at h1; omega)
      obtain ⟨L, hL⟩ : ∃ L, accL fnd [] l0 = L := ⟨_, rfl⟩
      rw [hL] at HCS HLAW HLEN
      clear hL HLL
      go_wp2_with fail
      refine (cs_front _ HCS.out (by omega) (by have := HLEN.out; omega)).mono ?_
      rintro e w4 ⟨A4, M4, c4, f, rfl, hf, hM4, hO4, hb4⟩
      have hM40 : M4 ≤ 30 := by have := HLEN.out; omega
      have HF := Lib.hid hf
      have HO4 := Lib.hid hO4
      have HCS4 := Lib.hid (HCS.out.on hb4)
      have HB4 := Lib.hid (below_after HB.out hb4 HB.out.size)
      obtain ⟨b4, hb4e⟩ : ∃ b, b = wr.heap.size := ⟨_, rfl⟩
      rw [← hb4e] at HO4
      clear hf hM4 hO4 hb4 hb4e
      go_wp2_with fail
      refine (cs_times _ HCS4.out (by omega) (by have := HLEN.out; omega)).mono ?_
      rintro e w5 ⟨A5, M5, c5, rfl, hM5, hO5, hb5⟩
      have hM50 : M5 ≤ 30 := by have := HLEN.out; omega
      have HG := Lib.hid ((Keep.of_below hb5).own HO4.out (by decide))
      have HT := Lib.hid hO5
      have HCS := Lib.hid (HCS4.out.on hb5)
      have HB := Lib.hid (below_after HB4.out hb5 HB4.out.size)
      clear hM5 hO5 hb5 HCS4 HB4 HO4
      go_wp2_with fail
      go_loopw [12] (fun vi wr => ∃ i : Nat, i ≤ n1 ∧ vi = .int .i64 i ∧ Hid (CS wr w.heap.size w1.heap.size (n0 + i) (accL fnd L (l1.take i))) ∧ Hid (wr.ownsRow b4 33 2 (.slice A4 M4 c4) M4 (tmCells f)) ∧ Hid (wr.ownsRow w4.heap.size 33 2 (.slice A5 M5 c5) M5 (tmCells (tmsL L))) ∧ Hid (Below w.heap.size w wr)) (fun vi _ => n1 - (intOf vi).toNat)
      case atStart => exact ⟨0, Nat.zero_le _, rfl, HCS, HG, HT, HB⟩
      case round =>
        obtain ⟨i, hi, rfl, HCS, HG, HT, HB⟩ := hrel
        by_cases hlt : i < n1
        · obtain ⟨ad, rfl, hab, hmem, hc0, hc1, hc2⟩ := Acs.ac (H1.out.below HB.out) hlt
          have hpb : (ad.add (i * 3)).block < w.heap.size := by rw [block_of_add]; exact hab
          have hsucc := accL_succ fnd (L) (l := l1) (k := i) (by have := HL1.out; omega)
          obtain ⟨x, hx⟩ : ∃ x, acAt l1 i = x := ⟨_, rfl⟩
          have HX := Lib.hid hx
          rw [hx] at hmem hc0 hc1 hc2 hsucc
          have HXO := Lib.hid (HOK1.out x hmem).1
          have HSUCC := Lib.hid hsucc
          have hfb := fnd_both x.n
          clear hx hmem hsucc
          go_wp2_with fail
          refine wp_region_held_drew (S := (fun W => W.cell? (ad.add (i * 3)) = some (.int .i64 x.t.e) ∧ W.cell? ⟨(ad.add (i * 3)).block, (ad.add (i * 3)).off + 1, none⟩ = some (.int .i64 x.t.l) ∧ W.cell? ⟨(ad.add (i * 3)).block, (ad.add (i * 3)).off + 2, none⟩ = some (.int .i64 x.n))) (by kernel_rfl) (⟨hc0, hc1, hc2⟩) (fun hHeld => ?_)
          refine wpAnyH_take (i := 0) (v := ?_) rfl (by kernel_rfl) (by kernel_rfl) (by kernel_rfl) (fun _ _ _ h => h) (Or.inl ⟨by rfl, ?_⟩) hHeld ?_
          rotate_left
          · intro W hS
            try dsimp only at hS
            go_simp
            try with_reducible rfl
          try simp only [List.getElem_toArray, List.getElem_cons_succ, List.getElem_cons_zero, Act.put, List.setIfInBounds_toArray, List.set_cons_zero, List.set_cons_succ]
          refine wpAnyH_take (i := 1) (v := ?_) rfl (by kernel_rfl) (by kernel_rfl) (by kernel_rfl) (fun _ _ _ h => h) (Or.inl ⟨by rfl, ?_⟩) hHeld ?_
          rotate_left
          · intro W hS
            try dsimp only at hS
            go_simp
            try with_reducible rfl
          try simp only [List.getElem_toArray, List.getElem_cons_succ, List.getElem_cons_zero, Act.put, List.setIfInBounds_toArray, List.set_cons_zero, List.set_cons_succ]
          refine wpAnyH_take (i := 2) (v := ?_) rfl (by kernel_rfl) (by kernel_rfl) (by kernel_rfl) (fun _ _ _ h => h) (Or.inl ⟨by rfl, ?_⟩) hHeld ?_
          rotate_left
          · intro W hS
            try dsimp only at hS
            go_simp
            try with_reducible rfl
          try simp only [List.getElem_toArray, List.getElem_cons_succ, List.getElem_cons_zero, Act.put, List.setIfInBounds_toArray, List.set_cons_zero, List.set_cons_succ]
          refine wpAnyH_take (i := 3) (v := ?_) rfl (by kernel_rfl) (by kernel_rfl) (by kernel_rfl) (fun _ _ _ h => h) (Or.inl ⟨by rfl, ?_⟩) hHeld ?_
          rotate_left
          · intro W hS
            try dsimp only at hS
            go_simp
            try with_reducible rfl
          try simp only [List.getElem_toArray, List.getElem_cons_succ, List.getElem_cons_zero, Act.put, List.setIfInBounds_toArray, List.set_cons_zero, List.set_cons_succ]
          refine wpAnyH_take (i := 4) (v := ?_) rfl (by kernel_rfl) (by kernel_rfl) (by kernel_rfl) (fun _ _ _ h => h) (Or.inl ⟨by rfl, ?_⟩) hHeld ?_
          rotate_left
          · intro W hS
            try dsimp only at hS
            go_simp
            try with_reducible rfl
          try simp only [List.getElem_toArray, List.getElem_cons_succ, List.getElem_cons_zero, Act.put, List.setIfInBounds_toArray, List.set_cons_zero, List.set_cons_succ]
          refine wpAnyH_take (i := 5) (v := ?_) rfl (by kernel_rfl) (by kernel_rfl) (by kernel_rfl) (fun _ _ _ h => h) (Or.inl ⟨by rfl, ?_⟩) hHeld ?_
          rotate_left
          · intro W hS
            try dsimp only at hS
            go_simp
            try with_reducible rfl
          try simp only [List.getElem_toArray, List.getElem_cons_succ, List.getElem_cons_zero, Act.put, List.setIfInBounds_toArray, List.set_cons_zero, List.set_cons_succ]
          refine wpAnyH_take (i := 6) (v := ?_) rfl (by kernel_rfl) (by kernel_rfl) (by kernel_rfl) (fun _ _ _ h => h) (Or.inl ⟨by rfl, ?_⟩) hHeld ?_
          rotate_left
          · intro W hS
            try dsimp only at hS
            go_simp
            try with_reducible rfl
          try simp only [List.getElem_toArray, List.getElem_cons_succ, List.getElem_cons_zero, Act.put, List.setIfInBounds_toArray, List.set_cons_zero, List.set_cons_succ]
          refine wpAnyH_take (i := 7) (v := ?_) rfl (by kernel_rfl) (by kernel_rfl) (by kernel_rfl) (fun _ _ _ h => h) (Or.inl ⟨by rfl, ?_⟩) hHeld ?_
          rotate_left
          · intro W hS
            try dsimp only at hS
            go_simp
            try with_reducible rfl
          try simp only [List.getElem_toArray, List.getElem_cons_succ, List.getElem_cons_zero, Act.put, List.setIfInBounds_toArray, List.set_cons_zero, List.set_cons_succ]
          refine wpAnyH_take (i := 8) (v := ?_) rfl (by kernel_rfl) (by kernel_rfl) (by kernel_rfl) (fun _ _ _ h => h) (Or.inl ⟨by rfl, ?_⟩) hHeld ?_
          rotate_left
          · intro W hS
            try dsimp only at hS
            go_simp
            try with_reducible rfl
          try simp only [List.getElem_toArray, List.getElem_cons_succ, List.getElem_cons_zero, Act.put, List.setIfInBounds_toArray, List.set_cons_zero, List.set_cons_succ]
          refine wpAnyH_take (i := 9) (v := ?_) rfl (by kernel_rfl) (by kernel_rfl) (by kernel_rfl) (fun _ _ _ h => h) (Or.inl ⟨by rfl, ?_⟩) hHeld ?_
          rotate_left
          · intro W hS
            try dsimp only at hS
            go_simp
            try with_reducible rfl
          try simp only [List.getElem_toArray, List.getElem_cons_succ, List.getElem_cons_zero, Act.put, List.setIfInBounds_toArray, List.set_cons_zero, List.set_cons_succ]
          refine wpAnyH_take (i := 10) (v := ?_) rfl (by kernel_rfl) (by kernel_rfl) (by kernel_rfl) (fun _ _ _ h => h) (Or.inl ⟨by rfl, ?_⟩) hHeld ?_
          rotate_left
          · intro W hS
            try dsimp only at hS
            go_simp
            try with_reducible rfl
          try simp only [List.getElem_toArray, List.getElem_cons_succ, List.getElem_cons_zero, Act.put, List.setIfInBounds_toArray, List.set_cons_zero, List.set_cons_succ]
          refine wpAnyH_ready (rs := [11]) (by kernel_rfl) (by simp) ?_
          refine AllReadyH.cons rfl (fun K hK => ?_) AllReadyH.nil
          go_simp
          refine (cs_add (n := fnd x.n) _ HCS.out.drew HXO.out (by omega) rfl).mono ?_
          rintro e w3 ⟨rfl, hcs, hb, hk⟩
          refine hK.out _ _ (⟨(hb.cell hpb).trans hc0, (hb.cell (p := ⟨(ad.add (i * 3)).block, (ad.add (i * 3)).off + 1, none⟩) hpb).trans hc1, (hb.cell (p := ⟨(ad.add (i * 3)).block, (ad.add (i * 3)).off + 2, none⟩) hpb).trans hc2⟩) (fun hHeld => ?_)
          clear hK K
          try simp only [List.getElem_toArray, List.getElem_cons_succ, List.getElem_cons_zero, Act.put, List.setIfInBounds_toArray, List.set_cons_zero, List.set_cons_succ]
          refine wpAnyH_done (by kernel_rfl) ?_ _
          rw [← HSUCC.out] at hcs
          have HCS3 := Lib.hid hcs
          have HG3 := Lib.hid (((Keep.drew _).trans hk).own HG.out (by decide))
          have HT3 := Lib.hid (((Keep.drew _).trans hk).own HT.out (by decide))
          have HB3 := Lib.hid (HB.out.drew.trans hb)
          clear hcs hk hb hHeld
          go_wp2_with fail
          go_roundw
          case rel => exact ⟨i + 1, by omega, by go_num, HCS3, HG3, HT3, HB3⟩
          case measure => simp [intOf]; omega
        · obtain rfl : n1 = i := by omega
          rw [List.take_of_length_le (by have := HL1.out; omega)] at HCS
          have hkn := HKN.out
          have hkc2 := HKC.out
          have hk := HK.out
          obtain ⟨wo, rfl⟩ : ∃ wo : World, wo = wr := ⟨_, rfl⟩
          go_wp2_with fail
          refine wp_region_held_drew (S := (fun W => Below wo.heap.size wo W)) (by kernel_rfl) ((Below.refl _ _).drew) (fun hHeld => ?_)
          refine wpAnyH_take (i := 0) (v := ?_) rfl (by kernel_rfl) (by kernel_rfl) (by kernel_rfl) (fun _ _ _ h => h) (Or.inl ⟨by rfl, ?_⟩) hHeld ?_
          rotate_left
          · intro W hS
            try dsimp only at hS
            go_simp
            try with_reducible rfl
          try simp only [List.getElem_toArray, List.getElem_cons_succ, List.getElem_cons_zero, Act.put, List.setIfInBounds_toArray, List.set_cons_zero, List.set_cons_succ]
          refine wpAnyH_take (i := 1) (v := ?_) rfl (by kernel_rfl) (by kernel_rfl) (by kernel_rfl) (fun _ _ _ h => h) (Or.inl ⟨by rfl, ?_⟩) hHeld ?_
          rotate_left
          · intro W hS
            try dsimp only at hS
            go_simp
            try with_reducible rfl
          try simp only [List.getElem_toArray, List.getElem_cons_succ, List.getElem_cons_zero, Act.put, List.setIfInBounds_toArray, List.set_cons_zero, List.set_cons_succ]
          refine wpAnyH_take (i := 2) (v := ?_) rfl (by kernel_rfl) (by kernel_rfl) (by kernel_rfl) (fun _ _ _ h => h) (Or.inl ⟨by rfl, ?_⟩) hHeld ?_
          rotate_left
          · intro W hS
            try dsimp only at hS
            go_simp
            try with_reducible rfl
          try simp only [List.getElem_toArray, List.getElem_cons_succ, List.getElem_cons_zero, Act.put, List.setIfInBounds_toArray, List.set_cons_zero, List.set_cons_succ]
          refine wpAnyH_take (i := 4) (v := ?_) rfl (by kernel_rfl) (by kernel_rfl) (by kernel_rfl) (fun _ _ _ h => h) (Or.inl ⟨by rfl, ?_⟩) hHeld ?_
          rotate_left
          · intro W hS
            try dsimp only at hS
            go_simp
            try with_reducible rfl
          try simp only [List.getElem_toArray, List.getElem_cons_succ, List.getElem_cons_zero, Act.put, List.setIfInBounds_toArray, List.set_cons_zero, List.set_cons_succ]
          refine wpAnyH_take (i := 5) (v := ?_) rfl (by kernel_rfl) (by kernel_rfl) (by kernel_rfl) (fun _ _ _ h => h) (Or.inl ⟨by rfl, ?_⟩) hHeld ?_
          rotate_left
          · intro W hS
            try dsimp only at hS
            go_simp
            try with_reducible rfl
          try simp only [List.getElem_toArray, List.getElem_cons_succ, List.getElem_cons_zero, Act.put, List.setIfInBounds_toArray, List.set_cons_zero, List.set_cons_succ]
          refine wpAnyH_take (i := 6) (v := ?_) rfl (by kernel_rfl) (by kernel_rfl) (by kernel_rfl) (fun _ _ _ h => h) (Or.inl ⟨by rfl, ?_⟩) hHeld ?_
          rotate_left
          · intro W hS
            try dsimp only at hS
            go_simp
            try with_reducible rfl
          try simp only [List.getElem_toArray, List.getElem_cons_succ, List.getElem_cons_zero, Act.put, List.setIfInBounds_toArray, List.set_cons_zero, List.set_cons_succ]
          refine wpAnyH_ready (rs := [3]) (by kernel_rfl) (by simp) ?_
          refine AllReadyH.cons rfl (fun K hK => ?_) AllReadyH.nil
          refine wp_append_any _ _ _ 22 rfl wo.heap.size 35 i0 z0 3 24 Try.underlying22 hi0 hz0 hz1 hz2 hz3 (by decide) (.slice none 0 0) 0 [] rfl (World.ownsRow_nil _ _ _ _) w.heap.size _ _ _ (acCells (l1.drop k)) rfl (HTD.out.below (HB.out.trans (hHeld.mono HB.out.size))) (acCells_one _) (by unfold maxLen; omega) (by omega) hHeld.size ?_
          intro v1 w2 hown2 hg2 _
          have hb2 : Below wo.heap.size wo w2 := hHeld.trans ((Touch.grown hg2).below (by simp [Value.ownBlock]) hHeld.size)
          refine hK.out _ _ (hb2) (fun hHeld => ?_)
          clear hK K
          try simp only [List.getElem_toArray, List.getElem_cons_succ, List.getElem_cons_zero, Act.put, List.setIfInBounds_toArray, List.set_cons_zero, List.set_cons_succ]
          refine wpAnyH_ready (rs := [7]) (by kernel_rfl) (by simp) ?_
          refine AllReadyH.cons rfl (fun K hK => ?_) AllReadyH.nil
          refine wp_append_any _ _ _ 22 rfl wo.heap.size 35 i0 z0 3 24 Try.underlying22 hi0 hz0 hz1 hz2 hz3 (by decide) v1 (0 + 0) ([] ++ acCells (l1.drop k)) rfl hown2 w.heap.size _ _ _ (acCells (l1.take k)) rfl (HTK.out.below (HB.out.trans (hHeld.mono HB.out.size))) (acCells_one _) (by unfold maxLen; omega) (by omega) hHeld.size ?_
          intro v2 w3 hown3 hg3 _
          have hb3 : Below wo.heap.size wo w3 := hHeld.trans ((Touch.grown hg3).below (fun y hy => (hown2.lt y (by simpa using hy)).1) hHeld.size)
          have hown3 : w3.ownsRow wo.heap.size 35 3 v2 n1 (acCells (l1.drop k ++ l1.take k)) := by rw [acCells_append, show n1 = 0 + 0 + k by omega]; simpa using hown3
          obtain ⟨A3, c3, rfl⟩ := own_slice hown3
          refine hK.out _ _ (hb3) (fun hHeld => ?_)
          clear hK K
          try simp only [List.getElem_toArray, List.getElem_cons_succ, List.getElem_cons_zero, Act.put, List.setIfInBounds_toArray, List.set_cons_zero, List.set_cons_succ]
          refine wpAnyH_take (i := 8) (v := ?_) rfl (by kernel_rfl) (by kernel_rfl) (by kernel_rfl) (fun _ _ _ h => h) (Or.inl ⟨by rfl, ?_⟩) hHeld ?_
          rotate_left
          · intro W hS
            try dsimp only at hS
            go_simp
            try with_reducible rfl
          try simp only [List.getElem_toArray, List.getElem_cons_succ, List.getElem_cons_zero, Act.put, List.setIfInBounds_toArray, List.set_cons_zero, List.set_cons_succ]
          refine wpAnyH_done (by kernel_rfl) ?_ _
          have HM := Lib.hid hown3
          have HG3 := Lib.hid ((Keep.of_below hb3).own HG.out (by decide))
          have HT3 := Lib.hid ((Keep.of_below hb3).own HT.out (by decide))
          have HCS3 := Lib.hid (HCS.out.on hb3)
          have HB3 := Lib.hid (below_after HB.out hb3 HB.out.size)
          clear hHeld hb3 hb2 hg2 hg3 hown2 hown3 HCS HG HT HB
          have HCS := HCS3
          have HG := HG3
          have HT := HT3
          have HB := HB3
          clear HCS3 HG3 HT3 HB3
          obtain ⟨bm, hbm⟩ : ∃ b, b = wo.heap.size := ⟨_, rfl⟩
          rw [← hbm] at HM
          clear hbm
          obtain ⟨lm, hlm⟩ : ∃ x, l1.drop k ++ l1.take k = x := ⟨_, rfl⟩
          rw [hlm] at HM HLAW HOKM HLM
          clear hlm
          go_wp2_with fail
          go_loopw [14] (fun vi wr => ∃ i : Nat, i ≤ n1 ∧ vi = .int .i64 i ∧ Hid (CS wr w.heap.size w1.heap.size (n0 + n1 + i) (accL bck (accL fnd L l1) (lm.take i))) ∧ Hid (wr.ownsRow b4 33 2 (.slice A4 M4 c4) M4 (tmCells f)) ∧ Hid (wr.ownsRow w4.heap.size 33 2 (.slice A5 M5 c5) M5 (tmCells (tmsL L))) ∧ Hid (wr.ownsRow bm 35 3 (.slice A3 n1 c3) n1 (acCells lm)) ∧ Hid (Below w.heap.size w wr)) (fun vi _ => n1 - (intOf vi).toNat)
          case atStart => exact ⟨0, Nat.zero_le _, rfl, HCS, HG, HT, HM, HB⟩
          case round =>
            obtain ⟨i, hi, rfl, HCS, HG, HT, HM, HB⟩ := hrel
            by_cases hlt : i < n1
            · obtain ⟨ad, rfl, hab, hmem, hc0, hc1, hc2⟩ := Acs.ac (acs_own HM.out) hlt
              have hsucc := accL_succ bck (accL fnd L l1) (l := lm) (k := i) (by have := HLM.out; omega)
              obtain ⟨x, hx⟩ : ∃ x, acAt lm i = x := ⟨_, rfl⟩
              have HX := Lib.hid hx
              rw [hx] at hmem hc0 hc1 hc2 hsucc
              have HXO := Lib.hid (HOKM.out x hmem).1
              have HSUCC := Lib.hid hsucc
              have hfb := fnd_both x.n
              clear hx hmem hsucc
              go_wp2_with fail
              refine wp_region_held_drew (S := (fun W => W.cell? (ad.add (i * 3)) = some (.int .i64 x.t.e) ∧ W.cell? ⟨(ad.add (i * 3)).block, (ad.add (i * 3)).off + 1, none⟩ = some (.int .i64 x.t.l) ∧ W.cell? ⟨(ad.add (i * 3)).block, (ad.add (i * 3)).off + 2, none⟩ = some (.int .i64 x.n))) (by kernel_rfl) (⟨hc0, hc1, hc2⟩) (fun hHeld => ?_)
              refine wpAnyH_take (i := 0) (v := ?_) rfl (by kernel_rfl) (by kernel_rfl) (by kernel_rfl) (fun _ _ _ h => h) (Or.inl ⟨by rfl, ?_⟩) hHeld ?_
              rotate_left
              · intro W hS
                try dsimp only at hS
                go_simp
                try with_reducible rfl
              try simp only [List.getElem_toArray, List.getElem_cons_succ, List.getElem_cons_zero, Act.put, List.setIfInBounds_toArray, List.set_cons_zero, List.set_cons_succ]
              refine wpAnyH_take (i := 1) (v := ?_) rfl (by kernel_rfl) (by kernel_rfl) (by kernel_rfl) (fun _ _ _ h => h) (Or.inl ⟨by rfl, ?_⟩) hHeld ?_
              rotate_left
              · intro W hS
                try dsimp only at hS
                go_simp
                try with_reducible rfl
              try simp only [List.getElem_toArray, List.getElem_cons_succ, List.getElem_cons_zero, Act.put, List.setIfInBounds_toArray, List.set_cons_zero, List.set_cons_succ]
              refine wpAnyH_take (i := 2) (v := ?_) rfl (by kernel_rfl) (by kernel_rfl) (by kernel_rfl) (fun _ _ _ h => h) (Or.inl ⟨by rfl, ?_⟩) hHeld ?_
              rotate_left
              · intro W hS
                try dsimp only at hS
                go_simp
                try with_reducible rfl
              try simp only [List.getElem_toArray, List.getElem_cons_succ, List.getElem_cons_zero, Act.put, List.setIfInBounds_toArray, List.set_cons_zero, List.set_cons_succ]
              refine wpAnyH_take (i := 3) (v := ?_) rfl (by kernel_rfl) (by kernel_rfl) (by kernel_rfl) (fun _ _ _ h => h) (Or.inl ⟨by rfl, ?_⟩) hHeld ?_
              rotate_left
              · intro W hS
                try dsimp only at hS
                go_simp
                try with_reducible rfl
              try simp only [List.getElem_toArray, List.getElem_cons_succ, List.getElem_cons_zero, Act.put, List.setIfInBounds_toArray, List.set_cons_zero, List.set_cons_succ]
              refine wpAnyH_take (i := 4) (v := ?_) rfl (by kernel_rfl) (by kernel_rfl) (by kernel_rfl) (fun _ _ _ h => h) (Or.inl ⟨by rfl, ?_⟩) hHeld ?_
              rotate_left
              · intro W hS
                try dsimp only at hS
                go_simp
                try with_reducible rfl
              try simp only [List.getElem_toArray, List.getElem_cons_succ, List.getElem_cons_zero, Act.put, List.setIfInBounds_toArray, List.set_cons_zero, List.set_cons_succ]
              refine wpAnyH_take (i := 5) (v := ?_) rfl (by kernel_rfl) (by kernel_rfl) (by kernel_rfl) (fun _ _ _ h => h) (Or.inl ⟨by rfl, ?_⟩) hHeld ?_
              rotate_left
              · intro W hS
                try dsimp only at hS
                go_simp
                try with_reducible rfl
              try simp only [List.getElem_toArray, List.getElem_cons_succ, List.getElem_cons_zero, Act.put, List.setIfInBounds_toArray, List.set_cons_zero, List.set_cons_succ]
              refine wpAnyH_take (i := 6) (v := ?_) rfl (by kernel_rfl) (by kernel_rfl) (by kernel_rfl) (fun _ _ _ h => h) (Or.inl ⟨by rfl, ?_⟩) hHeld ?_
              rotate_left
              · intro W hS
                try dsimp only at hS
                go_simp
                try with_reducible rfl
              try simp only [List.getElem_toArray, List.getElem_cons_succ, List.getElem_cons_zero, Act.put, List.setIfInBounds_toArray, List.set_cons_zero, List.set_cons_succ]
              refine wpAnyH_take (i := 7) (v := ?_) rfl (by kernel_rfl) (by kernel_rfl) (by kernel_rfl) (fun _ _ _ h => h) (Or.inl ⟨by rfl, ?_⟩) hHeld ?_
              rotate_left
              · intro W hS
                try dsimp only at hS
                go_simp
                try with_reducible rfl
              try simp only [List.getElem_toArray, List.getElem_cons_succ, List.getElem_cons_zero, Act.put, List.setIfInBounds_toArray, List.set_cons_zero, List.set_cons_succ]
              refine wpAnyH_take (i := 8) (v := ?_) rfl (by kernel_rfl) (by kernel_rfl) (by kernel_rfl) (fun _ _ _ h => h) (Or.inl ⟨by rfl, ?_⟩) hHeld ?_
              rotate_left
              · intro W hS
                try dsimp only at hS
                go_simp
                try with_reducible rfl
              try simp only [List.getElem_toArray, List.getElem_cons_succ, List.getElem_cons_zero, Act.put, List.setIfInBounds_toArray, List.set_cons_zero, List.set_cons_succ]
              refine wpAnyH_take (i := 9) (v := ?_) rfl (by kernel_rfl) (by kernel_rfl) (by kernel_rfl) (fun _ _ _ h => h) (Or.inl ⟨by rfl, ?_⟩) hHeld ?_
              rotate_left
              · intro W hS
                try dsimp only at hS
                go_simp
                try with_reducible rfl
              try simp only [List.getElem_toArray, List.getElem_cons_succ, List.getElem_cons_zero, Act.put, List.setIfInBounds_toArray, List.set_cons_zero, List.set_cons_succ]
              refine wpAnyH_take (i := 10) (v := ?_) rfl (by kernel_rfl) (by kernel_rfl) (by kernel_rfl) (fun _ _ _ h => h) (Or.inl ⟨by rfl, ?_⟩) hHeld ?_
              rotate_left
              · intro W hS
                try dsimp only at hS
                go_simp
                try with_reducible rfl
              try simp only [List.getElem_toArray, List.getElem_cons_succ, List.getElem_cons_zero, Act.put, List.setIfInBounds_toArray, List.set_cons_zero, List.set_cons_succ]
              refine wpAnyH_take (i := 11) (v := ?_) rfl (by kernel_rfl) (by kernel_rfl) (by kernel_rfl) (fun _ _ _ h => h) (Or.inl ⟨by rfl, ?_⟩) hHeld ?_
              rotate_left
              · intro W hS
                try dsimp only at hS
                go_simp
                try with_reducible rfl
              try simp only [List.getElem_toArray, List.getElem_cons_succ, List.getElem_cons_zero, Act.put, List.setIfInBounds_toArray, List.set_cons_zero, List.set_cons_succ]
              refine wpAnyH_ready (rs := [12]) (by kernel_rfl) (by simp) ?_
              refine AllReadyH.cons rfl (fun K hK => ?_) AllReadyH.nil
              go_simp
              rw [wrap_bck x.n] -- neg
              refine (cs_add (n := bck x.n) _ HCS.out.drew HXO.out (by omega) rfl).mono ?_
              rintro e w3 ⟨rfl, hcs, hb, hk⟩
              refine hK.out _ _ (by have hq := Acs.cells (acs_own (((Keep.drew _).trans hk).own HM.out (by decide))) hlt; rw [HX.out] at hq; exact hq) (fun hHeld => ?_)
              clear hK K
              try simp only [List.getElem_toArray, List.getElem_cons_succ, List.getElem_cons_zero, Act.put, List.setIfInBounds_toArray, List.set_cons_zero, List.set_cons_succ]
              refine wpAnyH_done (by kernel_rfl) ?_ _
              rw [← HSUCC.out] at hcs
              have HCS3 := Lib.hid hcs
              have HG3 := Lib.hid (((Keep.drew _).trans hk).own HG.out (by decide))
              have HT3 := Lib.hid (((Keep.drew _).trans hk).own HT.out (by decide))
              have HM3 := Lib.hid (((Keep.drew _).trans hk).own HM.out (by decide))
              have HB3 := Lib.hid (HB.out.drew.trans hb)
              clear hcs hk hb hHeld
              go_wp2_with fail
              go_roundw
              case rel => exact ⟨i + 1, by omega, by go_num, HCS3, HG3, HT3, HM3, HB3⟩
              case measure => simp [intOf]; omega
            · obtain rfl : n1 = i := by omega
              rw [List.take_of_length_le (by have := HLM.out; omega)] at HCS
              rw [HLAW.out] at HCS
              go_wp2_with fail
              refine (cs_front _ HCS.out (by omega) (by have := HLEN.out; omega)).mono ?_
              rintro e w6 ⟨A6, M6, c6, f6, rfl, hf6, hM6, hO6, hb6⟩
              have hM60 : M6 ≤ 30 := by have := HLEN.out; omega
              have HEQ := Lib.hid (hf6.unique HF.out)
              have HO6 := Lib.hid hO6
              have HCS6 := Lib.hid (HCS.out.on hb6)
              have HB6 := Lib.hid (below_after HB.out hb6 HB.out.size)
              have HG6 := Lib.hid ((Keep.of_below hb6).own HG.out (by decide))
              have HT6 := Lib.hid ((Keep.of_below hb6).own HT.out (by decide))
              clear hf6 hM6 hO6 hb6
              go_wp2_with fail
              refine (same_b (b := true) _ (reads_own HO6.out) (reads_own HG6.out) ⟨fun _ => HEQ.out, fun _ => rfl⟩ (by omega) (by omega)).mono ?_
              rintro e w7 ⟨rfl, hb7⟩
              have HCS7 := Lib.hid (HCS6.out.on hb7)
              have HB7 := Lib.hid (below_after HB6.out hb7 HB6.out.size)
              have HT7 := Lib.hid ((Keep.of_below hb7).own HT6.out (by decide))
              clear hb7
              go_wp2_with fail
              refine (cs_times _ HCS7.out (by omega) (by have := HLEN.out; omega)).mono ?_
              rintro e w8 ⟨A8, M8, c8, rfl, hM8, hO8, hb8⟩
              have hM80 : M8 ≤ 30 := by have := HLEN.out; omega
              have HO8 := Lib.hid hO8
              have HT8 := Lib.hid ((Keep.of_below hb8).own HT7.out (by decide))
              have HB8 := Lib.hid (below_after HB7.out hb8 HB7.out.size)
              clear hM8 hO8 hb8
              go_wp2_with fail
              refine (same_b (b := true) _ (reads_own HO8.out) (reads_own HT8.out) ⟨fun _ => rfl, fun _ => rfl⟩ (by omega) (by omega)).mono ?_
              rintro e w9 ⟨rfl, hb9⟩
              have HB9 := below_after HB8.out hb9 HB8.out.size
              go_wp2_with fail
              go_ret
              exact ⟨rfl, HB9⟩

set_option maxRecDepth 100000 in
set_option maxHeartbeats 8000000 in
theorem cback_ne {A0 A1 : Option Addr} {n0 c0 n1 c1 k : Nat} {l0 l1 : List Ac} (w : World) (r0 : Acs w w.heap.size A0 n0 l0) (hok0 : ∀ a ∈ l0, a.ok) (r1 : Acs w w.heap.size A1 n1 l1) (hok1 : ∀ a ∈ l1, a.ok) (hk : k ≤ n1) (hnc : n1 ≤ c1) (hck : ¬ (c1 = k)) (h0 : ¬ 30 < n0) (h1 : ¬ 30 < n1) : Calls Try.prog 10 #[.slice A0 n0 c0, .slice A1 n1 c1, .int .i64 k] w fun e w' => e = .returned (.bool true) ∧ Below w.heap.size w w' := by
  obtain ⟨i0, z0, hi0, hz0, hz3, hz1, hz2⟩ := act_parts
  have H0 := Lib.hid r0
  have H1 := Lib.hid r1
  have HL0 := Lib.hid (Acs.len r0)
  have HL1 := Lib.hid (Acs.len r1)
  have HOK0 := Lib.hid hok0
  have HOK1 := Lib.hid hok1
  have HTK := Lib.hid (Acs.take r1 hk)
  have hD := Acs.drop r1 hk hnc
  rw [if_neg hck] at hD
  have HTD := Lib.hid hD
  have hkc2 : k ≤ c1 := Nat.le_trans hk hnc
  have hkn : (k : Int) ≤ (n1 : Int) := by omega
  have HOKM : Hid (∀ a ∈ l1.drop k ++ l1.take k, a.ok) := Lib.hid (fun a ha => hok1 a ((List.mem_append.1 ha).elim List.mem_of_mem_drop List.mem_of_mem_take))
  have HLM : Hid ((l1.drop k ++ l1.take k).length = n1) := Lib.hid (by have := HL1.out; simp; omega)
  have HLAW := Lib.hid (back_law (l0 := l0) (l1 := l1) (k := k) (by have := HL0.out; omega) (by have := HL1.out; omega))
  have HLL := Lib.hid (accL_length fnd [] l0)
  clear r0 r1 hok0 hok1 hD
  go_enter Try.func10, Try.ntmps10
  go_wp2_with fail
  refine (alive4_any _).mono ?_
  rintro e w1 ⟨rfl, HB⟩
  have HCS := Lib.hid (CS.new w1 (B := w.heap.size) HB.size)
  have HB := Lib.hid (HB.alloc HB.size (.cells #[.map none] 26))
  go_wp2_with fail
  have hd : decide (n1 < k) = false := by simp; omega
  simp only [hd, Bool.or_false]
  have HKN := Lib.hid hkn
  have HKC := Lib.hid hkc2
  have HK := Lib.hid hk
  clear hk hkn hkc2 hd
  go_loopw [9] (fun vi wr => ∃ i : Nat, i ≤ n0 ∧ vi = .int .i64 i ∧ Hid (CS wr w.heap.size w1.heap.size (i) (accL fnd [] (l0.take i))) ∧ Hid (Below w.heap.size w wr)) (fun vi _ => n0 - (intOf vi).toNat)
  case atStart => exact ⟨0, Nat.zero_le _, rfl, HCS, HB⟩
  case round =>
    obtain ⟨i, hi, rfl, HCS, HB⟩ := hrel
    by_cases hlt : i < n0
    · obtain ⟨ad, rfl, hab, hmem, hc0, hc1, hc2⟩ := Acs.ac (H0.out.below HB.out) hlt
      have hpb : (ad.add (i * 3)).block < w.heap.size := by rw [block_of_add]; exact hab
      have hsucc := accL_succ fnd ([]) (l := l0) (k := i) (by have := HL0.out; omega)
      obtain ⟨x, hx⟩ : ∃ x, acAt l0 i = x := ⟨_, rfl⟩
      have HX := Lib.hid hx
      rw [hx] at hmem hc0 hc1 hc2 hsucc
      have HXO := Lib.hid (HOK0.out x hmem).1
      have HSUCC := Lib.hid hsucc
      have hfb := fnd_both x.n
      clear hx hmem hsucc
      go_wp2_with fail
      refine wp_region_held_drew (S := (fun W => W.cell? (ad.add (i * 3)) = some (.int .i64 x.t.e) ∧ W.cell? ⟨(ad.add (i * 3)).block, (ad.add (i * 3)).off + 1, none⟩ = some (.int .i64 x.t.l) ∧ W.cell? ⟨(ad.add (i * 3)).block, (ad.add (i * 3)).off + 2, none⟩ = some (.int .i64 x.n))) (by kernel_rfl) (⟨hc0, hc1, hc2⟩) (fun hHeld => ?_)
      refine wpAnyH_take (i := 0) (v := ?_) rfl (by kernel_rfl) (by kernel_rfl) (by kernel_rfl) (fun _ _ _ h => h) (Or.inl ⟨by rfl, ?_⟩) hHeld ?_
      rotate_left
      · intro W hS
        try dsimp only at hS
        go_simp
        try with_reducible rfl
      try simp only [List.getElem_toArray, List.getElem_cons_succ, List.getElem_cons_zero, Act.put, List.setIfInBounds_toArray, List.set_cons_zero, List.set_cons_succ]
      refine wpAnyH_take (i := 1) (v := ?_) rfl (by kernel_rfl) (by kernel_rfl) (by kernel_rfl) (fun _ _ _ h => h) (Or.inl ⟨by rfl, ?_⟩) hHeld ?_
      rotate_left
      · intro W hS
        try dsimp only at hS
        go_simp
        try with_reducible rfl
      try simp only [List.getElem_toArray, List.getElem_cons_succ, List.getElem_cons_zero, Act.put, List.setIfInBounds_toArray, List.set_cons_zero, List.set_cons_succ]
      refine wpAnyH_take (i := 2) (v := ?_) rfl (by kernel_rfl) (by kernel_rfl) (by kernel_rfl) (fun _ _ _ h => h) (Or.inl ⟨by rfl, ?_⟩) hHeld ?_
      rotate_left
      · intro W hS
        try dsimp only at hS
        go_simp
        try with_reducible rfl
      try simp only [List.getElem_toArray, List.getElem_cons_succ, List.getElem_cons_zero, Act.put, List.setIfInBounds_toArray, List.set_cons_zero, List.set_cons_succ]
      refine wpAnyH_take (i := 3) (v := ?_) rfl (by kernel_rfl) (by kernel_rfl) (by kernel_rfl) (fun _ _ _ h => h) (Or.inl ⟨by rfl, ?_⟩) hHeld ?_
      rotate_left
      · intro W hS
        try dsimp only at hS
        go_simp
        try with_reducible rfl
      try simp only [List.getElem_toArray, List.getElem_cons_succ, List.getElem_cons_zero, Act.put, List.setIfInBounds_toArray, List.set_cons_zero, List.set_cons_succ]
      refine wpAnyH_take (i := 4) (v := ?_) rfl (by kernel_rfl) (by kernel_rfl) (by kernel_rfl) (fun _ _ _ h => h) (Or.inl ⟨by rfl, ?_⟩) hHeld ?_
      rotate_left
      · intro W hS
        try dsimp only at hS
        go_simp
        try with_reducible rfl
      try simp only [List.getElem_toArray, List.getElem_cons_succ, List.getElem_cons_zero, Act.put, List.setIfInBounds_toArray, List.set_cons_zero, List.set_cons_succ]
      refine wpAnyH_take (i := 5) (v := ?_) rfl (by kernel_rfl) (by kernel_rfl) (by kernel_rfl) (fun _ _ _ h => h) (Or.inl ⟨by rfl, ?_⟩) hHeld ?_
      rotate_left
      · intro W hS
        try dsimp only at hS
        go_simp
        try with_reducible rfl
      try simp only [List.getElem_toArray, List.getElem_cons_succ, List.getElem_cons_zero, Act.put, List.setIfInBounds_toArray, List.set_cons_zero, List.set_cons_succ]
      refine wpAnyH_take (i := 6) (v := ?_) rfl (by kernel_rfl) (by kernel_rfl) (by kernel_rfl) (fun _ _ _ h => h) (Or.inl ⟨by rfl, ?_⟩) hHeld ?_
      rotate_left
      · intro W hS
        try dsimp only at hS
        go_simp
        try with_reducible rfl
      try simp only [List.getElem_toArray, List.getElem_cons_succ, List.getElem_cons_zero, Act.put, List.setIfInBounds_toArray, List.set_cons_zero, List.set_cons_succ]
      refine wpAnyH_take (i := 7) (v := ?_) rfl (by kernel_rfl) (by kernel_rfl) (by kernel_rfl) (fun _ _ _ h => h) (Or.inl ⟨by rfl, ?_⟩) hHeld ?_
      rotate_left
      · intro W hS
        try dsimp only at hS
        go_simp
        try with_reducible rfl
      try simp only [List.getElem_toArray, List.getElem_cons_succ, List.getElem_cons_zero, Act.put, List.setIfInBounds_toArray, List.set_cons_zero, List.set_cons_succ]
      refine wpAnyH_take (i := 8) (v := ?_) rfl (by kernel_rfl) (by kernel_rfl) (by kernel_rfl) (fun _ _ _ h => h) (Or.inl ⟨by rfl, ?_⟩) hHeld ?_
      rotate_left
      · intro W hS
        try dsimp only at hS
        go_simp
        try with_reducible rfl
      try simp only [List.getElem_toArray, List.getElem_cons_succ, List.getElem_cons_zero, Act.put, List.setIfInBounds_toArray, List.set_cons_zero, List.set_cons_succ]
      refine wpAnyH_take (i := 9) (v := ?_) rfl (by kernel_rfl) (by kernel_rfl) (by kernel_rfl) (fun _ _ _ h => h) (Or.inl ⟨by rfl, ?_⟩) hHeld ?_
      rotate_left
      · intro W hS
        try dsimp only at hS
        go_simp
        try with_reducible rfl
      try simp only [List.getElem_toArray, List.getElem_cons_succ, List.getElem_cons_zero, Act.put, List.setIfInBounds_toArray, List.set_cons_zero, List.set_cons_succ]
      refine wpAnyH_take (i := 10) (v := ?_) rfl (by kernel_rfl) (by kernel_rfl) (by kernel_rfl) (fun _ _ _ h => h) (Or.inl ⟨by rfl, ?_⟩) hHeld ?_
      rotate_left
      · intro W hS
        try dsimp only at hS
        go_simp
        try with_reducible rfl
      try simp only [List.getElem_toArray, List.getElem_cons_succ, List.getElem_cons_zero, Act.put, List.setIfInBounds_toArray, List.set_cons_zero, List.set_cons_succ]
      refine wpAnyH_ready (rs := [11]) (by kernel_rfl) (by simp) ?_
      refine AllReadyH.cons rfl (fun K hK => ?_) AllReadyH.nil
      go_simp
      refine (cs_add (n := fnd x.n) _ HCS.out.drew HXO.out (by omega) rfl).mono ?_
      rintro e w3 ⟨rfl, hcs, hb, hk⟩
      refine hK.out _ _ (⟨(hb.cell hpb).trans hc0, (hb.cell (p := ⟨(ad.add (i * 3)).block, (ad.add (i * 3)).off + 1, none⟩) hpb).trans hc1, (hb.cell (p := ⟨(ad.add (i * 3)).block, (ad.add (i * 3)).off + 2, none⟩) hpb).trans hc2⟩) (fun hHeld => ?_)
      clear hK K
      try simp only [List.getElem_toArray, List.getElem_cons_succ, List.getElem_cons_zero, Act.put, List.setIfInBounds_toArray, List.set_cons_zero, List.set_cons_succ]
      refine wpAnyH_done (by kernel_rfl) ?_ _
      rw [← HSUCC.out] at hcs
      have HCS3 := Lib.hid hcs
      have HB3 := Lib.hid (HB.out.drew.trans hb)
      clear hcs hk hb hHeld
      go_wp2_with fail
      go_roundw
      case rel => exact ⟨i + 1, by omega, by go_num, HCS3, HB3⟩
      case measure => simp [intOf]; omega
    · obtain rfl : n0 = i := by omega
      rw [List.take_of_length_le (by have := HL0.out; omega)] at HCS
      have HLEN : Hid ((accL fnd [] l0).length ≤ n0) := Lib.hid (by have h1 := HLL.out; have h2 := HL0.out; simp only [List.length_nil] at h1; omega)
      obtain ⟨L, hL⟩ : ∃ L, accL fnd [] l0 = L := ⟨_, rfl⟩
      rw [hL] at HCS HLAW HLEN
      clear hL HLL
      go_wp2_with fail
      refine (cs_front _ HCS.out (by omega) (by have := HLEN.out; omega)).mono ?_
      rintro e w4 ⟨A4, M4, c4, f, rfl, hf, hM4, hO4, hb4⟩
      have hM40 : M4 ≤ 30 := by have := HLEN.out; omega
      have HF := Lib.hid hf
      have HO4 := Lib.hid hO4
      have HCS4 := Lib.hid (HCS.out.on hb4)
      have HB4 := Lib.hid (below_after HB.out hb4 HB.out.size)
      obtain ⟨b4, hb4e⟩ : ∃ b, b = wr.heap.size := ⟨_, rfl⟩
      rw [← hb4e] at HO4
      clear hf hM4 hO4 hb4 hb4e
      go_wp2_with fail
      refine (cs_times _ HCS4.out (by omega) (by have := HLEN.out; omega)).mono ?_
      rintro e w5 ⟨A5, M5, c5, rfl, hM5, hO5, hb5⟩
      have hM50 : M5 ≤ 30 := by have := HLEN.out; omega
      have HG := Lib.hid ((Keep.of_below hb5).own HO4.out (by decide))
      have HT := Lib.hid hO5
      have HCS := Lib.hid (HCS4.out.on hb5)
      have HB := Lib.hid (below_after HB4.out hb5 HB4.out.size)
      clear hM5 hO5 hb5 HCS4 HB4 HO4
      go_wp2_with fail
      go_loopw [12] (fun vi wr => ∃ i : Nat, i ≤ n1 ∧ vi = .int .i64 i ∧ Hid (CS wr w.heap.size w1.heap.size (n0 + i) (accL fnd L (l1.take i))) ∧ Hid (wr.ownsRow b4 33 2 (.slice A4 M4 c4) M4 (tmCells f)) ∧ Hid (wr.ownsRow w4.heap.size 33 2 (.slice A5 M5 c5) M5 (tmCells (tmsL L))) ∧ Hid (Below w.heap.size w wr)) (fun vi _ => n1 - (intOf vi).toNat)
      case atStart => exact ⟨0, Nat.zero_le _, rfl, HCS, HG, HT, HB⟩
      case round =>
        obtain ⟨i, hi, rfl, HCS, HG, HT, HB⟩ := hrel
        by_cases hlt : i < n1
        · obtain ⟨ad, rfl, hab, hmem, hc0, hc1, hc2⟩ := Acs.ac (H1.out.below HB.out) hlt
          have hpb : (ad.add (i * 3)).block < w.heap.size := by rw [block_of_add]; exact hab
          have hsucc := accL_succ fnd (L) (l := l1) (k := i) (by have := HL1.out; omega)
          obtain ⟨x, hx⟩ : ∃ x, acAt l1 i = x := ⟨_, rfl⟩
          have HX := Lib.hid hx
          rw [hx] at hmem hc0 hc1 hc2 hsucc
          have HXO := Lib.hid (HOK1.out x hmem).1
          have HSUCC := Lib.hid hsucc
          have hfb := fnd_both x.n
          clear hx hmem hsucc
          go_wp2_with fail
          refine wp_region_held_drew (S := (fun W => W.cell? (ad.add (i * 3)) = some (.int .i64 x.t.e) ∧ W.cell? ⟨(ad.add (i * 3)).block, (ad.add (i * 3)).off + 1, none⟩ = some (.int .i64 x.t.l) ∧ W.cell? ⟨(ad.add (i * 3)).block, (ad.add (i * 3)).off + 2, none⟩ = some (.int .i64 x.n))) (by kernel_rfl) (⟨hc0, hc1, hc2⟩) (fun hHeld => ?_)
          refine wpAnyH_take (i := 0) (v := ?_) rfl (by kernel_rfl) (by kernel_rfl) (by kernel_rfl) (fun _ _ _ h => h) (Or.inl ⟨by rfl, ?_⟩) hHeld ?_
          rotate_left
          · intro W hS
            try dsimp only at hS
            go_simp
            try with_reducible rfl
          try simp only [List.getElem_toArray, List.getElem_cons_succ, List.getElem_cons_zero, Act.put, List.setIfInBounds_toArray, List.set_cons_zero, List.set_cons_succ]
          refine wpAnyH_take (i := 1) (v := ?_) rfl (by kernel_rfl) (by kernel_rfl) (by kernel_rfl) (fun _ _ _ h => h) (Or.inl ⟨by rfl, ?_⟩) hHeld ?_
          rotate_left
          · intro W hS
            try dsimp only at hS
            go_simp
            try with_reducible rfl
          try simp only [List.getElem_toArray, List.getElem_cons_succ, List.getElem_cons_zero, Act.put, List.setIfInBounds_toArray, List.set_cons_zero, List.set_cons_succ]
          refine wpAnyH_take (i := 2) (v := ?_) rfl (by kernel_rfl) (by kernel_rfl) (by kernel_rfl) (fun _ _ _ h => h) (Or.inl ⟨by rfl, ?_⟩) hHeld ?_
          rotate_left
          · intro W hS
            try dsimp only at hS
            go_simp
            try with_reducible rfl
          try simp only [List.getElem_toArray, List.getElem_cons_succ, List.getElem_cons_zero, Act.put, List.setIfInBounds_toArray, List.set_cons_zero, List.set_cons_succ]
          refine wpAnyH_take (i := 3) (v := ?_) rfl (by kernel_rfl) (by kernel_rfl) (by kernel_rfl) (fun _ _ _ h => h) (Or.inl ⟨by rfl, ?_⟩) hHeld ?_
          rotate_left
          · intro W hS
            try dsimp only at hS
            go_simp
            try with_reducible rfl
          try simp only [List.getElem_toArray, List.getElem_cons_succ, List.getElem_cons_zero, Act.put, List.setIfInBounds_toArray, List.set_cons_zero, List.set_cons_succ]
          refine wpAnyH_take (i := 4) (v := ?_) rfl (by kernel_rfl) (by kernel_rfl) (by kernel_rfl) (fun _ _ _ h => h) (Or.inl ⟨by rfl, ?_⟩) hHeld ?_
          rotate_left
          · intro W hS
            try dsimp only at hS
            go_simp
            try with_reducible rfl
          try simp only [List.getElem_toArray, List.getElem_cons_succ, List.getElem_cons_zero, Act.put, List.setIfInBounds_toArray, List.set_cons_zero, List.set_cons_succ]
          refine wpAnyH_take (i := 5) (v := ?_) rfl (by kernel_rfl) (by kernel_rfl) (by kernel_rfl) (fun _ _ _ h => h) (Or.inl ⟨by rfl, ?_⟩) hHeld ?_
          rotate_left
          · intro W hS
            try dsimp only at hS
            go_simp
            try with_reducible rfl
          try simp only [List.getElem_toArray, List.getElem_cons_succ, List.getElem_cons_zero, Act.put, List.setIfInBounds_toArray, List.set_cons_zero, List.set_cons_succ]
          refine wpAnyH_take (i := 6) (v := ?_) rfl (by kernel_rfl) (by kernel_rfl) (by kernel_rfl) (fun _ _ _ h => h) (Or.inl ⟨by rfl, ?_⟩) hHeld ?_
          rotate_left
          · intro W hS
            try dsimp only at hS
            go_simp
            try with_reducible rfl
          try simp only [List.getElem_toArray, List.getElem_cons_succ, List.getElem_cons_zero, Act.put, List.setIfInBounds_toArray, List.set_cons_zero, List.set_cons_succ]
          refine wpAnyH_take (i := 7) (v := ?_) rfl (by kernel_rfl) (by kernel_rfl) (by kernel_rfl) (fun _ _ _ h => h) (Or.inl ⟨by rfl, ?_⟩) hHeld ?_
          rotate_left
          · intro W hS
            try dsimp only at hS
            go_simp
            try with_reducible rfl
          try simp only [List.getElem_toArray, List.getElem_cons_succ, List.getElem_cons_zero, Act.put, List.setIfInBounds_toArray, List.set_cons_zero, List.set_cons_succ]
          refine wpAnyH_take (i := 8) (v := ?_) rfl (by kernel_rfl) (by kernel_rfl) (by kernel_rfl) (fun _ _ _ h => h) (Or.inl ⟨by rfl, ?_⟩) hHeld ?_
          rotate_left
          · intro W hS
            try dsimp only at hS
            go_simp
            try with_reducible rfl
          try simp only [List.getElem_toArray, List.getElem_cons_succ, List.getElem_cons_zero, Act.put, List.setIfInBounds_toArray, List.set_cons_zero, List.set_cons_succ]
          refine wpAnyH_take (i := 9) (v := ?_) rfl (by kernel_rfl) (by kernel_rfl) (by kernel_rfl) (fun _ _ _ h => h) (Or.inl ⟨by rfl, ?_⟩) hHeld ?_
          rotate_left
          · intro W hS
            try dsimp only at hS
            go_simp
            try with_reducible rfl
          try simp only [List.getElem_toArray, List.getElem_cons_succ, List.getElem_cons_zero, Act.put, List.setIfInBounds_toArray, List.set_cons_zero, List.set_cons_succ]
          refine wpAnyH_take (i := 10) (v := ?_) rfl (by kernel_rfl) (by kernel_rfl) (by kernel_rfl) (fun _ _ _ h => h) (Or.inl ⟨by rfl, ?_⟩) hHeld ?_
          rotate_left
          · intro W hS
            try dsimp only at hS
            go_simp
            try with_reducible rfl
          try simp only [List.getElem_toArray, List.getElem_cons_succ, List.getElem_cons_zero, Act.put, List.setIfInBounds_toArray, List.set_cons_zero, List.set_cons_succ]
          refine wpAnyH_ready (rs := [11]) (by kernel_rfl) (by simp) ?_
          refine AllReadyH.cons rfl (fun K hK => ?_) AllReadyH.nil
          go_simp
          refine (cs_add (n := fnd x.n) _ HCS.out.drew HXO.out (by omega) rfl).mono ?_
          rintro e w3 ⟨rfl, hcs, hb, hk⟩
          refine hK.out _ _ (⟨(hb.cell hpb).trans hc0, (hb.cell (p := ⟨(ad.add (i * 3)).block, (ad.add (i * 3)).off + 1, none⟩) hpb).trans hc1, (hb.cell (p := ⟨(ad.add (i * 3)).block, (ad.add (i * 3)).off + 2, none⟩) hpb).trans hc2⟩) (fun hHeld => ?_)
          clear hK K
          try simp only [List.getElem_toArray, List.getElem_cons_succ, List.getElem_cons_zero, Act.put, List.setIfInBounds_toArray, List.set_cons_zero, List.set_cons_succ]
          refine wpAnyH_done (by kernel_rfl) ?_ _
          rw [← HSUCC.out] at hcs
          have HCS3 := Lib.hid hcs
          have HG3 := Lib.hid (((Keep.drew _).trans hk).own HG.out (by decide))
          have HT3 := Lib.hid (((Keep.drew _).trans hk).own HT.out (by decide))
          have HB3 := Lib.hid (HB.out.drew.trans hb)
          clear hcs hk hb hHeld
          go_wp2_with fail
          go_roundw
          case rel => exact ⟨i + 1, by omega, by go_num, HCS3, HG3, HT3, HB3⟩
          case measure => simp [intOf]; omega
        · obtain rfl : n1 = i := by omega
          rw [List.take_of_length_le (by have := HL1.out; omega)] at HCS
          have hkn := HKN.out
          have hkc2 := HKC.out
          have hk := HK.out
          obtain ⟨wo, rfl⟩ : ∃ wo : World, wo = wr := ⟨_, rfl⟩
          go_wp2_with fail
          refine wp_region_held_drew (S := (fun W => Below wo.heap.size wo W)) (by kernel_rfl) ((Below.refl _ _).drew) (fun hHeld => ?_)
          refine wpAnyH_take (i := 0) (v := ?_) rfl (by kernel_rfl) (by kernel_rfl) (by kernel_rfl) (fun _ _ _ h => h) (Or.inl ⟨by rfl, ?_⟩) hHeld ?_
          rotate_left
          · intro W hS
            try dsimp only at hS
            go_simp
            try with_reducible rfl
          try simp only [List.getElem_toArray, List.getElem_cons_succ, List.getElem_cons_zero, Act.put, List.setIfInBounds_toArray, List.set_cons_zero, List.set_cons_succ]
          refine wpAnyH_take (i := 1) (v := ?_) rfl (by kernel_rfl) (by kernel_rfl) (by kernel_rfl) (fun _ _ _ h => h) (Or.inl ⟨by rfl, ?_⟩) hHeld ?_
          rotate_left
          · intro W hS
            try dsimp only at hS
            go_simp
            try with_reducible rfl
          try simp only [List.getElem_toArray, List.getElem_cons_succ, List.getElem_cons_zero, Act.put, List.setIfInBounds_toArray, List.set_cons_zero, List.set_cons_succ]
          refine wpAnyH_take (i := 2) (v := ?_) rfl (by kernel_rfl) (by kernel_rfl) (by kernel_rfl) (fun _ _ _ h => h) (Or.inl ⟨by rfl, ?_⟩) hHeld ?_
          rotate_left
          · intro W hS
            try dsimp only at hS
            go_simp
            try with_reducible rfl
          try simp only [List.getElem_toArray, List.getElem_cons_succ, List.getElem_cons_zero, Act.put, List.setIfInBounds_toArray, List.set_cons_zero, List.set_cons_succ]
          refine wpAnyH_take (i := 4) (v := ?_) rfl (by kernel_rfl) (by kernel_rfl) (by kernel_rfl) (fun _ _ _ h => h) (Or.inl ⟨by rfl, ?_⟩) hHeld ?_
          rotate_left
          · intro W hS
            try dsimp only at hS
            go_simp
            try with_reducible rfl
          try simp only [List.getElem_toArray, List.getElem_cons_succ, List.getElem_cons_zero, Act.put, List.setIfInBounds_toArray, List.set_cons_zero, List.set_cons_succ]
          refine wpAnyH_take (i := 5) (v := ?_) rfl (by kernel_rfl) (by kernel_rfl) (by kernel_rfl) (fun _ _ _ h => h) (Or.inl ⟨by rfl, ?_⟩) hHeld ?_
          rotate_left
          · intro W hS
            try dsimp only at hS
            go_simp
            try with_reducible rfl
          try simp only [List.getElem_toArray, List.getElem_cons_succ, List.getElem_cons_zero, Act.put, List.setIfInBounds_toArray, List.set_cons_zero, List.set_cons_succ]
          refine wpAnyH_take (i := 6) (v := ?_) rfl (by kernel_rfl) (by kernel_rfl) (by kernel_rfl) (fun _ _ _ h => h) (Or.inl ⟨by rfl, ?_⟩) hHeld ?_
          rotate_left
          · intro W hS
            try dsimp only at hS
            go_simp
            try with_reducible rfl
          try simp only [List.getElem_toArray, List.getElem_cons_succ, List.getElem_cons_zero, Act.put, List.setIfInBounds_toArray, List.set_cons_zero, List.set_cons_succ]
          refine wpAnyH_ready (rs := [3]) (by kernel_rfl) (by simp) ?_
          refine AllReadyH.cons rfl (fun K hK => ?_) AllReadyH.nil
          refine wp_append_any _ _ _ 22 rfl wo.heap.size 35 i0 z0 3 24 Try.underlying22 hi0 hz0 hz1 hz2 hz3 (by decide) (.slice none 0 0) 0 [] rfl (World.ownsRow_nil _ _ _ _) w.heap.size _ _ _ (acCells (l1.drop k)) rfl (HTD.out.below (HB.out.trans (hHeld.mono HB.out.size))) (acCells_one _) (by unfold maxLen; omega) (by omega) hHeld.size ?_
          intro v1 w2 hown2 hg2 _
          have hb2 : Below wo.heap.size wo w2 := hHeld.trans ((Touch.grown hg2).below (by simp [Value.ownBlock]) hHeld.size)
          refine hK.out _ _ (hb2) (fun hHeld => ?_)
          clear hK K
          try simp only [List.getElem_toArray, List.getElem_cons_succ, List.getElem_cons_zero, Act.put, List.setIfInBounds_toArray, List.set_cons_zero, List.set_cons_succ]
          refine wpAnyH_ready (rs := [7]) (by kernel_rfl) (by simp) ?_
          refine AllReadyH.cons rfl (fun K hK => ?_) AllReadyH.nil
          refine wp_append_any _ _ _ 22 rfl wo.heap.size 35 i0 z0 3 24 Try.underlying22 hi0 hz0 hz1 hz2 hz3 (by decide) v1 (0 + (n1 - k)) ([] ++ acCells (l1.drop k)) rfl hown2 w.heap.size _ _ _ (acCells (l1.take k)) rfl (HTK.out.below (HB.out.trans (hHeld.mono HB.out.size))) (acCells_one _) (by unfold maxLen; omega) (by omega) hHeld.size ?_
          intro v2 w3 hown3 hg3 _
          have hb3 : Below wo.heap.size wo w3 := hHeld.trans ((Touch.grown hg3).below (fun y hy => (hown2.lt y (by simpa using hy)).1) hHeld.size)
          have hown3 : w3.ownsRow wo.heap.size 35 3 v2 n1 (acCells (l1.drop k ++ l1.take k)) := by rw [acCells_append, show n1 = 0 + (n1 - k) + k by omega]; simpa using hown3
          obtain ⟨A3, c3, rfl⟩ := own_slice hown3
          refine hK.out _ _ (hb3) (fun hHeld => ?_)
          clear hK K
          try simp only [List.getElem_toArray, List.getElem_cons_succ, List.getElem_cons_zero, Act.put, List.setIfInBounds_toArray, List.set_cons_zero, List.set_cons_succ]
          refine wpAnyH_take (i := 8) (v := ?_) rfl (by kernel_rfl) (by kernel_rfl) (by kernel_rfl) (fun _ _ _ h => h) (Or.inl ⟨by rfl, ?_⟩) hHeld ?_
          rotate_left
          · intro W hS
            try dsimp only at hS
            go_simp
            try with_reducible rfl
          try simp only [List.getElem_toArray, List.getElem_cons_succ, List.getElem_cons_zero, Act.put, List.setIfInBounds_toArray, List.set_cons_zero, List.set_cons_succ]
          refine wpAnyH_done (by kernel_rfl) ?_ _
          have HM := Lib.hid hown3
          have HG3 := Lib.hid ((Keep.of_below hb3).own HG.out (by decide))
          have HT3 := Lib.hid ((Keep.of_below hb3).own HT.out (by decide))
          have HCS3 := Lib.hid (HCS.out.on hb3)
          have HB3 := Lib.hid (below_after HB.out hb3 HB.out.size)
          clear hHeld hb3 hb2 hg2 hg3 hown2 hown3 HCS HG HT HB
          have HCS := HCS3
          have HG := HG3
          have HT := HT3
          have HB := HB3
          clear HCS3 HG3 HT3 HB3
          obtain ⟨bm, hbm⟩ : ∃ b, b = wo.heap.size := ⟨_, rfl⟩
          rw [← hbm] at HM
          clear hbm
          obtain ⟨lm, hlm⟩ : ∃ x, l1.drop k ++ l1.take k = x := ⟨_, rfl⟩
          rw [hlm] at HM HLAW HOKM HLM
          clear hlm
          go_wp2_with fail
          go_loopw [14] (fun vi wr => ∃ i : Nat, i ≤ n1 ∧ vi = .int .i64 i ∧ Hid (CS wr w.heap.size w1.heap.size (n0 + n1 + i) (accL bck (accL fnd L l1) (lm.take i))) ∧ Hid (wr.ownsRow b4 33 2 (.slice A4 M4 c4) M4 (tmCells f)) ∧ Hid (wr.ownsRow w4.heap.size 33 2 (.slice A5 M5 c5) M5 (tmCells (tmsL L))) ∧ Hid (wr.ownsRow bm 35 3 (.slice A3 n1 c3) n1 (acCells lm)) ∧ Hid (Below w.heap.size w wr)) (fun vi _ => n1 - (intOf vi).toNat)
          case atStart => exact ⟨0, Nat.zero_le _, rfl, HCS, HG, HT, HM, HB⟩
          case round =>
            obtain ⟨i, hi, rfl, HCS, HG, HT, HM, HB⟩ := hrel
            by_cases hlt : i < n1
            · obtain ⟨ad, rfl, hab, hmem, hc0, hc1, hc2⟩ := Acs.ac (acs_own HM.out) hlt
              have hsucc := accL_succ bck (accL fnd L l1) (l := lm) (k := i) (by have := HLM.out; omega)
              obtain ⟨x, hx⟩ : ∃ x, acAt lm i = x := ⟨_, rfl⟩
              have HX := Lib.hid hx
              rw [hx] at hmem hc0 hc1 hc2 hsucc
              have HXO := Lib.hid (HOKM.out x hmem).1
              have HSUCC := Lib.hid hsucc
              have hfb := fnd_both x.n
              clear hx hmem hsucc
              go_wp2_with fail
              refine wp_region_held_drew (S := (fun W => W.cell? (ad.add (i * 3)) = some (.int .i64 x.t.e) ∧ W.cell? ⟨(ad.add (i * 3)).block, (ad.add (i * 3)).off + 1, none⟩ = some (.int .i64 x.t.l) ∧ W.cell? ⟨(ad.add (i * 3)).block, (ad.add (i * 3)).off + 2, none⟩ = some (.int .i64 x.n))) (by kernel_rfl) (⟨hc0, hc1, hc2⟩) (fun hHeld => ?_)
              refine wpAnyH_take (i := 0) (v := ?_) rfl (by kernel_rfl) (by kernel_rfl) (by kernel_rfl) (fun _ _ _ h => h) (Or.inl ⟨by rfl, ?_⟩) hHeld ?_
              rotate_left
              · intro W hS
                try dsimp only at hS
                go_simp
                try with_reducible rfl
              try simp only [List.getElem_toArray, List.getElem_cons_succ, List.getElem_cons_zero, Act.put, List.setIfInBounds_toArray, List.set_cons_zero, List.set_cons_succ]
              refine wpAnyH_take (i := 1) (v := ?_) rfl (by kernel_rfl) (by kernel_rfl) (by kernel_rfl) (fun _ _ _ h => h) (Or.inl ⟨by rfl, ?_⟩) hHeld ?_
              rotate_left
              · intro W hS
                try dsimp only at hS
                go_simp
                try with_reducible rfl
              try simp only [List.getElem_toArray, List.getElem_cons_succ, List.getElem_cons_zero, Act.put, List.setIfInBounds_toArray, List.set_cons_zero, List.set_cons_succ]
              refine wpAnyH_take (i := 2) (v := ?_) rfl (by kernel_rfl) (by kernel_rfl) (by kernel_rfl) (fun _ _ _ h => h) (Or.inl ⟨by rfl, ?_⟩) hHeld ?_
              rotate_left
              · intro W hS
                try dsimp only at hS
                go_simp
                try with_reducible rfl
              try simp only [List.getElem_toArray, List.getElem_cons_succ, List.getElem_cons_zero, Act.put, List.setIfInBounds_toArray, List.set_cons_zero, List.set_cons_succ]
              refine wpAnyH_take (i := 3) (v := ?_) rfl (by kernel_rfl) (by kernel_rfl) (by kernel_rfl) (fun _ _ _ h => h) (Or.inl ⟨by rfl, ?_⟩) hHeld ?_
              rotate_left
              · intro W hS
                try dsimp only at hS
                go_simp
                try with_reducible rfl
              try simp only [List.getElem_toArray, List.getElem_cons_succ, List.getElem_cons_zero, Act.put, List.setIfInBounds_toArray, List.set_cons_zero, List.set_cons_succ]
              refine wpAnyH_take (i := 4) (v := ?_) rfl (by kernel_rfl) (by kernel_rfl) (by kernel_rfl) (fun _ _ _ h => h) (Or.inl ⟨by rfl, ?_⟩) hHeld ?_
              rotate_left
              · intro W hS
                try dsimp only at hS
                go_simp
                try with_reducible rfl
              try simp only [List.getElem_toArray, List.getElem_cons_succ, List.getElem_cons_zero, Act.put, List.setIfInBounds_toArray, List.set_cons_zero, List.set_cons_succ]
              refine wpAnyH_take (i := 5) (v := ?_) rfl (by kernel_rfl) (by kernel_rfl) (by kernel_rfl) (fun _ _ _ h => h) (Or.inl ⟨by rfl, ?_⟩) hHeld ?_
              rotate_left
              · intro W hS
                try dsimp only at hS
                go_simp
                try with_reducible rfl
              try simp only [List.getElem_toArray, List.getElem_cons_succ, List.getElem_cons_zero, Act.put, List.setIfInBounds_toArray, List.set_cons_zero, List.set_cons_succ]
              refine wpAnyH_take (i := 6) (v := ?_) rfl (by kernel_rfl) (by kernel_rfl) (by kernel_rfl) (fun _ _ _ h => h) (Or.inl ⟨by rfl, ?_⟩) hHeld ?_
              rotate_left
              · intro W hS
                try dsimp only at hS
                go_simp
                try with_reducible rfl
              try simp only [List.getElem_toArray, List.getElem_cons_succ, List.getElem_cons_zero, Act.put, List.setIfInBounds_toArray, List.set_cons_zero, List.set_cons_succ]
              refine wpAnyH_take (i := 7) (v := ?_) rfl (by kernel_rfl) (by kernel_rfl) (by kernel_rfl) (fun _ _ _ h => h) (Or.inl ⟨by rfl, ?_⟩) hHeld ?_
              rotate_left
              · intro W hS
                try dsimp only at hS
                go_simp
                try with_reducible rfl
              try simp only [List.getElem_toArray, List.getElem_cons_succ, List.getElem_cons_zero, Act.put, List.setIfInBounds_toArray, List.set_cons_zero, List.set_cons_succ]
              refine wpAnyH_take (i := 8) (v := ?_) rfl (by kernel_rfl) (by kernel_rfl) (by kernel_rfl) (fun _ _ _ h => h) (Or.inl ⟨by rfl, ?_⟩) hHeld ?_
              rotate_left
              · intro W hS
                try dsimp only at hS
                go_simp
                try with_reducible rfl
              try simp only [List.getElem_toArray, List.getElem_cons_succ, List.getElem_cons_zero, Act.put, List.setIfInBounds_toArray, List.set_cons_zero, List.set_cons_succ]
              refine wpAnyH_take (i := 9) (v := ?_) rfl (by kernel_rfl) (by kernel_rfl) (by kernel_rfl) (fun _ _ _ h => h) (Or.inl ⟨by rfl, ?_⟩) hHeld ?_
              rotate_left
              · intro W hS
                try dsimp only at hS
                go_simp
                try with_reducible rfl
              try simp only [List.getElem_toArray, List.getElem_cons_succ, List.getElem_cons_zero, Act.put, List.setIfInBounds_toArray, List.set_cons_zero, List.set_cons_succ]
              refine wpAnyH_take (i := 10) (v := ?_) rfl (by kernel_rfl) (by kernel_rfl) (by kernel_rfl) (fun _ _ _ h => h) (Or.inl ⟨by rfl, ?_⟩) hHeld ?_
              rotate_left
              · intro W hS
                try dsimp only at hS
                go_simp
                try with_reducible rfl
              try simp only [List.getElem_toArray, List.getElem_cons_succ, List.getElem_cons_zero, Act.put, List.setIfInBounds_toArray, List.set_cons_zero, List.set_cons_succ]
              refine wpAnyH_take (i := 11) (v := ?_) rfl (by kernel_rfl) (by kernel_rfl) (by kernel_rfl) (fun _ _ _ h => h) (Or.inl ⟨by rfl, ?_⟩) hHeld ?_
              rotate_left
              · intro W hS
                try dsimp only at hS
                go_simp
                try with_reducible rfl
              try simp only [List.getElem_toArray, List.getElem_cons_succ, List.getElem_cons_zero, Act.put, List.setIfInBounds_toArray, List.set_cons_zero, List.set_cons_succ]
              refine wpAnyH_ready (rs := [12]) (by kernel_rfl) (by simp) ?_
              refine AllReadyH.cons rfl (fun K hK => ?_) AllReadyH.nil
              go_simp
              rw [wrap_bck x.n] -- neg
              refine (cs_add (n := bck x.n) _ HCS.out.drew HXO.out (by omega) rfl).mono ?_
              rintro e w3 ⟨rfl, hcs, hb, hk⟩
              refine hK.out _ _ (by have hq := Acs.cells (acs_own (((Keep.drew _).trans hk).own HM.out (by decide))) hlt; rw [HX.out] at hq; exact hq) (fun hHeld => ?_)
              clear hK K
              try simp only [List.getElem_toArray, List.getElem_cons_succ, List.getElem_cons_zero, Act.put, List.setIfInBounds_toArray, List.set_cons_zero, List.set_cons_succ]
              refine wpAnyH_done (by kernel_rfl) ?_ _
              rw [← HSUCC.out] at hcs
              have HCS3 := Lib.hid hcs
              have HG3 := Lib.hid (((Keep.drew _).trans hk).own HG.out (by decide))
              have HT3 := Lib.hid (((Keep.drew _).trans hk).own HT.out (by decide))
              have HM3 := Lib.hid (((Keep.drew _).trans hk).own HM.out (by decide))
              have HB3 := Lib.hid (HB.out.drew.trans hb)
              clear hcs hk hb hHeld
              go_wp2_with fail
              go_roundw
              case rel => exact ⟨i + 1, by omega, by go_num, HCS3, HG3, HT3, HM3, HB3⟩
              case measure => simp [intOf]; omega
            · obtain rfl : n1 = i := by omega
              rw [List.take_of_length_le (by have := HLM.out; omega)] at HCS
              rw [HLAW.out] at HCS
              go_wp2_with fail
              refine (cs_front _ HCS.out (by omega) (by have := HLEN.out; omega)).mono ?_
              rintro e w6 ⟨A6, M6, c6, f6, rfl, hf6, hM6, hO6, hb6⟩
              have hM60 : M6 ≤ 30 := by have := HLEN.out; omega
              have HEQ := Lib.hid (hf6.unique HF.out)
              have HO6 := Lib.hid hO6
              have HCS6 := Lib.hid (HCS.out.on hb6)
              have HB6 := Lib.hid (below_after HB.out hb6 HB.out.size)
              have HG6 := Lib.hid ((Keep.of_below hb6).own HG.out (by decide))
              have HT6 := Lib.hid ((Keep.of_below hb6).own HT.out (by decide))
              clear hf6 hM6 hO6 hb6
              go_wp2_with fail
              refine (same_b (b := true) _ (reads_own HO6.out) (reads_own HG6.out) ⟨fun _ => HEQ.out, fun _ => rfl⟩ (by omega) (by omega)).mono ?_
              rintro e w7 ⟨rfl, hb7⟩
              have HCS7 := Lib.hid (HCS6.out.on hb7)
              have HB7 := Lib.hid (below_after HB6.out hb7 HB6.out.size)
              have HT7 := Lib.hid ((Keep.of_below hb7).own HT6.out (by decide))
              clear hb7
              go_wp2_with fail
              refine (cs_times _ HCS7.out (by omega) (by have := HLEN.out; omega)).mono ?_
              rintro e w8 ⟨A8, M8, c8, rfl, hM8, hO8, hb8⟩
              have hM80 : M8 ≤ 30 := by have := HLEN.out; omega
              have HO8 := Lib.hid hO8
              have HT8 := Lib.hid ((Keep.of_below hb8).own HT7.out (by decide))
              have HB8 := Lib.hid (below_after HB7.out hb8 HB7.out.size)
              clear hM8 hO8 hb8
              go_wp2_with fail
              refine (same_b (b := true) _ (reads_own HO8.out) (reads_own HT8.out) ⟨fun _ => rfl, fun _ => rfl⟩ (by omega) (by omega)).mono ?_
              rintro e w9 ⟨rfl, hb9⟩
              have HB9 := below_after HB8.out hb9 HB8.out.size
              go_wp2_with fail
              go_ret
              exact ⟨rfl, HB9⟩

theorem countsBack_walk (a2 : Int) {A0 A1 : Option Addr} {n0 c0 n1 c1 : Nat} {l0 l1 : List Ac} (w : World) (r0 : Acs w w.heap.size A0 n0 l0) (hok0 : ∀ a ∈ l0, a.ok) (_ : n0 ≤ maxLen) (_ : n0 ≤ c0) (r1 : Acs w w.heap.size A1 n1 l1) (hok1 : ∀ a ∈ l1, a.ok) (_ : n1 ≤ maxLen) (hnc : n1 ≤ c1) (_ : (Lit.int .i64 a2).wf = true) : Calls Try.prog 10 #[.slice A0 n0 c0, .slice A1 n1 c1, .int .i64 a2] w fun e w' => e = .returned (.bool true) ∧ Below w.heap.size w w' := by
  by_cases h0 : 30 < n0
  · exact cback_early0 w h0
  · by_cases h1 : 30 < n1
    · exact cback_early1 w h0 h1
    · by_cases h2 : a2 < 0
      · exact cback_early2 w h0 h1 h2
      · by_cases h3 : (n1 : Int) < a2
        · exact cback_early3 w h0 h1 h2 h3
        · obtain ⟨k, rfl⟩ : ∃ k : Nat, a2 = (k : Int) := ⟨a2.toNat, by omega⟩
          by_cases hck : c1 = k
          · subst hck
            exact cback_eq w r0 hok0 r1 hok1 (by omega) hnc h0 h1
          · exact cback_ne w r0 hok0 r1 hok1 (by omega) hnc hck h0 h1

namespace countsBack
set_option maxRecDepth 100000 in
theorem contract (H : Type) (enc : TypeId × Value → H) (W : World) (base : Nat) (args : Array Value) (ds gs : List (DataW H)) (before : List MemPlace)
    (hval : ∀ (j : Nat) t v, Try.f10.params[j]? = some t → args[j]? = some v → Value.okWide Try.prog W .any base t v)
    (hW : DataW.Whole enc Try.prog Try.f10.params.toList Rows.countsBackSpec.vars false W args.toList ds gs before) :
    Calls Try.prog 10 args W fun e W' => ∃ v, e = .returned v ∧ Rows.countsBackSpec.post enc Try.prog Try.f10 false true false false W args v W' := by
  have hWc := hW
  obtain ⟨p, q, hA0, hV, _, _, _⟩ := hW
  have hA : DataW.TrodAll enc Try.prog W 0 (fun _ => true) true Try.f10.params.toList args.toList ds p := hA0
  clear hA0
  rw [Try.params10] at hA hval
  obtain ⟨v0, vs0, d0, ds0, p0, q0, hargs, rfl, rfl, h0, r0⟩ := trodAll_cons hA
  obtain ⟨v1, vs1, d1, ds1, p1, q1, rfl, rfl, rfl, h1, r1⟩ := trodAll_cons r0
  obtain ⟨v2, vs2, d2, ds2, p2, q2, rfl, rfl, rfl, h2, r2⟩ := trodAll_cons r1
  obtain ⟨rfl, rfl, rfl⟩ := trodAll_nil r2
  obtain rfl : args = #[v0, v1, v2] := by cases args; simp_all
  obtain ⟨A0, n0, c0, l0, rfl, hr0, ok0, hn0, hc0⟩ := open_acts (hval 0 22 v0 rfl rfl) h0
  obtain ⟨A1, n1, c1, l1, rfl, hr1, ok1, hn1, hc1⟩ := open_acts (hval 1 22 v1 rfl rfl) h1
  obtain ⟨a2, rfl, rfl, rfl, wa2⟩ := open_int Try.underlying3 (hval 2 3 v2 rfl rfl) h2
  refine (countsBack_walk a2 W hr0 ok0 (Nat.le_trans hn0 hc0) hn0 hr1 ok1 (Nat.le_trans hn1 hc1) hn1 wa2).mono fun e W' ⟨he, hb⟩ => ⟨_, he, ?_⟩
  exact post_true hWc rfl hb laidOut (readables (by kernel_rfl)) rfl Try.underlying4 (fun h => by subst h; rfl)

set_option maxRecDepth 100000 in
theorem lifted (os : Os) (started : os.Started) (H : Type) (enc : TypeId × Value → H) :
    ReturnsInHanded {} Try.checked os 10 .any (Rows.countsBackSpec.pre6 enc Try.prog Try.f10 Rows.countsBackRow.domain false) (Rows.countsBackSpec.post enc Try.prog Try.f10 false true false false) := by
  refine returnsInHanded_of_change (C := Try.checked) own started (by kernel_rfl) Try.func10
    (ChangeSpec.witness6 (enc := enc) (C := Try.checked) false ⟨#[], #[.slice none 0 0, .slice none 0 0, .int .i64 0], []⟩ 8 (by kernel_rfl) (by kernel_rfl) (by kernel_rfl) (by kernel_rfl)) ?_
  intro W base args ds gs before hval hW _ _
  exact contract H enc W base args ds gs before hval hW

theorem proved : Rows.CountsBackSaid :=
  OpenClaim.holds_of_wide 10 Try.f10 rfl rfl rfl rfl rfl rfl rfl ⟨rfl, rfl, rfl, rfl, rfl⟩ rfl rfl rfl rfl rfl (by kernel_rfl) Try.func10 (by kernel_rfl)
    (of_decide_eq_true (by kernel_rfl)) (by unfold Func.isWrapper; first | (rw [if_pos (by decide +kernel)]; kernel_rfl) | (rw [if_neg (by decide +kernel)]; exact ⟨rfl, rfl⟩))
    (fun os started H enc _ => lifted os started H enc)
end countsBack
end Go.Proofs.Ytifoonjhcjmehaa
