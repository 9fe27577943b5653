/-
  The reference's PutTime and Min, by contracts.
-/
import Derived.Test.YtifoonjhcjmehaaRefLaw
import Derived.Test.YtifoonjhcjmehaaMin
import Derived.BigRegion
namespace Go.Proofs.Ytifoonjhcjmehaa
open Go.RowKit
set_option linter.unusedSimpArgs false
set_option linter.unusedVariables false
set_option maxRecDepth 100000 in
theorem run_tm_same (a b : Int) (w : World) : (binOp .eql 33 (.agg #[.int .i64 a, .int .i64 b]) (.agg #[.int .i64 a, .int .i64 b])).run Try.prog w = .ok (.bool true) w := by
  go_simp
set_option maxRecDepth 100000 in
theorem run_tm_else {a b c d : Int} (h : ¬ (a = c ∧ b = d)) (w : World) : (binOp .eql 33 (.agg #[.int .i64 a, .int .i64 b]) (.agg #[.int .i64 c, .int .i64 d])).run Try.prog w = .ok (.bool false) w := by
  by_cases h1 : a = c
  · subst h1
    have h2 : ¬ b = d := fun e => h ⟨rfl, e⟩
    clear h
    go_simp
  · clear h; go_simp
theorem run_tm {x y : Tm} {r : Bool} (h : r = true ↔ x = y) (w : World) : (binOp .eql 33 (.agg #[.int .i64 x.e, .int .i64 x.l]) (.agg #[.int .i64 y.e, .int .i64 y.l])).run Try.prog w = .ok (.bool r) w := by
  cases r
  · refine run_tm_else (fun e => ?_) w
    exact absurd (h.2 (Tm.ext_ e.1 e.2)) (by simp)
  · have := h.1 rfl
    subst this
    exact run_tm_same ..
section
variable {a b : Tm} {r : Bool} (w : World)
theorem ahead_b (h : a.ahead b = r) : Calls Try.prog 29 #[tmv a, tmv b] w fun e w' => e = .returned (.bool r) ∧ Below w.heap.size w w' := by subst h; exact ahead_t a b w
end
theorem own_cap {w : World} {B e size n c : Nat} {A : Option Addr} {xs : List Value} (h : w.ownsRow B e size (.slice A n c) n xs) : n ≤ c := by
  rcases h.2 with ⟨_, h0⟩ | ⟨g, cap, cur, hv, _, _, hc, _⟩
  · omega
  · injection hv with _ _ h3; omega
theorem reads_two {w : World} {g : Nat} {t : Tm} (h : Blk w g 33 #[.int .i64 t.e, .int .i64 t.l]) : Reads w (g + 1) 2 (some ⟨g, 0, none⟩) 1 [.int .i64 t.e, .int .i64 t.l] :=
  ⟨rfl, fun _ => ⟨_, rfl, Nat.lt_succ_self g, fun j u hu => by rw [Addr.add_lit, h.c]; simpa using hu⟩⟩
theorem two_one (t : Tm) : ∀ u ∈ ([.int .i64 t.e, .int .i64 t.l] : List Value), u.oneCell' = true := by
  intro u hu; simp at hu; rcases hu with rfl | rfl <;> rfl
theorem own_put {w : World} {base base' n k m : Nat} {v : Value} {l : List Tm} {t : Tm} (h : w.ownsRow base 33 2 v (0 + k + 1 + m) ([] ++ tmCells (l.take k) ++ [.int .i64 t.e, .int .i64 t.l] ++ tmCells (l.drop k)))
    (hl : l.length = n) (hk : k ≤ n) (hm : m = n - k) (hp : putL l t = l.take k ++ [t] ++ l.drop k) (hb : base' ≤ base) : w.ownsRow base' 33 2 v (putL l t).length (tmCells (putL l t)) := by
  rw [hp, tmCells_append, tmCells_append]
  have e : (l.take k ++ [t] ++ l.drop k).length = 0 + k + 1 + m := by simp; omega
  rw [e]
  exact own_base (by simpa [tmCells] using h) hb
theorem keepB {w W : World} {g : Nat} {t : TypeId} {s : Array Value} (K : Blk w g t s) (hb : Below w.heap.size w W) : Below w.heap.size w W ∧ ∀ i, W.cell? ⟨g, i, none⟩ = s[i]? := ⟨hb, (K.on hb).c⟩

set_option maxRecDepth 100000 in
set_option maxHeartbeats 4000000 in
theorem put_any {base n c : Nat} {A : Option Addr} {l : List Tm} {t : Tm} (w : World) (hown : w.ownsRow base 33 2 (.slice A n c) n (tmCells l)) (hbase : base ≤ w.heap.size) (hn : n ≤ 1000) :
    Calls Try.prog 44 #[.slice A n c, tmv t] w fun e w' => ∃ v, e = .returned v ∧ w'.ownsRow base 33 2 v (putL l t).length (tmCells (putL l t)) ∧ Below w.heap.size w w' := by
  obtain ⟨i0, hi0, hz0, hz1, hz2⟩ := info_parts infoTime
  have HOWN := Lib.hid hown
  have hnc : n ≤ c := own_cap hown
  have HT := Lib.hid (Reads.of_own hown : Tms w w.heap.size A n l)
  have HL := Lib.hid (Tms.len HT.out)
  clear hown
  go_enter Try.func44, Try.ntmps44
  go_wp2_with fail
  go_loopw [5] (fun v wr => ∃ k : Nat, k ≤ n ∧ v = .int .i64 k ∧ Below w.heap.size w wr ∧ Blk wr w.heap.size 33 #[.int .i64 t.e, .int .i64 t.l] ∧ Hid (∀ j, j < k → (Tm.at_ l j).ahead t = true)) (fun v _ => n - (intOf v).toNat)
  case atStart => exact ⟨0, Nat.zero_le _, rfl, (Below.refl _ _).alloc (Nat.le_refl _) _, Blk.new _ _ _, Lib.hid (fun j hj => absurd hj (by omega))⟩
  case round =>
    obtain ⟨k, hk, rfl, HB, KT, HN⟩ := hrel
    by_cases hlt : k < n
    · obtain ⟨ad, rfl, hab, hp, hmem, hc0, hc1⟩ := Tms.tm (HT.out.below HB) hlt
      obtain ⟨x, hx⟩ : ∃ x, Tm.at_ l k = x := ⟨_, rfl⟩
      rw [hx] at hp hmem hc0 hc1
      have HX := Lib.hid hx
      have c0 := KT.c
      have z0 := KT.lt
      have f0 := KT.f
      clear hx hp hmem
      have hlt' : decide ((k : Int) < (n : Int)) = true := by simp; omega
      cases ha : x.ahead t
      · have HA := Lib.hid ha
        clear ha
        go_wp2_with fail
        refine wp_region_held_drew (S := (fun W => Below w.heap.size w W ∧ Blk W w.heap.size 33 #[.int .i64 t.e, .int .i64 t.l] ∧ (∀ i, W.cell? ⟨w.heap.size, i, none⟩ = (#[.int .i64 t.e, .int .i64 t.l] : Array Value)[i]?) ∧ W.cell? (ad.add (k * 2)) = some (.int .i64 x.e) ∧ W.cell? ⟨(ad.add (k * 2)).block, (ad.add (k * 2)).off + 1, none⟩ = some (.int .i64 x.l))) (by kernel_rfl) (⟨HB.drew, KT.drewN 1, (KT.drewN 1).c, hc0, hc1⟩) (fun hHeld => ?_)
        refine wpAnyH_take (i := 0) (v := ?_) rfl (by kernel_rfl) (by kernel_rfl) (by kernel_rfl) (fun _ _ _ h => h) (Or.inl ⟨by rfl, ?_⟩) hHeld ?_
        rotate_left
        · intro W hS
          try dsimp only at hS
          go_simp
          try with_reducible rfl
        try simp only [List.getElem_toArray, List.getElem_cons_succ, List.getElem_cons_zero, Act.put, List.setIfInBounds_toArray, List.set_cons_zero, List.set_cons_succ]
        refine wpAnyH_take (i := 1) (v := ?_) rfl (by kernel_rfl) (by kernel_rfl) (by kernel_rfl) (fun _ _ _ h => h) (Or.inl ⟨by rfl, ?_⟩) hHeld ?_
        rotate_left
        · intro W hS
          try dsimp only at hS
          go_simp
          try with_reducible rfl
        try simp only [List.getElem_toArray, List.getElem_cons_succ, List.getElem_cons_zero, Act.put, List.setIfInBounds_toArray, List.set_cons_zero, List.set_cons_succ]
        refine wpAnyH_take (i := 2) (v := ?_) rfl (by kernel_rfl) (by kernel_rfl) (by kernel_rfl) (fun _ _ _ h => h) (Or.inl ⟨by rfl, ?_⟩) hHeld ?_
        rotate_left
        · intro W hS
          try dsimp only at hS
          go_simp
          try with_reducible rfl
        try simp only [List.getElem_toArray, List.getElem_cons_succ, List.getElem_cons_zero, Act.put, List.setIfInBounds_toArray, List.set_cons_zero, List.set_cons_succ]
        refine wpAnyH_take (i := 3) (v := ?_) rfl (by kernel_rfl) (by kernel_rfl) (by kernel_rfl) (fun _ _ _ h => h) (Or.inl ⟨by rfl, ?_⟩) hHeld ?_
        rotate_left
        · intro W hS
          try dsimp only at hS
          go_simp
          try with_reducible rfl
        try simp only [List.getElem_toArray, List.getElem_cons_succ, List.getElem_cons_zero, Act.put, List.setIfInBounds_toArray, List.set_cons_zero, List.set_cons_succ]
        refine wpAnyH_take (i := 4) (v := ?_) rfl (by kernel_rfl) (by kernel_rfl) (by kernel_rfl) (fun _ _ _ h => h) (Or.inl ⟨by rfl, ?_⟩) hHeld ?_
        rotate_left
        · intro W hS
          try dsimp only at hS
          go_simp
          try with_reducible rfl
        try simp only [List.getElem_toArray, List.getElem_cons_succ, List.getElem_cons_zero, Act.put, List.setIfInBounds_toArray, List.set_cons_zero, List.set_cons_succ]
        refine wpAnyH_take (i := 5) (v := ?_) rfl (by kernel_rfl) (by kernel_rfl) (by kernel_rfl) (fun _ _ _ h => h) (Or.inl ⟨by rfl, ?_⟩) hHeld ?_
        rotate_left
        · intro W hS
          try dsimp only at hS
          go_simp
          try with_reducible rfl
        try simp only [List.getElem_toArray, List.getElem_cons_succ, List.getElem_cons_zero, Act.put, List.setIfInBounds_toArray, List.set_cons_zero, List.set_cons_succ]
        refine wpAnyH_take (i := 6) (v := ?_) rfl (by kernel_rfl) (by kernel_rfl) (by kernel_rfl) (fun _ _ _ h => h) (Or.inl ⟨by rfl, ?_⟩) hHeld ?_
        rotate_left
        · intro W hS
          try dsimp only at hS
          go_simp
          try with_reducible rfl
        try simp only [List.getElem_toArray, List.getElem_cons_succ, List.getElem_cons_zero, Act.put, List.setIfInBounds_toArray, List.set_cons_zero, List.set_cons_succ]
        refine wpAnyH_take (i := 7) (v := ?_) rfl (by kernel_rfl) (by kernel_rfl) (by kernel_rfl) (fun _ _ _ h => h) (Or.inl ⟨by rfl, ?_⟩) hHeld ?_
        rotate_left
        · intro W hS
          try dsimp only at hS
          go_simp
          try with_reducible rfl
        try simp only [List.getElem_toArray, List.getElem_cons_succ, List.getElem_cons_zero, Act.put, List.setIfInBounds_toArray, List.set_cons_zero, List.set_cons_succ]
        refine wpAnyH_take (i := 8) (v := ?_) rfl (by kernel_rfl) (by kernel_rfl) (by kernel_rfl) (fun _ _ _ h => h) (Or.inl ⟨by rfl, ?_⟩) hHeld ?_
        rotate_left
        · intro W hS
          try dsimp only at hS
          go_simp
          try with_reducible rfl
        try simp only [List.getElem_toArray, List.getElem_cons_succ, List.getElem_cons_zero, Act.put, List.setIfInBounds_toArray, List.set_cons_zero, List.set_cons_succ]
        refine wpAnyH_take (i := 9) (v := ?_) rfl (by kernel_rfl) (by kernel_rfl) (by kernel_rfl) (fun _ _ _ h => h) (Or.inl ⟨by rfl, ?_⟩) hHeld ?_
        rotate_left
        · intro W hS
          try dsimp only at hS
          go_simp
          try with_reducible rfl
        try simp only [List.getElem_toArray, List.getElem_cons_succ, List.getElem_cons_zero, Act.put, List.setIfInBounds_toArray, List.set_cons_zero, List.set_cons_succ]
        refine wpAnyH_ready (rs := [10]) (by kernel_rfl) (by simp) ?_
        refine AllReadyH.cons rfl (fun K hK => ?_) AllReadyH.nil
        go_simp
        refine (ahead_b _ HA.out).mono ?_
        rintro e w1 ⟨rfl, hb⟩
        refine hK.out _ _ (keepT hHeld hb (by rw [block_of_add]; exact hab)) (fun hHeld => ?_)
        clear hK K
        try simp only [List.getElem_toArray, List.getElem_cons_succ, List.getElem_cons_zero, Act.put, List.setIfInBounds_toArray, List.set_cons_zero, List.set_cons_succ]
        refine wpAnyH_take (i := 11) (v := ?_) rfl (by kernel_rfl) (by kernel_rfl) (by kernel_rfl) (fun _ _ _ h => h) (Or.inl ⟨by rfl, ?_⟩) hHeld ?_
        rotate_left
        · intro W hS
          try dsimp only at hS
          go_simp
          try with_reducible rfl
        try simp only [List.getElem_toArray, List.getElem_cons_succ, List.getElem_cons_zero, Act.put, List.setIfInBounds_toArray, List.set_cons_zero, List.set_cons_succ]
        refine wpAnyH_done (by kernel_rfl) ?_ _
        obtain ⟨HB1, KT1, cT1, hd0, hd1⟩ := hHeld
        have hq : ∀ w, (binOp .eql 33 (.agg #[.int .i64 x.e, .int .i64 x.l]) (.agg #[.int .i64 t.e, .int .i64 t.l])).run Try.prog w = .ok (.bool (decide (x = t))) w := run_tm (by simp)
        by_cases he : x = t
        · have hde : decide (x = t) = true := by simp [he]
          rw [hde] at hq
          have HE := Lib.hid he
          clear hde he
          go_wp2_with fail
          go_quiet (fail)
          go_wp2_with fail
          go_ret
          have hput : putL l t = l := by rw [putL_at (k := k) (by have := HL.out; omega) HN.out (fun _ => by rw [HX.out]; exact HA.out), if_pos ⟨by have := HL.out; omega, by rw [HX.out]; exact HE.out⟩]
          refine ⟨_, rfl, ?_, below_drewN HB1 _⟩
          rw [hput, HL.out]
          exact own_touch (gs := []) HOWN.out (Touch.of_below (below_drewN HB1 _) (Nat.le_refl _)) (by simp)
        · have hde : decide (x = t) = false := by simp [he]
          rw [hde] at hq
          have HE := Lib.hid he
          clear hde he
          go_wp2_with fail
          go_quiet (fail)
          generalize hW : World.drewN w1 _ = wB
          have HBB : Below w.heap.size w wB := by rw [← hW]; exact below_drewN HB1 _
          have KTB : Blk wB w.heap.size 33 #[.int .i64 t.e, .int .i64 t.l] := by rw [← hW]; exact KT1
          have HPUT := Lib.hid (show putL l t = l.take k ++ [t] ++ l.drop k by rw [putL_at (k := k) (by have := HL.out; omega) HN.out (fun _ => by rw [HX.out]; exact HA.out), if_neg (fun h => HE.out (by rw [← HX.out]; exact h.2))])
          have hck : ¬ (c = k) := by omega
          clear hW hd0 hd1 cT1 HB1 KT1
          have HTL := Lib.hid (by have := (Tms.drop HT.out hk hnc).below HBB; rw [if_neg hck] at this; exact this)
          have hkc2 : k ≤ c := Nat.le_trans hk hnc
          go_wp2_with (at_builtin; refine wpList_append_any _ rfl _ _ 38 rfl wB.heap.size 33 i0 (.agg #[.int .i64 0, .int .i64 0]) 2 16 Try.underlying38 hi0 hz0 hz1 hz2 rfl (by decide) (.slice none 0 0) 0 [] rfl (World.ownsRow_nil _ _ _ _) w.heap.size _ _ _ (tmCells (l.drop k)) rfl HTL.out (tmCells_one _) (by unfold maxLen; omega) (by omega) (Nat.le_refl _) ?_)
          intro v6 w6 hown6 hg6 _
          have hown6 : w6.ownsRow wB.heap.size 33 2 v6 (n - k) (tmCells (l.drop k)) := by simpa using hown6
          obtain ⟨A6, c6, rfl⟩ := own_slice hown6
          have hb6 : Below wB.heap.size wB w6 := (Touch.grown hg6).below (by simp [Value.ownBlock]) (Nat.le_refl _)
          have HB6 := Lib.hid (HBB.trans (hb6.mono HBB.size))
          have K6 := KTB.on hb6
          have hz6 := K6.lt
          have HTK := Lib.hid (((Tms.take HT.out hk).below HB6.out).more HB6.out.size)
          have HTD := Lib.hid (Reads.of_own hown6 : Tms w6 w6.heap.size A6 (n - k) (l.drop k))
          have hz6b : w.heap.size ≤ w6.heap.size := HB6.out.size
          clear hown6 hg6 hb6
          go_wp2_with fail
          refine wp_region_held_drew (S := (fun W => Below w6.heap.size w6 W ∧ ∀ i, W.cell? ⟨w.heap.size, i, none⟩ = (#[.int .i64 t.e, .int .i64 t.l] : Array Value)[i]?)) (by kernel_rfl) (⟨(Below.refl _ _).drew, K6.c⟩) (fun hHeld => ?_)
          refine wpAnyH_take (i := 0) (v := ?_) rfl (by kernel_rfl) (by kernel_rfl) (by kernel_rfl) (fun _ _ _ h => h) (Or.inl ⟨by rfl, ?_⟩) hHeld ?_
          rotate_left
          · intro W hS
            try dsimp only at hS
            go_simp
            try with_reducible rfl
          try simp only [List.getElem_toArray, List.getElem_cons_succ, List.getElem_cons_zero, Act.put, List.setIfInBounds_toArray, List.set_cons_zero, List.set_cons_succ]
          refine wpAnyH_take (i := 1) (v := ?_) rfl (by kernel_rfl) (by kernel_rfl) (by kernel_rfl) (fun _ _ _ h => h) (Or.inl ⟨by rfl, ?_⟩) hHeld ?_
          rotate_left
          · intro W hS
            try dsimp only at hS
            go_simp
            try with_reducible rfl
          try simp only [List.getElem_toArray, List.getElem_cons_succ, List.getElem_cons_zero, Act.put, List.setIfInBounds_toArray, List.set_cons_zero, List.set_cons_succ]
          refine wpAnyH_take (i := 2) (v := ?_) rfl (by kernel_rfl) (by kernel_rfl) (by kernel_rfl) (fun _ _ _ h => h) (Or.inl ⟨by rfl, ?_⟩) hHeld ?_
          rotate_left
          · intro W hS
            try dsimp only at hS
            go_simp
            try with_reducible rfl
          try simp only [List.getElem_toArray, List.getElem_cons_succ, List.getElem_cons_zero, Act.put, List.setIfInBounds_toArray, List.set_cons_zero, List.set_cons_succ]
          refine wpAnyH_take (i := 4) (v := ?_) rfl (by kernel_rfl) (by kernel_rfl) (by kernel_rfl) (fun _ _ _ h => h) (Or.inl ⟨by rfl, ?_⟩) hHeld ?_
          rotate_left
          · intro W hS
            try dsimp only at hS
            go_simp
            try with_reducible rfl
          try simp only [List.getElem_toArray, List.getElem_cons_succ, List.getElem_cons_zero, Act.put, List.setIfInBounds_toArray, List.set_cons_zero, List.set_cons_succ]
          refine wpAnyH_take (i := 7) (v := ?_) rfl (by kernel_rfl) (by kernel_rfl) (by kernel_rfl) (fun _ _ _ h => h) (Or.inl ⟨by rfl, ?_⟩) hHeld ?_
          rotate_left
          · intro W hS
            try dsimp only at hS
            go_simp
            try with_reducible rfl
          try simp only [List.getElem_toArray, List.getElem_cons_succ, List.getElem_cons_zero, Act.put, List.setIfInBounds_toArray, List.set_cons_zero, List.set_cons_succ]
          refine wpAnyH_ready (rs := [3, 5]) (by kernel_rfl) (by simp) ?_
          refine (AllReadyH.cons rfl (fun K hK => ?_) (AllReadyH.cons rfl (fun K hK => ?_) AllReadyH.nil))
          · refine wp_append_any _ _ _ 38 rfl w6.heap.size 33 i0 (.agg #[.int .i64 0, .int .i64 0]) 2 16 Try.underlying38 hi0 hz0 hz1 hz2 rfl (by decide) (.slice none 0 0) 0 [] rfl (World.ownsRow_nil _ _ _ _) w6.heap.size _ _ _ (tmCells (l.take k)) rfl (HTK.out.below hHeld.1) (tmCells_one _) (by unfold maxLen; omega) (by omega) hHeld.1.size ?_
            intro v1 w7 hown7 hg7 _
            have hb7 : Below w6.heap.size w6 w7 := hHeld.1.trans ((Touch.grown hg7).below (by simp [Value.ownBlock]) hHeld.1.size)
            refine hK.out _ _ (keepB K6 hb7) (fun hHeld => ?_)
            clear hK K
            try simp only [List.getElem_toArray, List.getElem_cons_succ, List.getElem_cons_zero, Act.put, List.setIfInBounds_toArray, List.set_cons_zero, List.set_cons_succ]
            refine wpAnyH_ready (rs := [5]) (by kernel_rfl) (by simp) ?_
            refine (AllReadyH.cons rfl (fun K hK => ?_) AllReadyH.nil)
            go_simp
            refine hK.out _ _ (keepB K6 (hHeld.1.alloc hHeld.1.size _)) (fun hHeld => ?_)
            clear hK K
            try simp only [List.getElem_toArray, List.getElem_cons_succ, List.getElem_cons_zero, Act.put, List.setIfInBounds_toArray, List.set_cons_zero, List.set_cons_succ]
            refine wpAnyH_ready (rs := [6]) (by kernel_rfl) (by simp) ?_
            refine (AllReadyH.cons rfl (fun K hK => ?_) AllReadyH.nil)
            refine wp_append_any _ _ _ 38 rfl w6.heap.size 33 i0 (.agg #[.int .i64 0, .int .i64 0]) 2 16 Try.underlying38 hi0 hz0 hz1 hz2 rfl (by decide) v1 (0 + k) ([] ++ tmCells (l.take k)) rfl (hown7.alloc _) (w7.heap.size + 1) _ _ _ [.int .i64 t.e, .int .i64 t.l] rfl (reads_two (t := t) (Blk.at_ _ _ _ rfl)) (two_one t) (by unfold maxLen; omega) (by omega) hHeld.1.size ?_
            intro v2 w8 hown8 hg8 _
            have hb8 : Below w6.heap.size w6 w8 := hHeld.1.trans ((Touch.grown hg8).below (fun y hy => (hown7.lt y (by simpa using hy)).1) hHeld.1.size)
            refine hK.out _ _ (keepB K6 hb8) (fun hHeld => ?_)
            clear hK K
            try simp only [List.getElem_toArray, List.getElem_cons_succ, List.getElem_cons_zero, Act.put, List.setIfInBounds_toArray, List.set_cons_zero, List.set_cons_succ]
            refine wpAnyH_ready (rs := [8]) (by kernel_rfl) (by simp) ?_
            refine (AllReadyH.cons rfl (fun K hK => ?_) AllReadyH.nil)
            refine wp_append_any _ _ _ 38 rfl w6.heap.size 33 i0 (.agg #[.int .i64 0, .int .i64 0]) 2 16 Try.underlying38 hi0 hz0 hz1 hz2 rfl (by decide) v2 (0 + k + 1) ([] ++ tmCells (l.take k) ++ [.int .i64 t.e, .int .i64 t.l]) rfl hown8 w6.heap.size _ _ _ (tmCells (l.drop k)) rfl (HTD.out.below hHeld.1) (tmCells_one _) (by unfold maxLen; omega) (by omega) hHeld.1.size ?_
            intro v3 w9 hown9 hg9 _
            have hb9 : Below w6.heap.size w6 w9 := hHeld.1.trans ((Touch.grown hg9).below (fun y hy => (hown8.lt y (by simpa using hy)).1) hHeld.1.size)
            refine hK.out _ _ (keepB K6 hb9) (fun hHeld => ?_)
            clear hK K
            try simp only [List.getElem_toArray, List.getElem_cons_succ, List.getElem_cons_zero, Act.put, List.setIfInBounds_toArray, List.set_cons_zero, List.set_cons_succ]
            refine wpAnyH_take (i := 9) (v := ?_) rfl (by kernel_rfl) (by kernel_rfl) (by kernel_rfl) (fun _ _ _ h => h) (Or.inl ⟨by rfl, ?_⟩) hHeld ?_
            rotate_left
            · intro W hS
              try dsimp only at hS
              go_simp
              try with_reducible rfl
            try simp only [List.getElem_toArray, List.getElem_cons_succ, List.getElem_cons_zero, Act.put, List.setIfInBounds_toArray, List.set_cons_zero, List.set_cons_succ]
            refine wpAnyH_done (by kernel_rfl) ?_ _
            go_wp2_with fail
            go_ret
            exact ⟨_, rfl, own_put hown9 HL.out hk (by omega) HPUT.out (Nat.le_trans hbase hz6b), HB6.out.trans (hb9.mono hz6b)⟩
          · go_simp
            refine hK.out _ _ (keepB K6 (hHeld.1.alloc hHeld.1.size _)) (fun hHeld => ?_)
            clear hK K
            try simp only [List.getElem_toArray, List.getElem_cons_succ, List.getElem_cons_zero, Act.put, List.setIfInBounds_toArray, List.set_cons_zero, List.set_cons_succ]
            refine wpAnyH_ready (rs := [3]) (by kernel_rfl) (by simp) ?_
            refine (AllReadyH.cons rfl (fun K hK => ?_) AllReadyH.nil)
            refine wp_append_any _ _ _ 38 rfl w6.heap.size 33 i0 (.agg #[.int .i64 0, .int .i64 0]) 2 16 Try.underlying38 hi0 hz0 hz1 hz2 rfl (by decide) (.slice none 0 0) 0 [] rfl (World.ownsRow_nil _ _ _ _) w6.heap.size _ _ _ (tmCells (l.take k)) rfl (HTK.out.below hHeld.1) (tmCells_one _) (by unfold maxLen; omega) (by omega) hHeld.1.size ?_
            intro v1 w7 hown7 hg7 _
            have hb7 : Below w6.heap.size w6 w7 := hHeld.1.trans ((Touch.grown hg7).below (by simp [Value.ownBlock]) hHeld.1.size)
            have KS7 : Blk w7 w6.heap.size 33 #[.int .i64 t.e, .int .i64 t.l] := Blk.touch (by first | exact Blk.at_ _ _ _ rfl | exact (Blk.at_ w6 _ _ rfl).drewN 1) (Touch.grown hg7) (by simp [Value.ownBlock])
            refine hK.out _ _ (keepB K6 hb7) (fun hHeld => ?_)
            clear hK K
            try simp only [List.getElem_toArray, List.getElem_cons_succ, List.getElem_cons_zero, Act.put, List.setIfInBounds_toArray, List.set_cons_zero, List.set_cons_succ]
            refine wpAnyH_ready (rs := [6]) (by kernel_rfl) (by simp) ?_
            refine (AllReadyH.cons rfl (fun K hK => ?_) AllReadyH.nil)
            refine wp_append_any _ _ _ 38 rfl w6.heap.size 33 i0 (.agg #[.int .i64 0, .int .i64 0]) 2 16 Try.underlying38 hi0 hz0 hz1 hz2 rfl (by decide) v1 (0 + k) ([] ++ tmCells (l.take k)) rfl (hown7) (w6.heap.size + 1) _ _ _ [.int .i64 t.e, .int .i64 t.l] rfl (reads_two (t := t) KS7) (two_one t) (by unfold maxLen; omega) (by omega) hHeld.1.size ?_
            intro v2 w8 hown8 hg8 _
            have hb8 : Below w6.heap.size w6 w8 := hHeld.1.trans ((Touch.grown hg8).below (fun y hy => (hown7.lt y (by simpa using hy)).1) hHeld.1.size)
            refine hK.out _ _ (keepB K6 hb8) (fun hHeld => ?_)
            clear hK K
            try simp only [List.getElem_toArray, List.getElem_cons_succ, List.getElem_cons_zero, Act.put, List.setIfInBounds_toArray, List.set_cons_zero, List.set_cons_succ]
            refine wpAnyH_ready (rs := [8]) (by kernel_rfl) (by simp) ?_
            refine (AllReadyH.cons rfl (fun K hK => ?_) AllReadyH.nil)
            refine wp_append_any _ _ _ 38 rfl w6.heap.size 33 i0 (.agg #[.int .i64 0, .int .i64 0]) 2 16 Try.underlying38 hi0 hz0 hz1 hz2 rfl (by decide) v2 (0 + k + 1) ([] ++ tmCells (l.take k) ++ [.int .i64 t.e, .int .i64 t.l]) rfl hown8 w6.heap.size _ _ _ (tmCells (l.drop k)) rfl (HTD.out.below hHeld.1) (tmCells_one _) (by unfold maxLen; omega) (by omega) hHeld.1.size ?_
            intro v3 w9 hown9 hg9 _
            have hb9 : Below w6.heap.size w6 w9 := hHeld.1.trans ((Touch.grown hg9).below (fun y hy => (hown8.lt y (by simpa using hy)).1) hHeld.1.size)
            refine hK.out _ _ (keepB K6 hb9) (fun hHeld => ?_)
            clear hK K
            try simp only [List.getElem_toArray, List.getElem_cons_succ, List.getElem_cons_zero, Act.put, List.setIfInBounds_toArray, List.set_cons_zero, List.set_cons_succ]
            refine wpAnyH_take (i := 9) (v := ?_) rfl (by kernel_rfl) (by kernel_rfl) (by kernel_rfl) (fun _ _ _ h => h) (Or.inl ⟨by rfl, ?_⟩) hHeld ?_
            rotate_left
            · intro W hS
              try dsimp only at hS
              go_simp
              try with_reducible rfl
            try simp only [List.getElem_toArray, List.getElem_cons_succ, List.getElem_cons_zero, Act.put, List.setIfInBounds_toArray, List.set_cons_zero, List.set_cons_succ]
            refine wpAnyH_done (by kernel_rfl) ?_ _
            go_wp2_with fail
            go_ret
            exact ⟨_, rfl, own_put hown9 HL.out hk (by omega) HPUT.out (Nat.le_trans hbase hz6b), HB6.out.trans (hb9.mono hz6b)⟩
      · have HA := Lib.hid ha
        clear ha
        go_wp2_with fail
        refine wp_region_held_drew (S := (fun W => Below w.heap.size w W ∧ Blk W w.heap.size 33 #[.int .i64 t.e, .int .i64 t.l] ∧ (∀ i, W.cell? ⟨w.heap.size, i, none⟩ = (#[.int .i64 t.e, .int .i64 t.l] : Array Value)[i]?) ∧ W.cell? (ad.add (k * 2)) = some (.int .i64 x.e) ∧ W.cell? ⟨(ad.add (k * 2)).block, (ad.add (k * 2)).off + 1, none⟩ = some (.int .i64 x.l))) (by kernel_rfl) (⟨HB.drew, KT.drewN 1, (KT.drewN 1).c, hc0, hc1⟩) (fun hHeld => ?_)
        refine wpAnyH_take (i := 0) (v := ?_) rfl (by kernel_rfl) (by kernel_rfl) (by kernel_rfl) (fun _ _ _ h => h) (Or.inl ⟨by rfl, ?_⟩) hHeld ?_
        rotate_left
        · intro W hS
          try dsimp only at hS
          go_simp
          try with_reducible rfl
        try simp only [List.getElem_toArray, List.getElem_cons_succ, List.getElem_cons_zero, Act.put, List.setIfInBounds_toArray, List.set_cons_zero, List.set_cons_succ]
        refine wpAnyH_take (i := 1) (v := ?_) rfl (by kernel_rfl) (by kernel_rfl) (by kernel_rfl) (fun _ _ _ h => h) (Or.inl ⟨by rfl, ?_⟩) hHeld ?_
        rotate_left
        · intro W hS
          try dsimp only at hS
          go_simp
          try with_reducible rfl
        try simp only [List.getElem_toArray, List.getElem_cons_succ, List.getElem_cons_zero, Act.put, List.setIfInBounds_toArray, List.set_cons_zero, List.set_cons_succ]
        refine wpAnyH_take (i := 2) (v := ?_) rfl (by kernel_rfl) (by kernel_rfl) (by kernel_rfl) (fun _ _ _ h => h) (Or.inl ⟨by rfl, ?_⟩) hHeld ?_
        rotate_left
        · intro W hS
          try dsimp only at hS
          go_simp
          try with_reducible rfl
        try simp only [List.getElem_toArray, List.getElem_cons_succ, List.getElem_cons_zero, Act.put, List.setIfInBounds_toArray, List.set_cons_zero, List.set_cons_succ]
        refine wpAnyH_take (i := 3) (v := ?_) rfl (by kernel_rfl) (by kernel_rfl) (by kernel_rfl) (fun _ _ _ h => h) (Or.inl ⟨by rfl, ?_⟩) hHeld ?_
        rotate_left
        · intro W hS
          try dsimp only at hS
          go_simp
          try with_reducible rfl
        try simp only [List.getElem_toArray, List.getElem_cons_succ, List.getElem_cons_zero, Act.put, List.setIfInBounds_toArray, List.set_cons_zero, List.set_cons_succ]
        refine wpAnyH_take (i := 4) (v := ?_) rfl (by kernel_rfl) (by kernel_rfl) (by kernel_rfl) (fun _ _ _ h => h) (Or.inl ⟨by rfl, ?_⟩) hHeld ?_
        rotate_left
        · intro W hS
          try dsimp only at hS
          go_simp
          try with_reducible rfl
        try simp only [List.getElem_toArray, List.getElem_cons_succ, List.getElem_cons_zero, Act.put, List.setIfInBounds_toArray, List.set_cons_zero, List.set_cons_succ]
        refine wpAnyH_take (i := 5) (v := ?_) rfl (by kernel_rfl) (by kernel_rfl) (by kernel_rfl) (fun _ _ _ h => h) (Or.inl ⟨by rfl, ?_⟩) hHeld ?_
        rotate_left
        · intro W hS
          try dsimp only at hS
          go_simp
          try with_reducible rfl
        try simp only [List.getElem_toArray, List.getElem_cons_succ, List.getElem_cons_zero, Act.put, List.setIfInBounds_toArray, List.set_cons_zero, List.set_cons_succ]
        refine wpAnyH_take (i := 6) (v := ?_) rfl (by kernel_rfl) (by kernel_rfl) (by kernel_rfl) (fun _ _ _ h => h) (Or.inl ⟨by rfl, ?_⟩) hHeld ?_
        rotate_left
        · intro W hS
          try dsimp only at hS
          go_simp
          try with_reducible rfl
        try simp only [List.getElem_toArray, List.getElem_cons_succ, List.getElem_cons_zero, Act.put, List.setIfInBounds_toArray, List.set_cons_zero, List.set_cons_succ]
        refine wpAnyH_take (i := 7) (v := ?_) rfl (by kernel_rfl) (by kernel_rfl) (by kernel_rfl) (fun _ _ _ h => h) (Or.inl ⟨by rfl, ?_⟩) hHeld ?_
        rotate_left
        · intro W hS
          try dsimp only at hS
          go_simp
          try with_reducible rfl
        try simp only [List.getElem_toArray, List.getElem_cons_succ, List.getElem_cons_zero, Act.put, List.setIfInBounds_toArray, List.set_cons_zero, List.set_cons_succ]
        refine wpAnyH_take (i := 8) (v := ?_) rfl (by kernel_rfl) (by kernel_rfl) (by kernel_rfl) (fun _ _ _ h => h) (Or.inl ⟨by rfl, ?_⟩) hHeld ?_
        rotate_left
        · intro W hS
          try dsimp only at hS
          go_simp
          try with_reducible rfl
        try simp only [List.getElem_toArray, List.getElem_cons_succ, List.getElem_cons_zero, Act.put, List.setIfInBounds_toArray, List.set_cons_zero, List.set_cons_succ]
        refine wpAnyH_take (i := 9) (v := ?_) rfl (by kernel_rfl) (by kernel_rfl) (by kernel_rfl) (fun _ _ _ h => h) (Or.inl ⟨by rfl, ?_⟩) hHeld ?_
        rotate_left
        · intro W hS
          try dsimp only at hS
          go_simp
          try with_reducible rfl
        try simp only [List.getElem_toArray, List.getElem_cons_succ, List.getElem_cons_zero, Act.put, List.setIfInBounds_toArray, List.set_cons_zero, List.set_cons_succ]
        refine wpAnyH_ready (rs := [10]) (by kernel_rfl) (by simp) ?_
        refine AllReadyH.cons rfl (fun K hK => ?_) AllReadyH.nil
        go_simp
        refine (ahead_b _ HA.out).mono ?_
        rintro e w1 ⟨rfl, hb⟩
        refine hK.out _ _ (keepT hHeld hb (by rw [block_of_add]; exact hab)) (fun hHeld => ?_)
        clear hK K
        try simp only [List.getElem_toArray, List.getElem_cons_succ, List.getElem_cons_zero, Act.put, List.setIfInBounds_toArray, List.set_cons_zero, List.set_cons_succ]
        refine wpAnyH_take (i := 11) (v := ?_) rfl (by kernel_rfl) (by kernel_rfl) (by kernel_rfl) (fun _ _ _ h => h) (Or.inl ⟨by rfl, ?_⟩) hHeld ?_
        rotate_left
        · intro W hS
          try dsimp only at hS
          go_simp
          try with_reducible rfl
        try simp only [List.getElem_toArray, List.getElem_cons_succ, List.getElem_cons_zero, Act.put, List.setIfInBounds_toArray, List.set_cons_zero, List.set_cons_succ]
        refine wpAnyH_done (by kernel_rfl) ?_ _
        go_wp2_with fail
        go_roundw
        case rel => exact ⟨k + 1, by omega, by go_num, hHeld.1, hHeld.2.1, Lib.hid (all_succ HN.out (by rw [HX.out]; exact HA.out))⟩
        case measure => simp [intOf]; omega
    · have hlt' : decide ((k : Int) < (n : Int)) = false := by simp; omega
      go_wp2_with fail
      go_quiet (fail)
      go_wp2_with fail
      go_quiet (fail)
      generalize hW : World.drewN (World.drewN wr _) _ = wB
      have HBB : Below w.heap.size w wB := by rw [← hW]; exact below_drewN (below_drewN HB _) _
      have KTB : Blk wB w.heap.size 33 #[.int .i64 t.e, .int .i64 t.l] := by rw [← hW]; exact KT
      have HPUT := Lib.hid (show putL l t = l.take k ++ [t] ++ l.drop k by rw [putL_at (k := k) (by have := HL.out; omega) HN.out (fun h => by have := HL.out; omega), if_neg (fun h => by have := HL.out; omega)])
      clear hW
      by_cases hkc : k = c
      · subst hkc
        have hm0 : n - k = 0 := by omega
        have HTL := Lib.hid (by have := (Tms.drop HT.out hk hnc).below HBB; rw [if_pos rfl, hm0] at this; exact this)
        go_wp2_with (at_builtin; refine wpList_append_any _ rfl _ _ 38 rfl wB.heap.size 33 i0 (.agg #[.int .i64 0, .int .i64 0]) 2 16 Try.underlying38 hi0 hz0 hz1 hz2 rfl (by decide) (.slice none 0 0) 0 [] rfl (World.ownsRow_nil _ _ _ _) w.heap.size _ _ _ (tmCells (l.drop k)) rfl HTL.out (tmCells_one _) (by unfold maxLen; omega) (by omega) (Nat.le_refl _) ?_)
        intro v6 w6 hown6 hg6 _
        have hown6 : w6.ownsRow wB.heap.size 33 2 v6 (0) (tmCells (l.drop k)) := by simpa using hown6
        obtain ⟨A6, c6, rfl⟩ := own_slice hown6
        have hb6 : Below wB.heap.size wB w6 := (Touch.grown hg6).below (by simp [Value.ownBlock]) (Nat.le_refl _)
        have HB6 := Lib.hid (HBB.trans (hb6.mono HBB.size))
        have K6 := KTB.on hb6
        have hz6 := K6.lt
        have HTK := Lib.hid (((Tms.take HT.out hk).below HB6.out).more HB6.out.size)
        have HTD := Lib.hid (Reads.of_own hown6 : Tms w6 w6.heap.size A6 (0) (l.drop k))
        have hz6b : w.heap.size ≤ w6.heap.size := HB6.out.size
        clear hown6 hg6 hb6
        go_wp2_with fail
        refine wp_region_held_drew (S := (fun W => Below w6.heap.size w6 W ∧ ∀ i, W.cell? ⟨w.heap.size, i, none⟩ = (#[.int .i64 t.e, .int .i64 t.l] : Array Value)[i]?)) (by kernel_rfl) (⟨(Below.refl _ _).drew, K6.c⟩) (fun hHeld => ?_)
        refine wpAnyH_take (i := 0) (v := ?_) rfl (by kernel_rfl) (by kernel_rfl) (by kernel_rfl) (fun _ _ _ h => h) (Or.inl ⟨by rfl, ?_⟩) hHeld ?_
        rotate_left
        · intro W hS
          try dsimp only at hS
          go_simp
          try with_reducible rfl
        try simp only [List.getElem_toArray, List.getElem_cons_succ, List.getElem_cons_zero, Act.put, List.setIfInBounds_toArray, List.set_cons_zero, List.set_cons_succ]
        refine wpAnyH_take (i := 1) (v := ?_) rfl (by kernel_rfl) (by kernel_rfl) (by kernel_rfl) (fun _ _ _ h => h) (Or.inl ⟨by rfl, ?_⟩) hHeld ?_
        rotate_left
        · intro W hS
          try dsimp only at hS
          go_simp
          try with_reducible rfl
        try simp only [List.getElem_toArray, List.getElem_cons_succ, List.getElem_cons_zero, Act.put, List.setIfInBounds_toArray, List.set_cons_zero, List.set_cons_succ]
        refine wpAnyH_take (i := 2) (v := ?_) rfl (by kernel_rfl) (by kernel_rfl) (by kernel_rfl) (fun _ _ _ h => h) (Or.inl ⟨by rfl, ?_⟩) hHeld ?_
        rotate_left
        · intro W hS
          try dsimp only at hS
          go_simp
          try with_reducible rfl
        try simp only [List.getElem_toArray, List.getElem_cons_succ, List.getElem_cons_zero, Act.put, List.setIfInBounds_toArray, List.set_cons_zero, List.set_cons_succ]
        refine wpAnyH_take (i := 4) (v := ?_) rfl (by kernel_rfl) (by kernel_rfl) (by kernel_rfl) (fun _ _ _ h => h) (Or.inl ⟨by rfl, ?_⟩) hHeld ?_
        rotate_left
        · intro W hS
          try dsimp only at hS
          go_simp
          try with_reducible rfl
        try simp only [List.getElem_toArray, List.getElem_cons_succ, List.getElem_cons_zero, Act.put, List.setIfInBounds_toArray, List.set_cons_zero, List.set_cons_succ]
        refine wpAnyH_take (i := 7) (v := ?_) rfl (by kernel_rfl) (by kernel_rfl) (by kernel_rfl) (fun _ _ _ h => h) (Or.inl ⟨by rfl, ?_⟩) hHeld ?_
        rotate_left
        · intro W hS
          try dsimp only at hS
          go_simp
          try with_reducible rfl
        try simp only [List.getElem_toArray, List.getElem_cons_succ, List.getElem_cons_zero, Act.put, List.setIfInBounds_toArray, List.set_cons_zero, List.set_cons_succ]
        refine wpAnyH_ready (rs := [3, 5]) (by kernel_rfl) (by simp) ?_
        refine (AllReadyH.cons rfl (fun K hK => ?_) (AllReadyH.cons rfl (fun K hK => ?_) AllReadyH.nil))
        · refine wp_append_any _ _ _ 38 rfl w6.heap.size 33 i0 (.agg #[.int .i64 0, .int .i64 0]) 2 16 Try.underlying38 hi0 hz0 hz1 hz2 rfl (by decide) (.slice none 0 0) 0 [] rfl (World.ownsRow_nil _ _ _ _) w6.heap.size _ _ _ (tmCells (l.take k)) rfl (HTK.out.below hHeld.1) (tmCells_one _) (by unfold maxLen; omega) (by omega) hHeld.1.size ?_
          intro v1 w7 hown7 hg7 _
          have hb7 : Below w6.heap.size w6 w7 := hHeld.1.trans ((Touch.grown hg7).below (by simp [Value.ownBlock]) hHeld.1.size)
          refine hK.out _ _ (keepB K6 hb7) (fun hHeld => ?_)
          clear hK K
          try simp only [List.getElem_toArray, List.getElem_cons_succ, List.getElem_cons_zero, Act.put, List.setIfInBounds_toArray, List.set_cons_zero, List.set_cons_succ]
          refine wpAnyH_ready (rs := [5]) (by kernel_rfl) (by simp) ?_
          refine (AllReadyH.cons rfl (fun K hK => ?_) AllReadyH.nil)
          go_simp
          refine hK.out _ _ (keepB K6 (hHeld.1.alloc hHeld.1.size _)) (fun hHeld => ?_)
          clear hK K
          try simp only [List.getElem_toArray, List.getElem_cons_succ, List.getElem_cons_zero, Act.put, List.setIfInBounds_toArray, List.set_cons_zero, List.set_cons_succ]
          refine wpAnyH_ready (rs := [6]) (by kernel_rfl) (by simp) ?_
          refine (AllReadyH.cons rfl (fun K hK => ?_) AllReadyH.nil)
          refine wp_append_any _ _ _ 38 rfl w6.heap.size 33 i0 (.agg #[.int .i64 0, .int .i64 0]) 2 16 Try.underlying38 hi0 hz0 hz1 hz2 rfl (by decide) v1 (0 + k) ([] ++ tmCells (l.take k)) rfl (hown7.alloc _) (w7.heap.size + 1) _ _ _ [.int .i64 t.e, .int .i64 t.l] rfl (reads_two (t := t) (Blk.at_ _ _ _ rfl)) (two_one t) (by unfold maxLen; omega) (by omega) hHeld.1.size ?_
          intro v2 w8 hown8 hg8 _
          have hb8 : Below w6.heap.size w6 w8 := hHeld.1.trans ((Touch.grown hg8).below (fun y hy => (hown7.lt y (by simpa using hy)).1) hHeld.1.size)
          refine hK.out _ _ (keepB K6 hb8) (fun hHeld => ?_)
          clear hK K
          try simp only [List.getElem_toArray, List.getElem_cons_succ, List.getElem_cons_zero, Act.put, List.setIfInBounds_toArray, List.set_cons_zero, List.set_cons_succ]
          refine wpAnyH_ready (rs := [8]) (by kernel_rfl) (by simp) ?_
          refine (AllReadyH.cons rfl (fun K hK => ?_) AllReadyH.nil)
          refine wp_append_any _ _ _ 38 rfl w6.heap.size 33 i0 (.agg #[.int .i64 0, .int .i64 0]) 2 16 Try.underlying38 hi0 hz0 hz1 hz2 rfl (by decide) v2 (0 + k + 1) ([] ++ tmCells (l.take k) ++ [.int .i64 t.e, .int .i64 t.l]) rfl hown8 w6.heap.size _ _ _ (tmCells (l.drop k)) rfl (HTD.out.below hHeld.1) (tmCells_one _) (by unfold maxLen; omega) (by omega) hHeld.1.size ?_
          intro v3 w9 hown9 hg9 _
          have hb9 : Below w6.heap.size w6 w9 := hHeld.1.trans ((Touch.grown hg9).below (fun y hy => (hown8.lt y (by simpa using hy)).1) hHeld.1.size)
          refine hK.out _ _ (keepB K6 hb9) (fun hHeld => ?_)
          clear hK K
          try simp only [List.getElem_toArray, List.getElem_cons_succ, List.getElem_cons_zero, Act.put, List.setIfInBounds_toArray, List.set_cons_zero, List.set_cons_succ]
          refine wpAnyH_take (i := 9) (v := ?_) rfl (by kernel_rfl) (by kernel_rfl) (by kernel_rfl) (fun _ _ _ h => h) (Or.inl ⟨by rfl, ?_⟩) hHeld ?_
          rotate_left
          · intro W hS
            try dsimp only at hS
            go_simp
            try with_reducible rfl
          try simp only [List.getElem_toArray, List.getElem_cons_succ, List.getElem_cons_zero, Act.put, List.setIfInBounds_toArray, List.set_cons_zero, List.set_cons_succ]
          refine wpAnyH_done (by kernel_rfl) ?_ _
          go_wp2_with fail
          go_ret
          exact ⟨_, rfl, own_put hown9 HL.out hk (by omega) HPUT.out (Nat.le_trans hbase hz6b), HB6.out.trans (hb9.mono hz6b)⟩
        · go_simp
          refine hK.out _ _ (keepB K6 (hHeld.1.alloc hHeld.1.size _)) (fun hHeld => ?_)
          clear hK K
          try simp only [List.getElem_toArray, List.getElem_cons_succ, List.getElem_cons_zero, Act.put, List.setIfInBounds_toArray, List.set_cons_zero, List.set_cons_succ]
          refine wpAnyH_ready (rs := [3]) (by kernel_rfl) (by simp) ?_
          refine (AllReadyH.cons rfl (fun K hK => ?_) AllReadyH.nil)
          refine wp_append_any _ _ _ 38 rfl w6.heap.size 33 i0 (.agg #[.int .i64 0, .int .i64 0]) 2 16 Try.underlying38 hi0 hz0 hz1 hz2 rfl (by decide) (.slice none 0 0) 0 [] rfl (World.ownsRow_nil _ _ _ _) w6.heap.size _ _ _ (tmCells (l.take k)) rfl (HTK.out.below hHeld.1) (tmCells_one _) (by unfold maxLen; omega) (by omega) hHeld.1.size ?_
          intro v1 w7 hown7 hg7 _
          have hb7 : Below w6.heap.size w6 w7 := hHeld.1.trans ((Touch.grown hg7).below (by simp [Value.ownBlock]) hHeld.1.size)
          have KS7 : Blk w7 w6.heap.size 33 #[.int .i64 t.e, .int .i64 t.l] := Blk.touch (by first | exact Blk.at_ _ _ _ rfl | exact (Blk.at_ w6 _ _ rfl).drewN 1) (Touch.grown hg7) (by simp [Value.ownBlock])
          refine hK.out _ _ (keepB K6 hb7) (fun hHeld => ?_)
          clear hK K
          try simp only [List.getElem_toArray, List.getElem_cons_succ, List.getElem_cons_zero, Act.put, List.setIfInBounds_toArray, List.set_cons_zero, List.set_cons_succ]
          refine wpAnyH_ready (rs := [6]) (by kernel_rfl) (by simp) ?_
          refine (AllReadyH.cons rfl (fun K hK => ?_) AllReadyH.nil)
          refine wp_append_any _ _ _ 38 rfl w6.heap.size 33 i0 (.agg #[.int .i64 0, .int .i64 0]) 2 16 Try.underlying38 hi0 hz0 hz1 hz2 rfl (by decide) v1 (0 + k) ([] ++ tmCells (l.take k)) rfl (hown7) (w6.heap.size + 1) _ _ _ [.int .i64 t.e, .int .i64 t.l] rfl (reads_two (t := t) KS7) (two_one t) (by unfold maxLen; omega) (by omega) hHeld.1.size ?_
          intro v2 w8 hown8 hg8 _
          have hb8 : Below w6.heap.size w6 w8 := hHeld.1.trans ((Touch.grown hg8).below (fun y hy => (hown7.lt y (by simpa using hy)).1) hHeld.1.size)
          refine hK.out _ _ (keepB K6 hb8) (fun hHeld => ?_)
          clear hK K
          try simp only [List.getElem_toArray, List.getElem_cons_succ, List.getElem_cons_zero, Act.put, List.setIfInBounds_toArray, List.set_cons_zero, List.set_cons_succ]
          refine wpAnyH_ready (rs := [8]) (by kernel_rfl) (by simp) ?_
          refine (AllReadyH.cons rfl (fun K hK => ?_) AllReadyH.nil)
          refine wp_append_any _ _ _ 38 rfl w6.heap.size 33 i0 (.agg #[.int .i64 0, .int .i64 0]) 2 16 Try.underlying38 hi0 hz0 hz1 hz2 rfl (by decide) v2 (0 + k + 1) ([] ++ tmCells (l.take k) ++ [.int .i64 t.e, .int .i64 t.l]) rfl hown8 w6.heap.size _ _ _ (tmCells (l.drop k)) rfl (HTD.out.below hHeld.1) (tmCells_one _) (by unfold maxLen; omega) (by omega) hHeld.1.size ?_
          intro v3 w9 hown9 hg9 _
          have hb9 : Below w6.heap.size w6 w9 := hHeld.1.trans ((Touch.grown hg9).below (fun y hy => (hown8.lt y (by simpa using hy)).1) hHeld.1.size)
          refine hK.out _ _ (keepB K6 hb9) (fun hHeld => ?_)
          clear hK K
          try simp only [List.getElem_toArray, List.getElem_cons_succ, List.getElem_cons_zero, Act.put, List.setIfInBounds_toArray, List.set_cons_zero, List.set_cons_succ]
          refine wpAnyH_take (i := 9) (v := ?_) rfl (by kernel_rfl) (by kernel_rfl) (by kernel_rfl) (fun _ _ _ h => h) (Or.inl ⟨by rfl, ?_⟩) hHeld ?_
          rotate_left
          · intro W hS
            try dsimp only at hS
            go_simp
            try with_reducible rfl
          try simp only [List.getElem_toArray, List.getElem_cons_succ, List.getElem_cons_zero, Act.put, List.setIfInBounds_toArray, List.set_cons_zero, List.set_cons_succ]
          refine wpAnyH_done (by kernel_rfl) ?_ _
          go_wp2_with fail
          go_ret
          exact ⟨_, rfl, own_put hown9 HL.out hk (by omega) HPUT.out (Nat.le_trans hbase hz6b), HB6.out.trans (hb9.mono hz6b)⟩
      · have hck : ¬ (c = k) := fun e => hkc e.symm
        have HTL := Lib.hid (by have := (Tms.drop HT.out hk hnc).below HBB; rw [if_neg hck] at this; exact this)
        have hkc2 : k ≤ c := Nat.le_trans hk hnc
        go_wp2_with (at_builtin; refine wpList_append_any _ rfl _ _ 38 rfl wB.heap.size 33 i0 (.agg #[.int .i64 0, .int .i64 0]) 2 16 Try.underlying38 hi0 hz0 hz1 hz2 rfl (by decide) (.slice none 0 0) 0 [] rfl (World.ownsRow_nil _ _ _ _) w.heap.size _ _ _ (tmCells (l.drop k)) rfl HTL.out (tmCells_one _) (by unfold maxLen; omega) (by omega) (Nat.le_refl _) ?_)
        intro v6 w6 hown6 hg6 _
        have hown6 : w6.ownsRow wB.heap.size 33 2 v6 (n - k) (tmCells (l.drop k)) := by simpa using hown6
        obtain ⟨A6, c6, rfl⟩ := own_slice hown6
        have hb6 : Below wB.heap.size wB w6 := (Touch.grown hg6).below (by simp [Value.ownBlock]) (Nat.le_refl _)
        have HB6 := Lib.hid (HBB.trans (hb6.mono HBB.size))
        have K6 := KTB.on hb6
        have hz6 := K6.lt
        have HTK := Lib.hid (((Tms.take HT.out hk).below HB6.out).more HB6.out.size)
        have HTD := Lib.hid (Reads.of_own hown6 : Tms w6 w6.heap.size A6 (n - k) (l.drop k))
        have hz6b : w.heap.size ≤ w6.heap.size := HB6.out.size
        clear hown6 hg6 hb6
        go_wp2_with fail
        refine wp_region_held_drew (S := (fun W => Below w6.heap.size w6 W ∧ ∀ i, W.cell? ⟨w.heap.size, i, none⟩ = (#[.int .i64 t.e, .int .i64 t.l] : Array Value)[i]?)) (by kernel_rfl) (⟨(Below.refl _ _).drew, K6.c⟩) (fun hHeld => ?_)
        refine wpAnyH_take (i := 0) (v := ?_) rfl (by kernel_rfl) (by kernel_rfl) (by kernel_rfl) (fun _ _ _ h => h) (Or.inl ⟨by rfl, ?_⟩) hHeld ?_
        rotate_left
        · intro W hS
          try dsimp only at hS
          go_simp
          try with_reducible rfl
        try simp only [List.getElem_toArray, List.getElem_cons_succ, List.getElem_cons_zero, Act.put, List.setIfInBounds_toArray, List.set_cons_zero, List.set_cons_succ]
        refine wpAnyH_take (i := 1) (v := ?_) rfl (by kernel_rfl) (by kernel_rfl) (by kernel_rfl) (fun _ _ _ h => h) (Or.inl ⟨by rfl, ?_⟩) hHeld ?_
        rotate_left
        · intro W hS
          try dsimp only at hS
          go_simp
          try with_reducible rfl
        try simp only [List.getElem_toArray, List.getElem_cons_succ, List.getElem_cons_zero, Act.put, List.setIfInBounds_toArray, List.set_cons_zero, List.set_cons_succ]
        refine wpAnyH_take (i := 2) (v := ?_) rfl (by kernel_rfl) (by kernel_rfl) (by kernel_rfl) (fun _ _ _ h => h) (Or.inl ⟨by rfl, ?_⟩) hHeld ?_
        rotate_left
        · intro W hS
          try dsimp only at hS
          go_simp
          try with_reducible rfl
        try simp only [List.getElem_toArray, List.getElem_cons_succ, List.getElem_cons_zero, Act.put, List.setIfInBounds_toArray, List.set_cons_zero, List.set_cons_succ]
        refine wpAnyH_take (i := 4) (v := ?_) rfl (by kernel_rfl) (by kernel_rfl) (by kernel_rfl) (fun _ _ _ h => h) (Or.inl ⟨by rfl, ?_⟩) hHeld ?_
        rotate_left
        · intro W hS
          try dsimp only at hS
          go_simp
          try with_reducible rfl
        try simp only [List.getElem_toArray, List.getElem_cons_succ, List.getElem_cons_zero, Act.put, List.setIfInBounds_toArray, List.set_cons_zero, List.set_cons_succ]
        refine wpAnyH_take (i := 7) (v := ?_) rfl (by kernel_rfl) (by kernel_rfl) (by kernel_rfl) (fun _ _ _ h => h) (Or.inl ⟨by rfl, ?_⟩) hHeld ?_
        rotate_left
        · intro W hS
          try dsimp only at hS
          go_simp
          try with_reducible rfl
        try simp only [List.getElem_toArray, List.getElem_cons_succ, List.getElem_cons_zero, Act.put, List.setIfInBounds_toArray, List.set_cons_zero, List.set_cons_succ]
        refine wpAnyH_ready (rs := [3, 5]) (by kernel_rfl) (by simp) ?_
        refine (AllReadyH.cons rfl (fun K hK => ?_) (AllReadyH.cons rfl (fun K hK => ?_) AllReadyH.nil))
        · refine wp_append_any _ _ _ 38 rfl w6.heap.size 33 i0 (.agg #[.int .i64 0, .int .i64 0]) 2 16 Try.underlying38 hi0 hz0 hz1 hz2 rfl (by decide) (.slice none 0 0) 0 [] rfl (World.ownsRow_nil _ _ _ _) w6.heap.size _ _ _ (tmCells (l.take k)) rfl (HTK.out.below hHeld.1) (tmCells_one _) (by unfold maxLen; omega) (by omega) hHeld.1.size ?_
          intro v1 w7 hown7 hg7 _
          have hb7 : Below w6.heap.size w6 w7 := hHeld.1.trans ((Touch.grown hg7).below (by simp [Value.ownBlock]) hHeld.1.size)
          refine hK.out _ _ (keepB K6 hb7) (fun hHeld => ?_)
          clear hK K
          try simp only [List.getElem_toArray, List.getElem_cons_succ, List.getElem_cons_zero, Act.put, List.setIfInBounds_toArray, List.set_cons_zero, List.set_cons_succ]
          refine wpAnyH_ready (rs := [5]) (by kernel_rfl) (by simp) ?_
          refine (AllReadyH.cons rfl (fun K hK => ?_) AllReadyH.nil)
          go_simp
          refine hK.out _ _ (keepB K6 (hHeld.1.alloc hHeld.1.size _)) (fun hHeld => ?_)
          clear hK K
          try simp only [List.getElem_toArray, List.getElem_cons_succ, List.getElem_cons_zero, Act.put, List.setIfInBounds_toArray, List.set_cons_zero, List.set_cons_succ]
          refine wpAnyH_ready (rs := [6]) (by kernel_rfl) (by simp) ?_
          refine (AllReadyH.cons rfl (fun K hK => ?_) AllReadyH.nil)
          refine wp_append_any _ _ _ 38 rfl w6.heap.size 33 i0 (.agg #[.int .i64 0, .int .i64 0]) 2 16 Try.underlying38 hi0 hz0 hz1 hz2 rfl (by decide) v1 (0 + k) ([] ++ tmCells (l.take k)) rfl (hown7.alloc _) (w7.heap.size + 1) _ _ _ [.int .i64 t.e, .int .i64 t.l] rfl (reads_two (t := t) (Blk.at_ _ _ _ rfl)) (two_one t) (by unfold maxLen; omega) (by omega) hHeld.1.size ?_
          intro v2 w8 hown8 hg8 _
          have hb8 : Below w6.heap.size w6 w8 := hHeld.1.trans ((Touch.grown hg8).below (fun y hy => (hown7.lt y (by simpa using hy)).1) hHeld.1.size)
          refine hK.out _ _ (keepB K6 hb8) (fun hHeld => ?_)
          clear hK K
          try simp only [List.getElem_toArray, List.getElem_cons_succ, List.getElem_cons_zero, Act.put, List.setIfInBounds_toArray, List.set_cons_zero, List.set_cons_succ]
          refine wpAnyH_ready (rs := [8]) (by kernel_rfl) (by simp) ?_
          refine (AllReadyH.cons rfl (fun K hK => ?_) AllReadyH.nil)
          refine wp_append_any _ _ _ 38 rfl w6.heap.size 33 i0 (.agg #[.int .i64 0, .int .i64 0]) 2 16 Try.underlying38 hi0 hz0 hz1 hz2 rfl (by decide) v2 (0 + k + 1) ([] ++ tmCells (l.take k) ++ [.int .i64 t.e, .int .i64 t.l]) rfl hown8 w6.heap.size _ _ _ (tmCells (l.drop k)) rfl (HTD.out.below hHeld.1) (tmCells_one _) (by unfold maxLen; omega) (by omega) hHeld.1.size ?_
          intro v3 w9 hown9 hg9 _
          have hb9 : Below w6.heap.size w6 w9 := hHeld.1.trans ((Touch.grown hg9).below (fun y hy => (hown8.lt y (by simpa using hy)).1) hHeld.1.size)
          refine hK.out _ _ (keepB K6 hb9) (fun hHeld => ?_)
          clear hK K
          try simp only [List.getElem_toArray, List.getElem_cons_succ, List.getElem_cons_zero, Act.put, List.setIfInBounds_toArray, List.set_cons_zero, List.set_cons_succ]
          refine wpAnyH_take (i := 9) (v := ?_) rfl (by kernel_rfl) (by kernel_rfl) (by kernel_rfl) (fun _ _ _ h => h) (Or.inl ⟨by rfl, ?_⟩) hHeld ?_
          rotate_left
          · intro W hS
            try dsimp only at hS
            go_simp
            try with_reducible rfl
          try simp only [List.getElem_toArray, List.getElem_cons_succ, List.getElem_cons_zero, Act.put, List.setIfInBounds_toArray, List.set_cons_zero, List.set_cons_succ]
          refine wpAnyH_done (by kernel_rfl) ?_ _
          go_wp2_with fail
          go_ret
          exact ⟨_, rfl, own_put hown9 HL.out hk (by omega) HPUT.out (Nat.le_trans hbase hz6b), HB6.out.trans (hb9.mono hz6b)⟩
        · go_simp
          refine hK.out _ _ (keepB K6 (hHeld.1.alloc hHeld.1.size _)) (fun hHeld => ?_)
          clear hK K
          try simp only [List.getElem_toArray, List.getElem_cons_succ, List.getElem_cons_zero, Act.put, List.setIfInBounds_toArray, List.set_cons_zero, List.set_cons_succ]
          refine wpAnyH_ready (rs := [3]) (by kernel_rfl) (by simp) ?_
          refine (AllReadyH.cons rfl (fun K hK => ?_) AllReadyH.nil)
          refine wp_append_any _ _ _ 38 rfl w6.heap.size 33 i0 (.agg #[.int .i64 0, .int .i64 0]) 2 16 Try.underlying38 hi0 hz0 hz1 hz2 rfl (by decide) (.slice none 0 0) 0 [] rfl (World.ownsRow_nil _ _ _ _) w6.heap.size _ _ _ (tmCells (l.take k)) rfl (HTK.out.below hHeld.1) (tmCells_one _) (by unfold maxLen; omega) (by omega) hHeld.1.size ?_
          intro v1 w7 hown7 hg7 _
          have hb7 : Below w6.heap.size w6 w7 := hHeld.1.trans ((Touch.grown hg7).below (by simp [Value.ownBlock]) hHeld.1.size)
          have KS7 : Blk w7 w6.heap.size 33 #[.int .i64 t.e, .int .i64 t.l] := Blk.touch (by first | exact Blk.at_ _ _ _ rfl | exact (Blk.at_ w6 _ _ rfl).drewN 1) (Touch.grown hg7) (by simp [Value.ownBlock])
          refine hK.out _ _ (keepB K6 hb7) (fun hHeld => ?_)
          clear hK K
          try simp only [List.getElem_toArray, List.getElem_cons_succ, List.getElem_cons_zero, Act.put, List.setIfInBounds_toArray, List.set_cons_zero, List.set_cons_succ]
          refine wpAnyH_ready (rs := [6]) (by kernel_rfl) (by simp) ?_
          refine (AllReadyH.cons rfl (fun K hK => ?_) AllReadyH.nil)
          refine wp_append_any _ _ _ 38 rfl w6.heap.size 33 i0 (.agg #[.int .i64 0, .int .i64 0]) 2 16 Try.underlying38 hi0 hz0 hz1 hz2 rfl (by decide) v1 (0 + k) ([] ++ tmCells (l.take k)) rfl (hown7) (w6.heap.size + 1) _ _ _ [.int .i64 t.e, .int .i64 t.l] rfl (reads_two (t := t) KS7) (two_one t) (by unfold maxLen; omega) (by omega) hHeld.1.size ?_
          intro v2 w8 hown8 hg8 _
          have hb8 : Below w6.heap.size w6 w8 := hHeld.1.trans ((Touch.grown hg8).below (fun y hy => (hown7.lt y (by simpa using hy)).1) hHeld.1.size)
          refine hK.out _ _ (keepB K6 hb8) (fun hHeld => ?_)
          clear hK K
          try simp only [List.getElem_toArray, List.getElem_cons_succ, List.getElem_cons_zero, Act.put, List.setIfInBounds_toArray, List.set_cons_zero, List.set_cons_succ]
          refine wpAnyH_ready (rs := [8]) (by kernel_rfl) (by simp) ?_
          refine (AllReadyH.cons rfl (fun K hK => ?_) AllReadyH.nil)
          refine wp_append_any _ _ _ 38 rfl w6.heap.size 33 i0 (.agg #[.int .i64 0, .int .i64 0]) 2 16 Try.underlying38 hi0 hz0 hz1 hz2 rfl (by decide) v2 (0 + k + 1) ([] ++ tmCells (l.take k) ++ [.int .i64 t.e, .int .i64 t.l]) rfl hown8 w6.heap.size _ _ _ (tmCells (l.drop k)) rfl (HTD.out.below hHeld.1) (tmCells_one _) (by unfold maxLen; omega) (by omega) hHeld.1.size ?_
          intro v3 w9 hown9 hg9 _
          have hb9 : Below w6.heap.size w6 w9 := hHeld.1.trans ((Touch.grown hg9).below (fun y hy => (hown8.lt y (by simpa using hy)).1) hHeld.1.size)
          refine hK.out _ _ (keepB K6 hb9) (fun hHeld => ?_)
          clear hK K
          try simp only [List.getElem_toArray, List.getElem_cons_succ, List.getElem_cons_zero, Act.put, List.setIfInBounds_toArray, List.set_cons_zero, List.set_cons_succ]
          refine wpAnyH_take (i := 9) (v := ?_) rfl (by kernel_rfl) (by kernel_rfl) (by kernel_rfl) (fun _ _ _ h => h) (Or.inl ⟨by rfl, ?_⟩) hHeld ?_
          rotate_left
          · intro W hS
            try dsimp only at hS
            go_simp
            try with_reducible rfl
          try simp only [List.getElem_toArray, List.getElem_cons_succ, List.getElem_cons_zero, Act.put, List.setIfInBounds_toArray, List.set_cons_zero, List.set_cons_succ]
          refine wpAnyH_done (by kernel_rfl) ?_ _
          go_wp2_with fail
          go_ret
          exact ⟨_, rfl, own_put hown9 HL.out hk (by omega) HPUT.out (Nat.le_trans hbase hz6b), HB6.out.trans (hb9.mono hz6b)⟩
end Go.Proofs.Ytifoonjhcjmehaa
