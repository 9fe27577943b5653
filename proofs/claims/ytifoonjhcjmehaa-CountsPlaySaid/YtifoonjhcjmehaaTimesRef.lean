/-
  SameTimes, and the reference's Has and UnderAll, by contracts.
-/
import Derived.Test.YtifoonjhcjmehaaTimes
import Derived.BigQuiet
namespace Go.Proofs.Ytifoonjhcjmehaa
open Go.RowKit
set_option linter.unusedSimpArgs false
set_option linter.unusedVariables false

theorem all_succ {P : Nat → Prop} {k : Nat} (h : ∀ j, j < k → P j) (hk : P k) : ∀ j, j < k + 1 → P j := fun j hj => by
  by_cases e : j < k
  · exact h j e
  · have : j = k := by omega
    subst this; exact hk

set_option maxRecDepth 100000 in
set_option maxHeartbeats 2000000 in
theorem sametimes_any {B n c m c2 : Nat} {A A2 : Option Addr} {l1 l2 : List Tm} {b : Bool} (w : World) (h1 : Tms w B A n l1) (h2 : Tms w B A2 m l2) (hb : b = true ↔ l1 = l2) (hn : n ≤ 1000000) (hm : m ≤ 1000000) :
    Calls Try.prog 16 #[.slice A n c, .slice A2 m c2] w fun e w' => e = .returned (.bool b) ∧ ∃ q, w' = w.drewN q := by
  have hl1 := Tms.len h1
  have hl2 := Tms.len h2
  by_cases hnm : n = m
  · subst hnm
    have HL1 := Lib.hid hl1
    have HL2 := Lib.hid hl2
    have HB := Lib.hid hb
    clear hl1 hl2 hb
    go_enter Try.func16, Try.ntmps16
    go_wp2_with fail
    go_loopw [5] (fun i wr => ∃ (k q : Nat), k ≤ n ∧ i = .int .i64 k ∧ wr = w.drewN q ∧ Hid (∀ j, j < k → l1[j]? = l2[j]?)) (fun i _ => n - (intOf i).toNat)
    case atStart => exact ⟨0, 0, Nat.zero_le _, rfl, rfl, Lib.hid (fun j hj => absurd hj (by omega))⟩
    case round =>
      obtain ⟨k, q, hk, rfl, rfl, HE⟩ := hrel
      by_cases hlt : k < n
      · obtain ⟨ad, rfl, _, hp, _, hc0, hc1⟩ := Tms.tm h1 hlt
        obtain ⟨ad2, rfl, _, hp2, _, hd0, hd1⟩ := Tms.tm h2 hlt
        generalize Tm.at_ l1 k = p at hp hc0 hc1
        generalize Tm.at_ l2 k = p2 at hp2 hd0 hd1
        obtain ⟨v, x⟩ := p
        obtain ⟨v2, x2⟩ := p2
        simp only at hc0 hc1 hd0 hd1
        have H1 := Lib.hid h1
        have H2 := Lib.hid h2
        have HP := Lib.hid hp
        have HP2 := Lib.hid hp2
        clear h1 h2 hp hp2
        by_cases hv : v = v2
        · subst hv
          by_cases hx : x = x2
          · subst hx
            have hnv : (v != v) = false := by simp
            have hnx : ((x : Int) != (x : Int)) = false := by simp
            go_wp2_with fail
            go_quiet (fail)
            go_wp2_with fail
            go_roundw
            case rel => exact ⟨k + 1, _, by omega, by go_num, rfl, Lib.hid (all_succ HE.out (by rw [HP.out, HP2.out]))⟩
            case measure => simp [intOf]; omega
          · have hb0 : b = false := by
              cases b
              · rfl
              · have := HB.out.1 rfl
                rw [this] at HP
                have := HP.out.symm.trans HP2.out
                simp at this; exact absurd this hx
            have hnx : ((x : Int) == (x2 : Int)) = false := by simp; omega
            have hnx2 : ¬ (x = x2) := hx
            have HB0 := Lib.hid hb0
            clear hb0 hx
            go_wp2_with fail
            go_quiet (fail)
            go_wp2_with fail
            go_ret
            exact ⟨by rw [HB0.out]; rfl, _, World.drewN_drewN ..⟩
        · have hb0 : b = false := by
            cases b
            · rfl
            · have := HB.out.1 rfl
              rw [this] at HP
              have := HP.out.symm.trans HP2.out
              simp at this; exact absurd this.1 hv
          have hnv : (v == v2) = false := by simpa using hv
          have HB0 := Lib.hid hb0
          clear hb0
          go_wp2_with fail
          go_quiet (fail)
          go_wp2_with fail
          go_ret
          exact ⟨by rw [HB0.out]; rfl, _, World.drewN_drewN ..⟩
      · have hb1 : b = true := HB.out.2 (List.ext_getElem? fun j => by
          rcases Nat.lt_or_ge j k with h | h
          · exact HE.out j h
          · rw [List.getElem?_eq_none (by have := HL1.out; omega), List.getElem?_eq_none (by have := HL2.out; omega)])
        have HB1 := Lib.hid hb1
        clear hb1
        go_wp2_with fail
        go_ret
        exact ⟨by rw [HB1.out]; rfl, _, rfl⟩
  · have hb0 : b = false := by
      cases b
      · rfl
      · have := hb.1 rfl
        subst this; omega
    have HB0 := Lib.hid hb0
    have hne : ((n : Int) != (m : Int)) = true := by simp; omega
    clear hb0 hl1 hl2 hb hnm
    go_enter Try.func16, Try.ntmps16
    go_wp2_with fail
    go_ret
    exact ⟨by rw [HB0.out]; rfl, 0, rfl⟩

theorem hasL_at {l : List Tm} {t : Tm} {k : Nat} (hk : Tm.at_ l k ∈ l) (hm : (Tm.at_ l k).may = true) (ht : t.may = true) (hl : (Tm.at_ l k).le t = true) : hasL l t = true :=
  hasL_iff.2 ⟨ht, _, hk, hm, hl⟩
theorem hasL_none {l : List Tm} {t : Tm} {n : Nat} (hn : l.length = n) (h : ∀ j, j < n → ((Tm.at_ l j).may && t.may && (Tm.at_ l j).le t) = false) : hasL l t = false := by
  rw [← Bool.not_eq_true, hasL_iff]
  rintro ⟨ht, x, hx, hm, hl⟩
  obtain ⟨k, hk, rfl⟩ := List.mem_iff_getElem.1 hx
  have := h k (by omega)
  rw [Tm.at_some (List.getElem?_eq_getElem hk), hm, ht, hl] at this
  cases this

section
variable {t a b : Tm} {r : Bool} (w : World)
theorem rmay_b (h : t.may = r) : Calls Try.prog 26 #[tmv t] w fun e w' => e = .returned (.bool r) ∧ Below w.heap.size w w' := by subst h; exact rmay_t t w
theorem rless_b (h : a.le b = r) : Calls Try.prog 43 #[tmv a, tmv b] w fun e w' => e = .returned (.bool r) ∧ Below w.heap.size w w' := by subst h; exact rless_t a b w
theorem may_b (h : t.may = r) : Calls Try.prog 28 #[tmv t] w fun e w' => e = .returned (.bool r) ∧ Below w.heap.size w w' := by subst h; exact may_t t w
theorem less_b (h : a.le b = r) : Calls Try.prog 46 #[tmv a, tmv b] w fun e w' => e = .returned (.bool r) ∧ Below w.heap.size w w' := by subst h; exact less_t a b w
end
/-- What a loop's round over a row of times carries: a time of its own, one of the row's. -/
def TwoT (w W : World) (B g : Nat) (t : Tm) (p q : Addr) (x : Tm) : Prop := Below B w W ∧ (∀ i, W.cell? ⟨g, i, none⟩ = (#[.int .i64 t.e, .int .i64 t.l] : Array Value)[i]?) ∧ W.cell? p = some (.int .i64 x.e) ∧ W.cell? q = some (.int .i64 x.l)

theorem keepT {w W w1 : World} {g : Nat} {T : TypeId} {s : Array Value} {p : Addr} {u v : Value}
    (h : Below w.heap.size w W ∧ Blk W g T s ∧ (∀ i, W.cell? ⟨g, i, none⟩ = s[i]?) ∧ W.cell? p = some u ∧ W.cell? ⟨p.block, p.off + 1, none⟩ = some v)
    (hb : Below W.heap.size W w1) (hp : p.block < w.heap.size) : Below w.heap.size w w1 ∧ Blk w1 g T s ∧ (∀ i, w1.cell? ⟨g, i, none⟩ = s[i]?) ∧ w1.cell? p = some u ∧ w1.cell? ⟨p.block, p.off + 1, none⟩ = some v := by
  obtain ⟨HB, K, _, h0, h1⟩ := h
  have hs := HB.size
  exact ⟨below_after HB hb hs, K.on hb, (K.on hb).c, (hb.cell (by omega)).trans h0, (hb.cell (p := ⟨p.block, p.off + 1, none⟩) (by simp; omega)).trans h1⟩

set_option maxRecDepth 100000 in
set_option maxHeartbeats 2000000 in
theorem rhas_any {B n c : Nat} {A : Option Addr} {l : List Tm} {t : Tm} (w : World) (h : Tms w B A n l) (hB : B ≤ w.heap.size) (hn : n ≤ 1000000) :
    Calls Try.prog 25 #[.slice A n c, tmv t] w fun e w' => e = .returned (.bool (hasL l t)) ∧ Below w.heap.size w w' := by
  have HLEN := Lib.hid (Tms.len h)
  go_enter Try.func25, Try.ntmps25
  go_wp2_with fail
  go_loopw [5] (fun i wr => ∃ k : Nat, k ≤ n ∧ i = .int .i64 k ∧ Below w.heap.size w wr ∧ Blk wr w.heap.size 33 #[.int .i64 t.e, .int .i64 t.l] ∧ Hid (∀ j, j < k → ((Tm.at_ l j).may && t.may && (Tm.at_ l j).le t) = false)) (fun i _ => n - (intOf i).toNat)
  case atStart => exact ⟨0, Nat.zero_le _, rfl, (Below.refl _ _).alloc (Nat.le_refl _) _, Blk.new _ _ _, Lib.hid (fun j hj => absurd hj (by omega))⟩
  case round =>
    obtain ⟨k, hk, rfl, HB, KT, HN⟩ := hrel
    by_cases hlt : k < n
    · obtain ⟨ad, rfl, hab, hp, hmem, hc0, hc1⟩ := Tms.tm (h.below (HB.mono hB)) hlt
      have hab : ad.block < w.heap.size := by omega
      obtain ⟨x, hx⟩ : ∃ x, Tm.at_ l k = x := ⟨_, rfl⟩
      rw [hx] at hp hmem hc0 hc1
      have HX := Lib.hid hx
      have HP := Lib.hid hp
      have HMEM := Lib.hid hmem
      have c0 := KT.c
      have z0 := KT.lt
      have f0 := KT.f
      have hcb : (ad.add (k * 2)).block < wr.heap.size := by rw [block_of_add]; have := HB.size; omega
      clear hx hp hmem
      go_wp2_with fail
      cases hm : x.may
      · have HM := Lib.hid hm
        clear hm
        refine wp_region_held_drew (S := (fun W => Below w.heap.size w W ∧ Blk W w.heap.size 33 #[.int .i64 t.e, .int .i64 t.l] ∧ (∀ i, W.cell? ⟨w.heap.size, i, none⟩ = (#[.int .i64 t.e, .int .i64 t.l] : Array Value)[i]?) ∧ W.cell? (ad.add (k * 2)) = some (.int .i64 x.e) ∧ W.cell? ⟨(ad.add (k * 2)).block, (ad.add (k * 2)).off + 1, none⟩ = some (.int .i64 x.l))) (by kernel_rfl) (⟨HB.drew, KT, KT.c, hc0, hc1⟩) (fun hHeld => ?_)
        refine wpAnyH_take (i := 0) (v := ?_) rfl (by kernel_rfl) (by kernel_rfl) (by kernel_rfl) (fun _ _ _ h => h) (Or.inl ⟨by rfl, ?_⟩) hHeld ?_
        rotate_left
        · intro W hS
          try dsimp only at hS
          go_simp
          try with_reducible rfl
        try simp only [List.getElem_toArray, List.getElem_cons_succ, List.getElem_cons_zero, Act.put, List.setIfInBounds_toArray, List.set_cons_zero, List.set_cons_succ]
        refine wpAnyH_take (i := 1) (v := ?_) rfl (by kernel_rfl) (by kernel_rfl) (by kernel_rfl) (fun _ _ _ h => h) (Or.inl ⟨by rfl, ?_⟩) hHeld ?_
        rotate_left
        · intro W hS
          try dsimp only at hS
          go_simp
          try with_reducible rfl
        try simp only [List.getElem_toArray, List.getElem_cons_succ, List.getElem_cons_zero, Act.put, List.setIfInBounds_toArray, List.set_cons_zero, List.set_cons_succ]
        refine wpAnyH_take (i := 2) (v := ?_) rfl (by kernel_rfl) (by kernel_rfl) (by kernel_rfl) (fun _ _ _ h => h) (Or.inl ⟨by rfl, ?_⟩) hHeld ?_
        rotate_left
        · intro W hS
          try dsimp only at hS
          go_simp
          try with_reducible rfl
        try simp only [List.getElem_toArray, List.getElem_cons_succ, List.getElem_cons_zero, Act.put, List.setIfInBounds_toArray, List.set_cons_zero, List.set_cons_succ]
        refine wpAnyH_take (i := 3) (v := ?_) rfl (by kernel_rfl) (by kernel_rfl) (by kernel_rfl) (fun _ _ _ h => h) (Or.inl ⟨by rfl, ?_⟩) hHeld ?_
        rotate_left
        · intro W hS
          try dsimp only at hS
          go_simp
          try with_reducible rfl
        try simp only [List.getElem_toArray, List.getElem_cons_succ, List.getElem_cons_zero, Act.put, List.setIfInBounds_toArray, List.set_cons_zero, List.set_cons_succ]
        refine wpAnyH_ready (rs := [4]) (by kernel_rfl) (by simp) ?_
        refine AllReadyH.cons rfl (fun K hK => ?_) AllReadyH.nil
        go_simp
        refine (rmay_b _ HM.out).mono ?_
        rintro e w1 ⟨rfl, hb⟩
        refine hK.out _ _ (keepT hHeld hb (by rw [block_of_add]; exact hab)) (fun hHeld => ?_)
        clear hK K
        try simp only [List.getElem_toArray, List.getElem_cons_succ, List.getElem_cons_zero, Act.put, List.setIfInBounds_toArray, List.set_cons_zero, List.set_cons_succ]
        refine wpAnyH_take (i := 5) (v := ?_) rfl (by kernel_rfl) (by kernel_rfl) (by kernel_rfl) (fun _ _ _ h => h) (Or.inl ⟨by rfl, ?_⟩) hHeld ?_
        rotate_left
        · intro W hS
          try dsimp only at hS
          go_simp
          try with_reducible rfl
        try simp only [List.getElem_toArray, List.getElem_cons_succ, List.getElem_cons_zero, Act.put, List.setIfInBounds_toArray, List.set_cons_zero, List.set_cons_succ]
        refine wpAnyH_take (i := 6) (v := undef) rfl (by kernel_rfl) (by kernel_rfl) (by kernel_rfl) (fun _ _ _ h => h) (Or.inr ⟨by rfl, rfl⟩) hHeld ?_
        try simp only [List.getElem_toArray, List.getElem_cons_succ, List.getElem_cons_zero, Act.put, List.setIfInBounds_toArray, List.set_cons_zero, List.set_cons_succ]
        refine wpAnyH_take (i := 7) (v := undef) rfl (by kernel_rfl) (by kernel_rfl) (by kernel_rfl) (fun _ _ _ h => h) (Or.inr ⟨by rfl, rfl⟩) hHeld ?_
        try simp only [List.getElem_toArray, List.getElem_cons_succ, List.getElem_cons_zero, Act.put, List.setIfInBounds_toArray, List.set_cons_zero, List.set_cons_succ]
        refine wpAnyH_take (i := 8) (v := ?_) rfl (by kernel_rfl) (by kernel_rfl) (by kernel_rfl) (fun _ _ _ h => h) (Or.inl ⟨by rfl, ?_⟩) hHeld ?_
        rotate_left
        · intro W hS
          try dsimp only at hS
          go_simp
          try with_reducible rfl
        try simp only [List.getElem_toArray, List.getElem_cons_succ, List.getElem_cons_zero, Act.put, List.setIfInBounds_toArray, List.set_cons_zero, List.set_cons_succ]
        refine wpAnyH_take (i := 9) (v := ?_) rfl (by kernel_rfl) (by kernel_rfl) (by kernel_rfl) (fun _ _ _ h => h) (Or.inl ⟨by rfl, ?_⟩) hHeld ?_
        rotate_left
        · intro W hS
          try dsimp only at hS
          go_simp
          try with_reducible rfl
        try simp only [List.getElem_toArray, List.getElem_cons_succ, List.getElem_cons_zero, Act.put, List.setIfInBounds_toArray, List.set_cons_zero, List.set_cons_succ]
        refine wpAnyH_take (i := 10) (v := undef) rfl (by kernel_rfl) (by kernel_rfl) (by kernel_rfl) (fun _ _ _ h => h) (Or.inr ⟨by rfl, rfl⟩) hHeld ?_
        try simp only [List.getElem_toArray, List.getElem_cons_succ, List.getElem_cons_zero, Act.put, List.setIfInBounds_toArray, List.set_cons_zero, List.set_cons_succ]
        refine wpAnyH_take (i := 11) (v := undef) rfl (by kernel_rfl) (by kernel_rfl) (by kernel_rfl) (fun _ _ _ h => h) (Or.inr ⟨by rfl, rfl⟩) hHeld ?_
        try simp only [List.getElem_toArray, List.getElem_cons_succ, List.getElem_cons_zero, Act.put, List.setIfInBounds_toArray, List.set_cons_zero, List.set_cons_succ]
        refine wpAnyH_take (i := 12) (v := undef) rfl (by kernel_rfl) (by kernel_rfl) (by kernel_rfl) (fun _ _ _ h => h) (Or.inr ⟨by rfl, rfl⟩) hHeld ?_
        try simp only [List.getElem_toArray, List.getElem_cons_succ, List.getElem_cons_zero, Act.put, List.setIfInBounds_toArray, List.set_cons_zero, List.set_cons_succ]
        refine wpAnyH_take (i := 13) (v := undef) rfl (by kernel_rfl) (by kernel_rfl) (by kernel_rfl) (fun _ _ _ h => h) (Or.inr ⟨by rfl, rfl⟩) hHeld ?_
        try simp only [List.getElem_toArray, List.getElem_cons_succ, List.getElem_cons_zero, Act.put, List.setIfInBounds_toArray, List.set_cons_zero, List.set_cons_succ]
        refine wpAnyH_take (i := 14) (v := undef) rfl (by kernel_rfl) (by kernel_rfl) (by kernel_rfl) (fun _ _ _ h => h) (Or.inr ⟨by rfl, rfl⟩) hHeld ?_
        try simp only [List.getElem_toArray, List.getElem_cons_succ, List.getElem_cons_zero, Act.put, List.setIfInBounds_toArray, List.set_cons_zero, List.set_cons_succ]
        refine wpAnyH_take (i := 15) (v := undef) rfl (by kernel_rfl) (by kernel_rfl) (by kernel_rfl) (fun _ _ _ h => h) (Or.inr ⟨by rfl, rfl⟩) hHeld ?_
        try simp only [List.getElem_toArray, List.getElem_cons_succ, List.getElem_cons_zero, Act.put, List.setIfInBounds_toArray, List.set_cons_zero, List.set_cons_succ]
        refine wpAnyH_take (i := 16) (v := ?_) rfl (by kernel_rfl) (by kernel_rfl) (by kernel_rfl) (fun _ _ _ h => h) (Or.inl ⟨by rfl, ?_⟩) hHeld ?_
        rotate_left
        · intro W hS
          try dsimp only at hS
          go_simp
          try with_reducible rfl
        try simp only [List.getElem_toArray, List.getElem_cons_succ, List.getElem_cons_zero, Act.put, List.setIfInBounds_toArray, List.set_cons_zero, List.set_cons_succ]
        refine wpAnyH_done (by kernel_rfl) ?_ _
        go_wp2_with fail
        go_roundw
        case rel => exact ⟨k + 1, by omega, by go_num, hHeld.1, hHeld.2.1, Lib.hid (all_succ HN.out (by rw [HX.out, HM.out]; rfl))⟩
        case measure => simp [intOf]; omega
      · have HM := Lib.hid hm
        clear hm
        cases ht : t.may
        · have HT := Lib.hid ht
          clear ht
          refine wp_region_held_drew (S := (fun W => Below w.heap.size w W ∧ Blk W w.heap.size 33 #[.int .i64 t.e, .int .i64 t.l] ∧ (∀ i, W.cell? ⟨w.heap.size, i, none⟩ = (#[.int .i64 t.e, .int .i64 t.l] : Array Value)[i]?) ∧ W.cell? (ad.add (k * 2)) = some (.int .i64 x.e) ∧ W.cell? ⟨(ad.add (k * 2)).block, (ad.add (k * 2)).off + 1, none⟩ = some (.int .i64 x.l))) (by kernel_rfl) (⟨HB.drew, KT, KT.c, hc0, hc1⟩) (fun hHeld => ?_)
          refine wpAnyH_take (i := 0) (v := ?_) rfl (by kernel_rfl) (by kernel_rfl) (by kernel_rfl) (fun _ _ _ h => h) (Or.inl ⟨by rfl, ?_⟩) hHeld ?_
          rotate_left
          · intro W hS
            try dsimp only at hS
            go_simp
            try with_reducible rfl
          try simp only [List.getElem_toArray, List.getElem_cons_succ, List.getElem_cons_zero, Act.put, List.setIfInBounds_toArray, List.set_cons_zero, List.set_cons_succ]
          refine wpAnyH_take (i := 1) (v := ?_) rfl (by kernel_rfl) (by kernel_rfl) (by kernel_rfl) (fun _ _ _ h => h) (Or.inl ⟨by rfl, ?_⟩) hHeld ?_
          rotate_left
          · intro W hS
            try dsimp only at hS
            go_simp
            try with_reducible rfl
          try simp only [List.getElem_toArray, List.getElem_cons_succ, List.getElem_cons_zero, Act.put, List.setIfInBounds_toArray, List.set_cons_zero, List.set_cons_succ]
          refine wpAnyH_take (i := 2) (v := ?_) rfl (by kernel_rfl) (by kernel_rfl) (by kernel_rfl) (fun _ _ _ h => h) (Or.inl ⟨by rfl, ?_⟩) hHeld ?_
          rotate_left
          · intro W hS
            try dsimp only at hS
            go_simp
            try with_reducible rfl
          try simp only [List.getElem_toArray, List.getElem_cons_succ, List.getElem_cons_zero, Act.put, List.setIfInBounds_toArray, List.set_cons_zero, List.set_cons_succ]
          refine wpAnyH_take (i := 3) (v := ?_) rfl (by kernel_rfl) (by kernel_rfl) (by kernel_rfl) (fun _ _ _ h => h) (Or.inl ⟨by rfl, ?_⟩) hHeld ?_
          rotate_left
          · intro W hS
            try dsimp only at hS
            go_simp
            try with_reducible rfl
          try simp only [List.getElem_toArray, List.getElem_cons_succ, List.getElem_cons_zero, Act.put, List.setIfInBounds_toArray, List.set_cons_zero, List.set_cons_succ]
          refine wpAnyH_ready (rs := [4]) (by kernel_rfl) (by simp) ?_
          refine AllReadyH.cons rfl (fun K hK => ?_) AllReadyH.nil
          go_simp
          refine (rmay_b _ HM.out).mono ?_
          rintro e w1 ⟨rfl, hb⟩
          refine hK.out _ _ (keepT hHeld hb (by rw [block_of_add]; exact hab)) (fun hHeld => ?_)
          clear hK K
          try simp only [List.getElem_toArray, List.getElem_cons_succ, List.getElem_cons_zero, Act.put, List.setIfInBounds_toArray, List.set_cons_zero, List.set_cons_succ]
          refine wpAnyH_take (i := 5) (v := ?_) rfl (by kernel_rfl) (by kernel_rfl) (by kernel_rfl) (fun _ _ _ h => h) (Or.inl ⟨by rfl, ?_⟩) hHeld ?_
          rotate_left
          · intro W hS
            try dsimp only at hS
            go_simp
            try with_reducible rfl
          try simp only [List.getElem_toArray, List.getElem_cons_succ, List.getElem_cons_zero, Act.put, List.setIfInBounds_toArray, List.set_cons_zero, List.set_cons_succ]
          refine wpAnyH_take (i := 6) (v := ?_) rfl (by kernel_rfl) (by kernel_rfl) (by kernel_rfl) (fun _ _ _ h => h) (Or.inl ⟨by rfl, ?_⟩) hHeld ?_
          rotate_left
          · intro W hS
            try dsimp only at hS
            go_simp
            try with_reducible rfl
          try simp only [List.getElem_toArray, List.getElem_cons_succ, List.getElem_cons_zero, Act.put, List.setIfInBounds_toArray, List.set_cons_zero, List.set_cons_succ]
          refine wpAnyH_ready (rs := [7]) (by kernel_rfl) (by simp) ?_
          refine AllReadyH.cons rfl (fun K hK => ?_) AllReadyH.nil
          go_simp
          refine (rmay_b _ HT.out).mono ?_
          rintro e w1 ⟨rfl, hb⟩
          refine hK.out _ _ (keepT hHeld hb (by rw [block_of_add]; exact hab)) (fun hHeld => ?_)
          clear hK K
          try simp only [List.getElem_toArray, List.getElem_cons_succ, List.getElem_cons_zero, Act.put, List.setIfInBounds_toArray, List.set_cons_zero, List.set_cons_succ]
          refine wpAnyH_take (i := 8) (v := ?_) rfl (by kernel_rfl) (by kernel_rfl) (by kernel_rfl) (fun _ _ _ h => h) (Or.inl ⟨by rfl, ?_⟩) hHeld ?_
          rotate_left
          · intro W hS
            try dsimp only at hS
            go_simp
            try with_reducible rfl
          try simp only [List.getElem_toArray, List.getElem_cons_succ, List.getElem_cons_zero, Act.put, List.setIfInBounds_toArray, List.set_cons_zero, List.set_cons_succ]
          refine wpAnyH_take (i := 9) (v := ?_) rfl (by kernel_rfl) (by kernel_rfl) (by kernel_rfl) (fun _ _ _ h => h) (Or.inl ⟨by rfl, ?_⟩) hHeld ?_
          rotate_left
          · intro W hS
            try dsimp only at hS
            go_simp
            try with_reducible rfl
          try simp only [List.getElem_toArray, List.getElem_cons_succ, List.getElem_cons_zero, Act.put, List.setIfInBounds_toArray, List.set_cons_zero, List.set_cons_succ]
          refine wpAnyH_take (i := 10) (v := undef) rfl (by kernel_rfl) (by kernel_rfl) (by kernel_rfl) (fun _ _ _ h => h) (Or.inr ⟨by rfl, rfl⟩) hHeld ?_
          try simp only [List.getElem_toArray, List.getElem_cons_succ, List.getElem_cons_zero, Act.put, List.setIfInBounds_toArray, List.set_cons_zero, List.set_cons_succ]
          refine wpAnyH_take (i := 11) (v := undef) rfl (by kernel_rfl) (by kernel_rfl) (by kernel_rfl) (fun _ _ _ h => h) (Or.inr ⟨by rfl, rfl⟩) hHeld ?_
          try simp only [List.getElem_toArray, List.getElem_cons_succ, List.getElem_cons_zero, Act.put, List.setIfInBounds_toArray, List.set_cons_zero, List.set_cons_succ]
          refine wpAnyH_take (i := 12) (v := undef) rfl (by kernel_rfl) (by kernel_rfl) (by kernel_rfl) (fun _ _ _ h => h) (Or.inr ⟨by rfl, rfl⟩) hHeld ?_
          try simp only [List.getElem_toArray, List.getElem_cons_succ, List.getElem_cons_zero, Act.put, List.setIfInBounds_toArray, List.set_cons_zero, List.set_cons_succ]
          refine wpAnyH_take (i := 13) (v := undef) rfl (by kernel_rfl) (by kernel_rfl) (by kernel_rfl) (fun _ _ _ h => h) (Or.inr ⟨by rfl, rfl⟩) hHeld ?_
          try simp only [List.getElem_toArray, List.getElem_cons_succ, List.getElem_cons_zero, Act.put, List.setIfInBounds_toArray, List.set_cons_zero, List.set_cons_succ]
          refine wpAnyH_take (i := 14) (v := undef) rfl (by kernel_rfl) (by kernel_rfl) (by kernel_rfl) (fun _ _ _ h => h) (Or.inr ⟨by rfl, rfl⟩) hHeld ?_
          try simp only [List.getElem_toArray, List.getElem_cons_succ, List.getElem_cons_zero, Act.put, List.setIfInBounds_toArray, List.set_cons_zero, List.set_cons_succ]
          refine wpAnyH_take (i := 15) (v := undef) rfl (by kernel_rfl) (by kernel_rfl) (by kernel_rfl) (fun _ _ _ h => h) (Or.inr ⟨by rfl, rfl⟩) hHeld ?_
          try simp only [List.getElem_toArray, List.getElem_cons_succ, List.getElem_cons_zero, Act.put, List.setIfInBounds_toArray, List.set_cons_zero, List.set_cons_succ]
          refine wpAnyH_take (i := 16) (v := ?_) rfl (by kernel_rfl) (by kernel_rfl) (by kernel_rfl) (fun _ _ _ h => h) (Or.inl ⟨by rfl, ?_⟩) hHeld ?_
          rotate_left
          · intro W hS
            try dsimp only at hS
            go_simp
            try with_reducible rfl
          try simp only [List.getElem_toArray, List.getElem_cons_succ, List.getElem_cons_zero, Act.put, List.setIfInBounds_toArray, List.set_cons_zero, List.set_cons_succ]
          refine wpAnyH_done (by kernel_rfl) ?_ _
          go_wp2_with fail
          go_roundw
          case rel => exact ⟨k + 1, by omega, by go_num, hHeld.1, hHeld.2.1, Lib.hid (all_succ HN.out (by rw [HX.out, HM.out, HT.out]; rfl))⟩
          case measure => simp [intOf]; omega
        · have HT := Lib.hid ht
          clear ht
          cases hl : x.le t
          · have HL := Lib.hid hl
            clear hl
            refine wp_region_held_drew (S := (fun W => Below w.heap.size w W ∧ Blk W w.heap.size 33 #[.int .i64 t.e, .int .i64 t.l] ∧ (∀ i, W.cell? ⟨w.heap.size, i, none⟩ = (#[.int .i64 t.e, .int .i64 t.l] : Array Value)[i]?) ∧ W.cell? (ad.add (k * 2)) = some (.int .i64 x.e) ∧ W.cell? ⟨(ad.add (k * 2)).block, (ad.add (k * 2)).off + 1, none⟩ = some (.int .i64 x.l))) (by kernel_rfl) (⟨HB.drew, KT, KT.c, hc0, hc1⟩) (fun hHeld => ?_)
            refine wpAnyH_take (i := 0) (v := ?_) rfl (by kernel_rfl) (by kernel_rfl) (by kernel_rfl) (fun _ _ _ h => h) (Or.inl ⟨by rfl, ?_⟩) hHeld ?_
            rotate_left
            · intro W hS
              try dsimp only at hS
              go_simp
              try with_reducible rfl
            try simp only [List.getElem_toArray, List.getElem_cons_succ, List.getElem_cons_zero, Act.put, List.setIfInBounds_toArray, List.set_cons_zero, List.set_cons_succ]
            refine wpAnyH_take (i := 1) (v := ?_) rfl (by kernel_rfl) (by kernel_rfl) (by kernel_rfl) (fun _ _ _ h => h) (Or.inl ⟨by rfl, ?_⟩) hHeld ?_
            rotate_left
            · intro W hS
              try dsimp only at hS
              go_simp
              try with_reducible rfl
            try simp only [List.getElem_toArray, List.getElem_cons_succ, List.getElem_cons_zero, Act.put, List.setIfInBounds_toArray, List.set_cons_zero, List.set_cons_succ]
            refine wpAnyH_take (i := 2) (v := ?_) rfl (by kernel_rfl) (by kernel_rfl) (by kernel_rfl) (fun _ _ _ h => h) (Or.inl ⟨by rfl, ?_⟩) hHeld ?_
            rotate_left
            · intro W hS
              try dsimp only at hS
              go_simp
              try with_reducible rfl
            try simp only [List.getElem_toArray, List.getElem_cons_succ, List.getElem_cons_zero, Act.put, List.setIfInBounds_toArray, List.set_cons_zero, List.set_cons_succ]
            refine wpAnyH_take (i := 3) (v := ?_) rfl (by kernel_rfl) (by kernel_rfl) (by kernel_rfl) (fun _ _ _ h => h) (Or.inl ⟨by rfl, ?_⟩) hHeld ?_
            rotate_left
            · intro W hS
              try dsimp only at hS
              go_simp
              try with_reducible rfl
            try simp only [List.getElem_toArray, List.getElem_cons_succ, List.getElem_cons_zero, Act.put, List.setIfInBounds_toArray, List.set_cons_zero, List.set_cons_succ]
            refine wpAnyH_ready (rs := [4]) (by kernel_rfl) (by simp) ?_
            refine AllReadyH.cons rfl (fun K hK => ?_) AllReadyH.nil
            go_simp
            refine (rmay_b _ HM.out).mono ?_
            rintro e w1 ⟨rfl, hb⟩
            refine hK.out _ _ (keepT hHeld hb (by rw [block_of_add]; exact hab)) (fun hHeld => ?_)
            clear hK K
            try simp only [List.getElem_toArray, List.getElem_cons_succ, List.getElem_cons_zero, Act.put, List.setIfInBounds_toArray, List.set_cons_zero, List.set_cons_succ]
            refine wpAnyH_take (i := 5) (v := ?_) rfl (by kernel_rfl) (by kernel_rfl) (by kernel_rfl) (fun _ _ _ h => h) (Or.inl ⟨by rfl, ?_⟩) hHeld ?_
            rotate_left
            · intro W hS
              try dsimp only at hS
              go_simp
              try with_reducible rfl
            try simp only [List.getElem_toArray, List.getElem_cons_succ, List.getElem_cons_zero, Act.put, List.setIfInBounds_toArray, List.set_cons_zero, List.set_cons_succ]
            refine wpAnyH_take (i := 6) (v := ?_) rfl (by kernel_rfl) (by kernel_rfl) (by kernel_rfl) (fun _ _ _ h => h) (Or.inl ⟨by rfl, ?_⟩) hHeld ?_
            rotate_left
            · intro W hS
              try dsimp only at hS
              go_simp
              try with_reducible rfl
            try simp only [List.getElem_toArray, List.getElem_cons_succ, List.getElem_cons_zero, Act.put, List.setIfInBounds_toArray, List.set_cons_zero, List.set_cons_succ]
            refine wpAnyH_ready (rs := [7]) (by kernel_rfl) (by simp) ?_
            refine AllReadyH.cons rfl (fun K hK => ?_) AllReadyH.nil
            go_simp
            refine (rmay_b _ HT.out).mono ?_
            rintro e w1 ⟨rfl, hb⟩
            refine hK.out _ _ (keepT hHeld hb (by rw [block_of_add]; exact hab)) (fun hHeld => ?_)
            clear hK K
            try simp only [List.getElem_toArray, List.getElem_cons_succ, List.getElem_cons_zero, Act.put, List.setIfInBounds_toArray, List.set_cons_zero, List.set_cons_succ]
            refine wpAnyH_take (i := 8) (v := ?_) rfl (by kernel_rfl) (by kernel_rfl) (by kernel_rfl) (fun _ _ _ h => h) (Or.inl ⟨by rfl, ?_⟩) hHeld ?_
            rotate_left
            · intro W hS
              try dsimp only at hS
              go_simp
              try with_reducible rfl
            try simp only [List.getElem_toArray, List.getElem_cons_succ, List.getElem_cons_zero, Act.put, List.setIfInBounds_toArray, List.set_cons_zero, List.set_cons_succ]
            refine wpAnyH_take (i := 9) (v := ?_) rfl (by kernel_rfl) (by kernel_rfl) (by kernel_rfl) (fun _ _ _ h => h) (Or.inl ⟨by rfl, ?_⟩) hHeld ?_
            rotate_left
            · intro W hS
              try dsimp only at hS
              go_simp
              try with_reducible rfl
            try simp only [List.getElem_toArray, List.getElem_cons_succ, List.getElem_cons_zero, Act.put, List.setIfInBounds_toArray, List.set_cons_zero, List.set_cons_succ]
            refine wpAnyH_take (i := 10) (v := ?_) rfl (by kernel_rfl) (by kernel_rfl) (by kernel_rfl) (fun _ _ _ h => h) (Or.inl ⟨by rfl, ?_⟩) hHeld ?_
            rotate_left
            · intro W hS
              try dsimp only at hS
              go_simp
              try with_reducible rfl
            try simp only [List.getElem_toArray, List.getElem_cons_succ, List.getElem_cons_zero, Act.put, List.setIfInBounds_toArray, List.set_cons_zero, List.set_cons_succ]
            refine wpAnyH_take (i := 11) (v := ?_) rfl (by kernel_rfl) (by kernel_rfl) (by kernel_rfl) (fun _ _ _ h => h) (Or.inl ⟨by rfl, ?_⟩) hHeld ?_
            rotate_left
            · intro W hS
              try dsimp only at hS
              go_simp
              try with_reducible rfl
            try simp only [List.getElem_toArray, List.getElem_cons_succ, List.getElem_cons_zero, Act.put, List.setIfInBounds_toArray, List.set_cons_zero, List.set_cons_succ]
            refine wpAnyH_take (i := 12) (v := ?_) rfl (by kernel_rfl) (by kernel_rfl) (by kernel_rfl) (fun _ _ _ h => h) (Or.inl ⟨by rfl, ?_⟩) hHeld ?_
            rotate_left
            · intro W hS
              try dsimp only at hS
              go_simp
              try with_reducible rfl
            try simp only [List.getElem_toArray, List.getElem_cons_succ, List.getElem_cons_zero, Act.put, List.setIfInBounds_toArray, List.set_cons_zero, List.set_cons_succ]
            refine wpAnyH_take (i := 13) (v := ?_) rfl (by kernel_rfl) (by kernel_rfl) (by kernel_rfl) (fun _ _ _ h => h) (Or.inl ⟨by rfl, ?_⟩) hHeld ?_
            rotate_left
            · intro W hS
              try dsimp only at hS
              go_simp
              try with_reducible rfl
            try simp only [List.getElem_toArray, List.getElem_cons_succ, List.getElem_cons_zero, Act.put, List.setIfInBounds_toArray, List.set_cons_zero, List.set_cons_succ]
            refine wpAnyH_take (i := 14) (v := ?_) rfl (by kernel_rfl) (by kernel_rfl) (by kernel_rfl) (fun _ _ _ h => h) (Or.inl ⟨by rfl, ?_⟩) hHeld ?_
            rotate_left
            · intro W hS
              try dsimp only at hS
              go_simp
              try with_reducible rfl
            try simp only [List.getElem_toArray, List.getElem_cons_succ, List.getElem_cons_zero, Act.put, List.setIfInBounds_toArray, List.set_cons_zero, List.set_cons_succ]
            refine wpAnyH_ready (rs := [15]) (by kernel_rfl) (by simp) ?_
            refine AllReadyH.cons rfl (fun K hK => ?_) AllReadyH.nil
            go_simp
            refine (rless_b _ HL.out).mono ?_
            rintro e w1 ⟨rfl, hb⟩
            refine hK.out _ _ (keepT hHeld hb (by rw [block_of_add]; exact hab)) (fun hHeld => ?_)
            clear hK K
            try simp only [List.getElem_toArray, List.getElem_cons_succ, List.getElem_cons_zero, Act.put, List.setIfInBounds_toArray, List.set_cons_zero, List.set_cons_succ]
            refine wpAnyH_take (i := 16) (v := ?_) rfl (by kernel_rfl) (by kernel_rfl) (by kernel_rfl) (fun _ _ _ h => h) (Or.inl ⟨by rfl, ?_⟩) hHeld ?_
            rotate_left
            · intro W hS
              try dsimp only at hS
              go_simp
              try with_reducible rfl
            try simp only [List.getElem_toArray, List.getElem_cons_succ, List.getElem_cons_zero, Act.put, List.setIfInBounds_toArray, List.set_cons_zero, List.set_cons_succ]
            refine wpAnyH_done (by kernel_rfl) ?_ _
            go_wp2_with fail
            go_roundw
            case rel => exact ⟨k + 1, by omega, by go_num, hHeld.1, hHeld.2.1, Lib.hid (all_succ HN.out (by rw [HX.out, HM.out, HT.out, HL.out]; rfl))⟩
            case measure => simp [intOf]; omega
          · have HL := Lib.hid hl
            clear hl
            refine wp_region_held_drew (S := (fun W => Below w.heap.size w W ∧ Blk W w.heap.size 33 #[.int .i64 t.e, .int .i64 t.l] ∧ (∀ i, W.cell? ⟨w.heap.size, i, none⟩ = (#[.int .i64 t.e, .int .i64 t.l] : Array Value)[i]?) ∧ W.cell? (ad.add (k * 2)) = some (.int .i64 x.e) ∧ W.cell? ⟨(ad.add (k * 2)).block, (ad.add (k * 2)).off + 1, none⟩ = some (.int .i64 x.l))) (by kernel_rfl) (⟨HB.drew, KT, KT.c, hc0, hc1⟩) (fun hHeld => ?_)
            refine wpAnyH_take (i := 0) (v := ?_) rfl (by kernel_rfl) (by kernel_rfl) (by kernel_rfl) (fun _ _ _ h => h) (Or.inl ⟨by rfl, ?_⟩) hHeld ?_
            rotate_left
            · intro W hS
              try dsimp only at hS
              go_simp
              try with_reducible rfl
            try simp only [List.getElem_toArray, List.getElem_cons_succ, List.getElem_cons_zero, Act.put, List.setIfInBounds_toArray, List.set_cons_zero, List.set_cons_succ]
            refine wpAnyH_take (i := 1) (v := ?_) rfl (by kernel_rfl) (by kernel_rfl) (by kernel_rfl) (fun _ _ _ h => h) (Or.inl ⟨by rfl, ?_⟩) hHeld ?_
            rotate_left
            · intro W hS
              try dsimp only at hS
              go_simp
              try with_reducible rfl
            try simp only [List.getElem_toArray, List.getElem_cons_succ, List.getElem_cons_zero, Act.put, List.setIfInBounds_toArray, List.set_cons_zero, List.set_cons_succ]
            refine wpAnyH_take (i := 2) (v := ?_) rfl (by kernel_rfl) (by kernel_rfl) (by kernel_rfl) (fun _ _ _ h => h) (Or.inl ⟨by rfl, ?_⟩) hHeld ?_
            rotate_left
            · intro W hS
              try dsimp only at hS
              go_simp
              try with_reducible rfl
            try simp only [List.getElem_toArray, List.getElem_cons_succ, List.getElem_cons_zero, Act.put, List.setIfInBounds_toArray, List.set_cons_zero, List.set_cons_succ]
            refine wpAnyH_take (i := 3) (v := ?_) rfl (by kernel_rfl) (by kernel_rfl) (by kernel_rfl) (fun _ _ _ h => h) (Or.inl ⟨by rfl, ?_⟩) hHeld ?_
            rotate_left
            · intro W hS
              try dsimp only at hS
              go_simp
              try with_reducible rfl
            try simp only [List.getElem_toArray, List.getElem_cons_succ, List.getElem_cons_zero, Act.put, List.setIfInBounds_toArray, List.set_cons_zero, List.set_cons_succ]
            refine wpAnyH_ready (rs := [4]) (by kernel_rfl) (by simp) ?_
            refine AllReadyH.cons rfl (fun K hK => ?_) AllReadyH.nil
            go_simp
            refine (rmay_b _ HM.out).mono ?_
            rintro e w1 ⟨rfl, hb⟩
            refine hK.out _ _ (keepT hHeld hb (by rw [block_of_add]; exact hab)) (fun hHeld => ?_)
            clear hK K
            try simp only [List.getElem_toArray, List.getElem_cons_succ, List.getElem_cons_zero, Act.put, List.setIfInBounds_toArray, List.set_cons_zero, List.set_cons_succ]
            refine wpAnyH_take (i := 5) (v := ?_) rfl (by kernel_rfl) (by kernel_rfl) (by kernel_rfl) (fun _ _ _ h => h) (Or.inl ⟨by rfl, ?_⟩) hHeld ?_
            rotate_left
            · intro W hS
              try dsimp only at hS
              go_simp
              try with_reducible rfl
            try simp only [List.getElem_toArray, List.getElem_cons_succ, List.getElem_cons_zero, Act.put, List.setIfInBounds_toArray, List.set_cons_zero, List.set_cons_succ]
            refine wpAnyH_take (i := 6) (v := ?_) rfl (by kernel_rfl) (by kernel_rfl) (by kernel_rfl) (fun _ _ _ h => h) (Or.inl ⟨by rfl, ?_⟩) hHeld ?_
            rotate_left
            · intro W hS
              try dsimp only at hS
              go_simp
              try with_reducible rfl
            try simp only [List.getElem_toArray, List.getElem_cons_succ, List.getElem_cons_zero, Act.put, List.setIfInBounds_toArray, List.set_cons_zero, List.set_cons_succ]
            refine wpAnyH_ready (rs := [7]) (by kernel_rfl) (by simp) ?_
            refine AllReadyH.cons rfl (fun K hK => ?_) AllReadyH.nil
            go_simp
            refine (rmay_b _ HT.out).mono ?_
            rintro e w1 ⟨rfl, hb⟩
            refine hK.out _ _ (keepT hHeld hb (by rw [block_of_add]; exact hab)) (fun hHeld => ?_)
            clear hK K
            try simp only [List.getElem_toArray, List.getElem_cons_succ, List.getElem_cons_zero, Act.put, List.setIfInBounds_toArray, List.set_cons_zero, List.set_cons_succ]
            refine wpAnyH_take (i := 8) (v := ?_) rfl (by kernel_rfl) (by kernel_rfl) (by kernel_rfl) (fun _ _ _ h => h) (Or.inl ⟨by rfl, ?_⟩) hHeld ?_
            rotate_left
            · intro W hS
              try dsimp only at hS
              go_simp
              try with_reducible rfl
            try simp only [List.getElem_toArray, List.getElem_cons_succ, List.getElem_cons_zero, Act.put, List.setIfInBounds_toArray, List.set_cons_zero, List.set_cons_succ]
            refine wpAnyH_take (i := 9) (v := ?_) rfl (by kernel_rfl) (by kernel_rfl) (by kernel_rfl) (fun _ _ _ h => h) (Or.inl ⟨by rfl, ?_⟩) hHeld ?_
            rotate_left
            · intro W hS
              try dsimp only at hS
              go_simp
              try with_reducible rfl
            try simp only [List.getElem_toArray, List.getElem_cons_succ, List.getElem_cons_zero, Act.put, List.setIfInBounds_toArray, List.set_cons_zero, List.set_cons_succ]
            refine wpAnyH_take (i := 10) (v := ?_) rfl (by kernel_rfl) (by kernel_rfl) (by kernel_rfl) (fun _ _ _ h => h) (Or.inl ⟨by rfl, ?_⟩) hHeld ?_
            rotate_left
            · intro W hS
              try dsimp only at hS
              go_simp
              try with_reducible rfl
            try simp only [List.getElem_toArray, List.getElem_cons_succ, List.getElem_cons_zero, Act.put, List.setIfInBounds_toArray, List.set_cons_zero, List.set_cons_succ]
            refine wpAnyH_take (i := 11) (v := ?_) rfl (by kernel_rfl) (by kernel_rfl) (by kernel_rfl) (fun _ _ _ h => h) (Or.inl ⟨by rfl, ?_⟩) hHeld ?_
            rotate_left
            · intro W hS
              try dsimp only at hS
              go_simp
              try with_reducible rfl
            try simp only [List.getElem_toArray, List.getElem_cons_succ, List.getElem_cons_zero, Act.put, List.setIfInBounds_toArray, List.set_cons_zero, List.set_cons_succ]
            refine wpAnyH_take (i := 12) (v := ?_) rfl (by kernel_rfl) (by kernel_rfl) (by kernel_rfl) (fun _ _ _ h => h) (Or.inl ⟨by rfl, ?_⟩) hHeld ?_
            rotate_left
            · intro W hS
              try dsimp only at hS
              go_simp
              try with_reducible rfl
            try simp only [List.getElem_toArray, List.getElem_cons_succ, List.getElem_cons_zero, Act.put, List.setIfInBounds_toArray, List.set_cons_zero, List.set_cons_succ]
            refine wpAnyH_take (i := 13) (v := ?_) rfl (by kernel_rfl) (by kernel_rfl) (by kernel_rfl) (fun _ _ _ h => h) (Or.inl ⟨by rfl, ?_⟩) hHeld ?_
            rotate_left
            · intro W hS
              try dsimp only at hS
              go_simp
              try with_reducible rfl
            try simp only [List.getElem_toArray, List.getElem_cons_succ, List.getElem_cons_zero, Act.put, List.setIfInBounds_toArray, List.set_cons_zero, List.set_cons_succ]
            refine wpAnyH_take (i := 14) (v := ?_) rfl (by kernel_rfl) (by kernel_rfl) (by kernel_rfl) (fun _ _ _ h => h) (Or.inl ⟨by rfl, ?_⟩) hHeld ?_
            rotate_left
            · intro W hS
              try dsimp only at hS
              go_simp
              try with_reducible rfl
            try simp only [List.getElem_toArray, List.getElem_cons_succ, List.getElem_cons_zero, Act.put, List.setIfInBounds_toArray, List.set_cons_zero, List.set_cons_succ]
            refine wpAnyH_ready (rs := [15]) (by kernel_rfl) (by simp) ?_
            refine AllReadyH.cons rfl (fun K hK => ?_) AllReadyH.nil
            go_simp
            refine (rless_b _ HL.out).mono ?_
            rintro e w1 ⟨rfl, hb⟩
            refine hK.out _ _ (keepT hHeld hb (by rw [block_of_add]; exact hab)) (fun hHeld => ?_)
            clear hK K
            try simp only [List.getElem_toArray, List.getElem_cons_succ, List.getElem_cons_zero, Act.put, List.setIfInBounds_toArray, List.set_cons_zero, List.set_cons_succ]
            refine wpAnyH_take (i := 16) (v := ?_) rfl (by kernel_rfl) (by kernel_rfl) (by kernel_rfl) (fun _ _ _ h => h) (Or.inl ⟨by rfl, ?_⟩) hHeld ?_
            rotate_left
            · intro W hS
              try dsimp only at hS
              go_simp
              try with_reducible rfl
            try simp only [List.getElem_toArray, List.getElem_cons_succ, List.getElem_cons_zero, Act.put, List.setIfInBounds_toArray, List.set_cons_zero, List.set_cons_succ]
            refine wpAnyH_done (by kernel_rfl) ?_ _
            go_wp2_with fail
            go_ret
            exact ⟨by rw [hasL_iff.2 ⟨HT.out, x, HMEM.out, HM.out, HL.out⟩]; rfl, hHeld.1⟩
    · have hf := hasL_none HLEN.out (fun j hj => HN.out j (by omega)) (t := t)
      have HF := Lib.hid hf
      clear hf
      go_wp2_with fail
      go_ret
      exact ⟨by rw [HF.out]; rfl, HB⟩

theorem underL_none {a b : List Tm} {n : Nat} (hn : b.length = n) (h : ∀ j, j < n → ((Tm.at_ b j).may && !hasL a (Tm.at_ b j)) = false) : underL a b = true := by
  rw [underL_iff]
  intro t ht hm
  obtain ⟨k, hk, rfl⟩ := List.mem_iff_getElem.1 ht
  have := h k (by omega)
  rw [Tm.at_some (List.getElem?_eq_getElem hk), hm] at this
  simpa using this
theorem underL_not {a b : List Tm} {x : Tm} (hx : x ∈ b) (hm : x.may = true) (h : hasL a x = false) : underL a b = false := by
  rw [← Bool.not_eq_true, underL_iff]
  intro hh
  rw [hh x hx hm] at h; cases h
theorem rhas_b {B n c : Nat} {A : Option Addr} {l : List Tm} {t : Tm} {r : Bool} (w : World) (h : Tms w B A n l) (hB : B ≤ w.heap.size) (hn : n ≤ 1000000) (hr : hasL l t = r) :
    Calls Try.prog 25 #[.slice A n c, tmv t] w fun e w' => e = .returned (.bool r) ∧ Below w.heap.size w w' := by subst hr; exact rhas_any w h hB hn

set_option maxRecDepth 100000 in
set_option maxHeartbeats 2000000 in
theorem runder_any {B n m c c2 : Nat} {A A2 : Option Addr} {a b : List Tm} (w : World) (h1 : Tms w B A n a) (h : Tms w B A2 m b) (hB : B ≤ w.heap.size) (hn : n ≤ 1000000) (hm : m ≤ 1000000) :
    Calls Try.prog 27 #[.slice A n c, .slice A2 m c2] w fun e w' => e = .returned (.bool (underL a b)) ∧ Below w.heap.size w w' := by
  have HLEN := Lib.hid (Tms.len h)
  have H1 := Lib.hid h1
  clear h1
  go_enter Try.func27, Try.ntmps27
  go_wp2_with fail
  go_loopw [5] (fun i wr => ∃ k : Nat, k ≤ m ∧ i = .int .i64 k ∧ Below w.heap.size w wr ∧ Hid (∀ j, j < k → ((Tm.at_ b j).may && !hasL a (Tm.at_ b j)) = false)) (fun i _ => m - (intOf i).toNat)
  case atStart => exact ⟨0, Nat.zero_le _, rfl, Below.refl _ _, Lib.hid (fun j hj => absurd hj (by omega))⟩
  case round =>
    obtain ⟨k, hk, rfl, HB, HN⟩ := hrel
    by_cases hlt : k < m
    · obtain ⟨ad, rfl, hab, hp, hmem, hc0, hc1⟩ := Tms.tm (h.below (HB.mono hB)) hlt
      obtain ⟨x, hx⟩ : ∃ x, Tm.at_ b k = x := ⟨_, rfl⟩
      rw [hx] at hp hmem hc0 hc1
      have HX := Lib.hid hx
      have HMEM := Lib.hid hmem
      have hcb : (ad.add (k * 2)).block < wr.heap.size := by rw [block_of_add]; have := HB.size; omega
      clear hx hp hmem
      cases hmm : x.may
      · have HM := Lib.hid hmm
        clear hmm
        go_wp2_with fail
        refine (rmay_b _ HM.out).mono ?_
        rintro e w1 ⟨rfl, hb⟩
        have HB1 := below_after HB hb HB.size
        go_wp2_with fail
        go_roundw
        case rel => exact ⟨k + 1, by omega, by go_num, HB1, Lib.hid (all_succ HN.out (by rw [HX.out, HM.out]; rfl))⟩
        case measure => simp [intOf]; omega
      · have HM := Lib.hid hmm
        clear hmm
        go_wp2_with fail
        refine (rmay_b _ HM.out).mono ?_
        rintro e w1 ⟨rfl, hb⟩
        have HB1 := below_after HB hb HB.size
        have hd0 := (hb.cell hcb).trans hc0
        have hd1 := (hb.cell (p := ⟨(ad.add (k * 2)).block, (ad.add (k * 2)).off + 1, none⟩) hcb).trans hc1
        have hz1 := hb.size
        clear hc0 hc1
        cases hh : hasL a x
        · have HH := Lib.hid hh
          clear hh
          go_wp2_with fail
          refine (rhas_b _ (H1.out.below (HB1.mono hB)) (Nat.le_trans hB HB1.size) (by omega) HH.out).mono ?_
          rintro e w2 ⟨rfl, hb2⟩
          have HB2 := below_after HB1 hb2 HB1.size
          go_wp2_with fail
          go_ret
          exact ⟨by rw [underL_not HMEM.out HM.out HH.out]; rfl, HB2⟩
        · have HH := Lib.hid hh
          clear hh
          go_wp2_with fail
          refine (rhas_b _ (H1.out.below (HB1.mono hB)) (Nat.le_trans hB HB1.size) (by omega) HH.out).mono ?_
          rintro e w2 ⟨rfl, hb2⟩
          have HB2 := below_after HB1 hb2 HB1.size
          go_wp2_with fail
          go_roundw
          case rel => exact ⟨k + 1, by omega, by go_num, HB2, Lib.hid (all_succ HN.out (by rw [HX.out, HM.out, HH.out]; rfl))⟩
          case measure => simp [intOf]; omega
    · have hf := underL_none HLEN.out (fun j hj => HN.out j (by omega)) (a := a)
      have HF := Lib.hid hf
      clear hf
      go_wp2_with fail
      go_ret
      exact ⟨by rw [HF.out]; rfl, HB⟩
end Go.Proofs.Ytifoonjhcjmehaa
