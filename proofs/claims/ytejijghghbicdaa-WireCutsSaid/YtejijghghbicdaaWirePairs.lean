/-
  Pairs' bytes: both functions pairs, by contracts.
-/
import Derived.Test.YtejijghghbicdaaWireRise
import Derived.Test.YtejijghghbicdaaWireReq
import Derived.Outline
namespace Go.Proofs.Ytejijghghbicdaa
open Go.RowKit
set_option linter.unusedSimpArgs false
set_option linter.unusedVariables false

def prBytes (l : List Pr) : List Nat := l.flatMap fun p => enc (nat0 p.v) ++ enc p.x
theorem prBytes_nil : prBytes [] = [] := rfl
theorem prBytes_cons (p : Pr) (l : List Pr) : prBytes (p :: l) = enc (nat0 p.v) ++ (enc p.x ++ prBytes l) := by simp [prBytes]
theorem prBytes_snoc (l : List Pr) (p : Pr) : prBytes (l ++ [p]) = prBytes l ++ (enc (nat0 p.v) ++ enc p.x) := by simp [prBytes]
theorem prBytes_byte (l : List Pr) : ∀ d ∈ prBytes l, d < 256 := by
  intro d hd
  obtain ⟨p, _, h⟩ := List.mem_flatMap.1 hd
  rcases List.mem_append.1 h with h | h
  · exact enc_byte _ d h
  · exact enc_byte _ d h
theorem prBytes_len (l : List Pr) (h : ∀ p ∈ l, p.ok) : (prBytes l).length ≤ 20 * l.length := by
  induction l with
  | nil => simp [prBytes]
  | cons p l ih =>
    have h1 := enc_len10 (nat0_w (h p (List.mem_cons_self ..)).1)
    have h2 := enc_len10 (h p (List.mem_cons_self ..)).2
    have := ih (fun q hq => h q (List.mem_cons_of_mem _ hq))
    rw [prBytes_cons]; simp; omega
/-- The bytes of pairs: how many, and each. -/
def prsBytes (l : List Pr) : List Nat := enc l.length ++ prBytes l
theorem cell_reads {W : World} {g : Nat} {v : Value} (h : W.cell? ⟨g, 0, none⟩ = some v) : Reads W W.heap.size 1 (some ⟨g, 0, none⟩) 1 [v] :=
  ⟨rfl, fun _ => ⟨_, rfl, World.block_lt_of_cell? W _ h, fun j u hu => by
    cases j with
    | zero => simp at hu; subst hu; simpa [Addr.add] using h
    | succ j => simp at hu⟩⟩
theorem enc1 (z : Nat) : encs [z] = enc z := by rw [encs_cons, encs_nil, List.append_nil]
section
variable {W : World} {B n c g c2 : Nat} {A : Option Addr} {xs : List Nat}
theorem int_cell {z : Int} (hx : Reads W B 1 A n (u8s xs)) (hB : B ≤ W.heap.size) (hc : W.cell? ⟨g, 0, none⟩ = some (.int .i64 z)) (hz : IN64 z) (hn : n ≤ 1000000000) :
    Calls Try.prog 19 #[.slice A n c, .slice (some ⟨g, 0, none⟩) 1 c2] W fun e w' => ∃ A r q, e = .returned (.slice A r q) ∧ Reads w' w'.heap.size 1 A r (u8s (xs ++ enc (nat0 z))) ∧ r ≤ n + 10 ∧ Below W.heap.size W w' := by
  refine (int_any (B := W.heap.size) (zs := [z]) W (hx.more hB) (cell_reads hc) (Nat.le_refl _) (by intro y hy; simp at hy; subst hy; exact hz) hn (by omega)).mono ?_
  rintro e w' ⟨v, rfl, hown, hb⟩
  obtain ⟨A, q, rfl⟩ := own_form hown
  refine ⟨_, _, _, rfl, ?_, ?_, hb⟩
  · have := Reads.of_own hown
    simpa only [List.map_cons, List.map_nil, enc1] using this
  · have := enc_len10 (nat0_w hz)
    have hl : xs.length = n := by have := hx.1; simpa using this
    simp [enc1]; omega
theorem rint_cell {z : Int} (hx : Reads W B 1 A n (u8s xs)) (hB : B ≤ W.heap.size) (hc : W.cell? ⟨g, 0, none⟩ = some (.int .i64 z)) (hz : IN64 z) (hn : n ≤ 1000000000) :
    Calls Try.prog 21 #[.slice A n c, .slice (some ⟨g, 0, none⟩) 1 c2] W fun e w' => ∃ A r q, e = .returned (.slice A r q) ∧ Reads w' w'.heap.size 1 A r (u8s (xs ++ enc (nat0 z))) ∧ r ≤ n + 10 ∧ Below W.heap.size W w' := by
  refine (rint_any (B := W.heap.size) (zs := [z]) W (hx.more hB) (cell_reads hc) (Nat.le_refl _) (by intro y hy; simp at hy; subst hy; exact hz) hn (by omega)).mono ?_
  rintro e w' ⟨v, rfl, hown, hb⟩
  obtain ⟨A, q, rfl⟩ := own_form hown
  refine ⟨_, _, _, rfl, ?_, ?_, hb⟩
  · have := Reads.of_own hown
    simpa only [List.map_cons, List.map_nil, enc1] using this
  · have := enc_len10 (nat0_w hz)
    have hl : xs.length = n := by have := hx.1; simpa using this
    simp [enc1]; omega
theorem word_cell {z : Nat} (hx : Reads W B 1 A n (u8s xs)) (hB : B ≤ W.heap.size) (hc : W.cell? ⟨g, 0, none⟩ = some (.int .u64 (z : Nat))) (hz : W64 z) (hn : n ≤ 1000000000) :
    Calls Try.prog 20 #[.slice A n c, .slice (some ⟨g, 0, none⟩) 1 c2] W fun e w' => ∃ v, e = .returned v ∧ w'.ownsRow W.heap.size 5 1 v (xs ++ enc z).length (u8s (xs ++ enc z)) ∧ Below W.heap.size W w' := by
  refine (word_any (B := W.heap.size) (ys := [z]) W (hx.more hB) (cell_reads hc) (Nat.le_refl _) (by intro y hy; simp at hy; subst hy; exact hz) hn (by omega)).mono ?_
  rintro e w' ⟨v, rfl, hown, hb⟩
  rw [enc1] at hown
  exact ⟨_, rfl, hown, hb⟩
theorem rword_cell {z : Nat} (hx : Reads W B 1 A n (u8s xs)) (hB : B ≤ W.heap.size) (hc : W.cell? ⟨g, 0, none⟩ = some (.int .u64 (z : Nat))) (hz : W64 z) (hn : n ≤ 1000000000) :
    Calls Try.prog 22 #[.slice A n c, .slice (some ⟨g, 0, none⟩) 1 c2] W fun e w' => ∃ v, e = .returned v ∧ w'.ownsRow W.heap.size 5 1 v (xs ++ enc z).length (u8s (xs ++ enc z)) ∧ Below W.heap.size W w' := by
  refine (rword_any (B := W.heap.size) (ys := [z]) W (hx.more hB) (cell_reads hc) (Nat.le_refl _) (by intro y hy; simp at hy; subst hy; exact hz) hn (by omega)).mono ?_
  rintro e w' ⟨v, rfl, hown, hb⟩
  rw [enc1] at hown
  exact ⟨_, rfl, hown, hb⟩
end
theorem keepS {w W : World} {p0 p1 : Addr} {v0 v1 : Value} (hb : Below w.heap.size w W) (h0 : w.cell? p0 = some v0) (h1 : w.cell? p1 = some v1) : Below w.heap.size w W ∧ W.cell? p0 = some v0 ∧ W.cell? p1 = some v1 :=
  ⟨hb, (hb.cell (World.block_lt_of_cell? w _ h0)).trans h0, (hb.cell (World.block_lt_of_cell? w _ h1)).trans h1⟩

theorem nat0_natc (n : Nat) : nat0 (n : Int) = n := by unfold nat0; omega
/-- What is put when k pairs are. -/
def pacc (xs : List Nat) (l : List Pr) (m k : Nat) : List Nat := xs ++ (enc m ++ prBytes (l.take k))
theorem pacc_zero (xs : List Nat) (l : List Pr) (m : Nat) : pacc xs l m 0 = xs ++ enc m := by simp [pacc, prBytes]
theorem pacc_succ (xs : List Nat) {l : List Pr} (m : Nat) {k : Nat} {p : Pr} (h : l[k]? = some p) : pacc xs l m (k + 1) = pacc xs l m k ++ (enc (nat0 p.v) ++ enc p.x) := by
  have hk := (List.getElem?_eq_some_iff.1 h).1
  have e : l[k] = p := (List.getElem?_eq_some_iff.1 h).2
  unfold pacc; rw [take_snoc_ l k hk, prBytes_snoc, e]; simp [List.append_assoc]
theorem pacc_all (xs : List Nat) (l : List Pr) (m : Nat) (h : l.length = m) : pacc xs l m m = xs ++ prsBytes l := by
  unfold pacc prsBytes; rw [List.take_of_length_le (by omega), h]
theorem pacc_len (xs : List Nat) (l : List Pr) (m k : Nat) (h : ∀ p ∈ l, p.ok) (hm : m ≤ 1000000) : (pacc xs l m k).length ≤ xs.length + 10 + 20 * k := by
  have h1 := enc_len10 (n := m) (by omega)
  have h2 := prBytes_len (l.take k) (fun p hp => h p (List.mem_of_mem_take hp))
  have h3 : (l.take k).length ≤ k := List.length_take_le ..
  unfold pacc; simp; omega

set_option maxRecDepth 100000 in
set_option maxHeartbeats 4000000 in
theorem pairs_any {B n c m c2 : Nat} {A A2 : Option Addr} {xs : List Nat} {l : List Pr} (w : World) (hx : Reads w B 1 A n (u8s xs)) (hl : Reads w B 2 A2 m (prCells l)) (hB : B ≤ w.heap.size) (hok : ∀ p ∈ l, p.ok) (hn : n ≤ 1000000) (hm : m ≤ 1000000) :
    Calls Try.prog 54 #[.slice A n c, .slice A2 m c2] w fun e w' => ∃ v, e = .returned v ∧ w'.ownsRow w.heap.size 5 1 v (xs ++ prsBytes l).length (u8s (xs ++ prsBytes l)) ∧ Below w.heap.size w w' := by
  have HOK := Lib.hid hok
  have HL := Lib.hid (reads_plen hl)
  have hm64 : IN64 (m : Nat) := by unfold IN64; omega
  have hxl : xs.length = n := by have := hx.1; simpa using this
  have HXL := Lib.hid hxl
  clear hok hxl
  go_enter Try.func54, Try.ntmps54
  go_wp2_with fail
  refine (int_any (B := w.heap.size + 1) (zs := [(m : Nat)]) _ ((hx.alloc hB _).more (by omega)) (reads_new w [.int .i64 (m : Nat)] 3 1 rfl) (by simp) (by intro z hz; simp at hz; subst hz; exact hm64) (by omega) (by omega)).mono ?_
  rintro e w1 ⟨v1, rfl, hown, hb⟩
  have HB1 : Below w.heap.size w w1 := below_after ((Below.refl w.heap.size w).alloc (Nat.le_refl _) _) hb (by simp)
  have hown := own_le hown (base' := w.heap.size) (by simp)
  clear hb
  go_wp2_with fail
  go_loopw [0, 14] (fun v i wr => ∃ k : Nat, k ≤ m ∧ i = .int .i64 k ∧ wr.ownsRow w.heap.size 5 1 v (pacc xs l m k).length (u8s (pacc xs l m k)) ∧ Below w.heap.size w wr) (fun _ i _ => m - (intOf i).toNat)
  case atStart => exact ⟨0, Nat.zero_le _, rfl, by rw [pacc_zero]; simpa only [List.map_cons, List.map_nil, nat0_natc, enc1] using hown, HB1⟩
  case round =>
    obtain ⟨k, hk, rfl, hown, hb⟩ := hrel
    by_cases hlt : k < m
    · obtain ⟨ad, p, rfl, hab, hp, hc0, hc1⟩ := (hl.below (hb.mono hB)).pair hlt
      have hpok : p.ok := HOK.out p (List.mem_of_getElem? hp)
      have HACC := Lib.hid (pacc_succ xs m hp)
      have hal : (pacc xs l m k).length ≤ n + 10 + 20 * k := by have := pacc_len xs l m k HOK.out (by omega); have := HXL.out; omega
      obtain ⟨pv, px⟩ := p
      simp only at hc0 hc1
      have HP : Hid (IN64 pv ∧ W64 px) := Lib.hid hpok
      obtain ⟨N, hN⟩ : ∃ N, N = (pacc xs l m k).length := ⟨_, rfl⟩
      rw [← hN] at hown hal
      obtain ⟨A3, c3, rfl⟩ := own_form hown
      have hacc0 := Reads.of_own hown
      have hN2 : N ≤ 800000000 := by omega
      have hacc := hacc0.alloc (Nat.le_refl _) (.cells #[.int .i64 pv, .int .u64 (px : Nat)] 64)
      have KB := Blk.new wr 64 #[.int .i64 pv, .int .u64 (px : Nat)]
      have HB5 := Lib.hid (hb.alloc hb.size (.cells #[.int .i64 pv, .int .u64 (px : Nat)] 64))
      have C0 := Lib.hid (show (wr.alloc (.cells #[.int .i64 pv, .int .u64 (px : Nat)] 64)).cell? ⟨wr.heap.size, 0, none⟩ = some (.int .i64 pv) from by rw [KB.c]; rfl)
      have C1 := Lib.hid (show (wr.alloc (.cells #[.int .i64 pv, .int .u64 (px : Nat)] 64)).cell? ⟨wr.heap.size, 1, none⟩ = some (.int .u64 (px : Nat)) from by rw [KB.c]; rfl)
      clear hown hN hp hpok hal KB hacc0
      go_wp2_with fail
      obtain ⟨w5, hw5⟩ : ∃ w5 : World, w5 = wr.alloc (.cells #[.int .i64 pv, .int .u64 (px : Nat)] 64) := ⟨_, rfl⟩
      have hb5z : wr.heap.size ≤ w5.heap.size := by rw [hw5]; simp
      rw [← hw5] at hacc HB5 C0 C1 ⊢
      clear hw5 hc0 hc1
      have hacc := hacc.more hb5z
      refine wp_region_held_drew (S := (fun W => Below w5.heap.size w5 W ∧ W.cell? ⟨wr.heap.size, 0, none⟩ = some (.int .i64 pv) ∧ W.cell? ⟨wr.heap.size, 1, none⟩ = some (.int .u64 (px : Nat)))) (by kernel_rfl) (keepS (Below.refl _ _).drew C0.out C1.out) (fun hHeld => ?_)
      refine wpAnyH_take (i := 0) (v := ?_) rfl (by kernel_rfl) (by kernel_rfl) (by kernel_rfl) (fun _ _ _ h => h) (Or.inl ⟨by rfl, ?_⟩) hHeld ?_
      rotate_left
      · intro W hS
        try dsimp only at hS
        go_simp
        try with_reducible rfl
      try simp only [List.getElem_toArray, List.getElem_cons_succ, List.getElem_cons_zero, Act.put, List.setIfInBounds_toArray, List.set_cons_zero, List.set_cons_succ]
      refine wpAnyH_take (i := 1) (v := ?_) rfl (by kernel_rfl) (by kernel_rfl) (by kernel_rfl) (fun _ _ _ h => h) (Or.inl ⟨by rfl, ?_⟩) hHeld ?_
      rotate_left
      · intro W hS
        try dsimp only at hS
        go_simp
        try with_reducible rfl
      try simp only [List.getElem_toArray, List.getElem_cons_succ, List.getElem_cons_zero, Act.put, List.setIfInBounds_toArray, List.set_cons_zero, List.set_cons_succ]
      refine wpAnyH_take (i := 2) (v := ?_) rfl (by kernel_rfl) (by kernel_rfl) (by kernel_rfl) (fun _ _ _ h => h) (Or.inl ⟨by rfl, ?_⟩) hHeld ?_
      rotate_left
      · intro W hS
        try dsimp only at hS
        go_simp
        try with_reducible rfl
      try simp only [List.getElem_toArray, List.getElem_cons_succ, List.getElem_cons_zero, Act.put, List.setIfInBounds_toArray, List.set_cons_zero, List.set_cons_succ]
      refine wpAnyH_take (i := 5) (v := ?_) rfl (by kernel_rfl) (by kernel_rfl) (by kernel_rfl) (fun _ _ _ h => h) (Or.inl ⟨by rfl, ?_⟩) hHeld ?_
      rotate_left
      · intro W hS
        try dsimp only at hS
        go_simp
        try with_reducible rfl
      try simp only [List.getElem_toArray, List.getElem_cons_succ, List.getElem_cons_zero, Act.put, List.setIfInBounds_toArray, List.set_cons_zero, List.set_cons_succ]
      refine wpAnyH_take (i := 6) (v := ?_) rfl (by kernel_rfl) (by kernel_rfl) (by kernel_rfl) (fun _ _ _ h => h) (Or.inl ⟨by rfl, ?_⟩) hHeld ?_
      rotate_left
      · intro W hS
        try dsimp only at hS
        go_simp
        try with_reducible rfl
      try simp only [List.getElem_toArray, List.getElem_cons_succ, List.getElem_cons_zero, Act.put, List.setIfInBounds_toArray, List.set_cons_zero, List.set_cons_succ]
      refine wpAnyH_ready (rs := [3, 7]) (by kernel_rfl) (by simp) ?_
      refine (AllReadyH.cons rfl (fun K hK => ?_) (AllReadyH.cons rfl (fun K hK => ?_) AllReadyH.nil))
      · go_simp
        refine hK.out _ _ (keepS (hHeld.1.alloc hHeld.1.size _) C0.out C1.out) (fun hHeld => ?_)
        clear hK K
        try simp only [List.getElem_toArray, List.getElem_cons_succ, List.getElem_cons_zero, Act.put, List.setIfInBounds_toArray, List.set_cons_zero, List.set_cons_succ]
        refine wpAnyH_ready (rs := [4, 7]) (by kernel_rfl) (by simp) ?_
        refine (AllReadyH.cons rfl (fun K hK => ?_) (AllReadyH.cons rfl (fun K hK => ?_) AllReadyH.nil))
        · go_simp
          refine (int_cell (hacc.below hHeld.1) hHeld.1.size (by simp) HP.out.1 (by omega)).mono ?_
          rintro e w6 ⟨A6, r6, q6, rfl, hR6, hr6, hb⟩
          have hs6 : r6 ≤ 900000000 := by omega
          refine hK.out _ _ (keepS (below_after hHeld.1 hb hHeld.1.size) C0.out C1.out) (fun hHeld => ?_)
          clear hK K
          try simp only [List.getElem_toArray, List.getElem_cons_succ, List.getElem_cons_zero, Act.put, List.setIfInBounds_toArray, List.set_cons_zero, List.set_cons_succ]
          refine wpAnyH_ready (rs := [7]) (by kernel_rfl) (by simp) ?_
          refine (AllReadyH.cons rfl (fun K hK => ?_) AllReadyH.nil)
          go_simp
          refine hK.out _ _ (keepS (hHeld.1.alloc hHeld.1.size _) C0.out C1.out) (fun hHeld => ?_)
          clear hK K
          try simp only [List.getElem_toArray, List.getElem_cons_succ, List.getElem_cons_zero, Act.put, List.setIfInBounds_toArray, List.set_cons_zero, List.set_cons_succ]
          refine wpAnyH_ready (rs := [8]) (by kernel_rfl) (by simp) ?_
          refine (AllReadyH.cons rfl (fun K hK => ?_) AllReadyH.nil)
          go_simp
          have hsz := hHeld.1.size
          refine (word_cell (hR6.alloc (Nat.le_refl _) _) (by simp) (by simp) HP.out.2 (by omega)).mono ?_
          rintro e w7 ⟨v7, rfl, hown7, hb⟩
          refine hK.out _ _ (keepS (below_after hHeld.1 hb hHeld.1.size) C0.out C1.out) (fun hHeld => ?_)
          clear hK K
          try simp only [List.getElem_toArray, List.getElem_cons_succ, List.getElem_cons_zero, Act.put, List.setIfInBounds_toArray, List.set_cons_zero, List.set_cons_succ]
          refine wpAnyH_take (i := 9) (v := ?_) rfl (by kernel_rfl) (by kernel_rfl) (by kernel_rfl) (fun _ _ _ h => h) (Or.inl ⟨by rfl, ?_⟩) hHeld ?_
          rotate_left
          · intro W hS
            try dsimp only at hS
            go_simp
            try with_reducible rfl
          try simp only [List.getElem_toArray, List.getElem_cons_succ, List.getElem_cons_zero, Act.put, List.setIfInBounds_toArray, List.set_cons_zero, List.set_cons_succ]
          refine wpAnyH_done (by kernel_rfl) ?_ _
          have HBW : Below w.heap.size w w7 := HB5.out.trans (hHeld.1.mono HB5.out.size)
          have hownw := own_le hown7 (base' := w.heap.size) (by have h1 := HB5.out.size; have h2 := hsz; first | omega | (simp at h2 ⊢; omega))
          rw [List.append_assoc, ← HACC.out] at hownw
          clear hown7 hHeld hR6
          go_wp2_with fail
          go_roundw
          case rel => exact ⟨k + 1, by omega, by go_num, hownw, HBW⟩
          case measure => simp [intOf]; omega
        · go_simp
          refine hK.out _ _ (keepS (hHeld.1.alloc hHeld.1.size _) C0.out C1.out) (fun hHeld => ?_)
          clear hK K
          try simp only [List.getElem_toArray, List.getElem_cons_succ, List.getElem_cons_zero, Act.put, List.setIfInBounds_toArray, List.set_cons_zero, List.set_cons_succ]
          refine wpAnyH_ready (rs := [4]) (by kernel_rfl) (by simp) ?_
          refine (AllReadyH.cons rfl (fun K hK => ?_) AllReadyH.nil)
          go_simp
          refine (int_cell (hacc.below hHeld.1) hHeld.1.size (by simp) HP.out.1 (by omega)).mono ?_
          rintro e w6 ⟨A6, r6, q6, rfl, hR6, hr6, hb⟩
          have hs6 : r6 ≤ 900000000 := by omega
          have hcx := (bcell hb).1
          refine hK.out _ _ (keepS (below_after hHeld.1 hb hHeld.1.size) C0.out C1.out) (fun hHeld => ?_)
          clear hK K
          try simp only [List.getElem_toArray, List.getElem_cons_succ, List.getElem_cons_zero, Act.put, List.setIfInBounds_toArray, List.set_cons_zero, List.set_cons_succ]
          refine wpAnyH_ready (rs := [8]) (by kernel_rfl) (by simp) ?_
          refine (AllReadyH.cons rfl (fun K hK => ?_) AllReadyH.nil)
          go_simp
          have hsz := hHeld.1.size
          refine (word_cell (hR6) (Nat.le_refl _) (by rw [hcx _ _ (by simp; try omega)]; simp) HP.out.2 (by omega)).mono ?_
          rintro e w7 ⟨v7, rfl, hown7, hb⟩
          refine hK.out _ _ (keepS (below_after hHeld.1 hb hHeld.1.size) C0.out C1.out) (fun hHeld => ?_)
          clear hK K
          try simp only [List.getElem_toArray, List.getElem_cons_succ, List.getElem_cons_zero, Act.put, List.setIfInBounds_toArray, List.set_cons_zero, List.set_cons_succ]
          refine wpAnyH_take (i := 9) (v := ?_) rfl (by kernel_rfl) (by kernel_rfl) (by kernel_rfl) (fun _ _ _ h => h) (Or.inl ⟨by rfl, ?_⟩) hHeld ?_
          rotate_left
          · intro W hS
            try dsimp only at hS
            go_simp
            try with_reducible rfl
          try simp only [List.getElem_toArray, List.getElem_cons_succ, List.getElem_cons_zero, Act.put, List.setIfInBounds_toArray, List.set_cons_zero, List.set_cons_succ]
          refine wpAnyH_done (by kernel_rfl) ?_ _
          have HBW : Below w.heap.size w w7 := HB5.out.trans (hHeld.1.mono HB5.out.size)
          have hownw := own_le hown7 (base' := w.heap.size) (by have h1 := HB5.out.size; have h2 := hsz; first | omega | (simp at h2 ⊢; omega))
          rw [List.append_assoc, ← HACC.out] at hownw
          clear hown7 hHeld hR6
          go_wp2_with fail
          go_roundw
          case rel => exact ⟨k + 1, by omega, by go_num, hownw, HBW⟩
          case measure => simp [intOf]; omega
      · go_simp
        refine hK.out _ _ (keepS (hHeld.1.alloc hHeld.1.size _) C0.out C1.out) (fun hHeld => ?_)
        clear hK K
        try simp only [List.getElem_toArray, List.getElem_cons_succ, List.getElem_cons_zero, Act.put, List.setIfInBounds_toArray, List.set_cons_zero, List.set_cons_succ]
        refine wpAnyH_ready (rs := [3]) (by kernel_rfl) (by simp) ?_
        refine (AllReadyH.cons rfl (fun K hK => ?_) AllReadyH.nil)
        go_simp
        refine hK.out _ _ (keepS (hHeld.1.alloc hHeld.1.size _) C0.out C1.out) (fun hHeld => ?_)
        clear hK K
        try simp only [List.getElem_toArray, List.getElem_cons_succ, List.getElem_cons_zero, Act.put, List.setIfInBounds_toArray, List.set_cons_zero, List.set_cons_succ]
        refine wpAnyH_ready (rs := [4]) (by kernel_rfl) (by simp) ?_
        refine (AllReadyH.cons rfl (fun K hK => ?_) AllReadyH.nil)
        go_simp
        refine (int_cell (hacc.below hHeld.1) hHeld.1.size (by simp) HP.out.1 (by omega)).mono ?_
        rintro e w6 ⟨A6, r6, q6, rfl, hR6, hr6, hb⟩
        have hs6 : r6 ≤ 900000000 := by omega
        have hcx := (bcell hb).1
        refine hK.out _ _ (keepS (below_after hHeld.1 hb hHeld.1.size) C0.out C1.out) (fun hHeld => ?_)
        clear hK K
        try simp only [List.getElem_toArray, List.getElem_cons_succ, List.getElem_cons_zero, Act.put, List.setIfInBounds_toArray, List.set_cons_zero, List.set_cons_succ]
        refine wpAnyH_ready (rs := [8]) (by kernel_rfl) (by simp) ?_
        refine (AllReadyH.cons rfl (fun K hK => ?_) AllReadyH.nil)
        go_simp
        have hsz := hHeld.1.size
        refine (word_cell (hR6) (Nat.le_refl _) (by rw [hcx _ _ (by simp; try omega)]; simp) HP.out.2 (by omega)).mono ?_
        rintro e w7 ⟨v7, rfl, hown7, hb⟩
        refine hK.out _ _ (keepS (below_after hHeld.1 hb hHeld.1.size) C0.out C1.out) (fun hHeld => ?_)
        clear hK K
        try simp only [List.getElem_toArray, List.getElem_cons_succ, List.getElem_cons_zero, Act.put, List.setIfInBounds_toArray, List.set_cons_zero, List.set_cons_succ]
        refine wpAnyH_take (i := 9) (v := ?_) rfl (by kernel_rfl) (by kernel_rfl) (by kernel_rfl) (fun _ _ _ h => h) (Or.inl ⟨by rfl, ?_⟩) hHeld ?_
        rotate_left
        · intro W hS
          try dsimp only at hS
          go_simp
          try with_reducible rfl
        try simp only [List.getElem_toArray, List.getElem_cons_succ, List.getElem_cons_zero, Act.put, List.setIfInBounds_toArray, List.set_cons_zero, List.set_cons_succ]
        refine wpAnyH_done (by kernel_rfl) ?_ _
        have HBW : Below w.heap.size w w7 := HB5.out.trans (hHeld.1.mono HB5.out.size)
        have hownw := own_le hown7 (base' := w.heap.size) (by have h1 := HB5.out.size; have h2 := hsz; first | omega | (simp at h2 ⊢; omega))
        rw [List.append_assoc, ← HACC.out] at hownw
        clear hown7 hHeld hR6
        go_wp2_with fail
        go_roundw
        case rel => exact ⟨k + 1, by omega, by go_num, hownw, HBW⟩
        case measure => simp [intOf]; omega
    · have hkm : k = m := by omega
      subst hkm
      rw [pacc_all xs l k HL.out] at hown
      go_wp2_with fail
      go_ret
      exact ⟨_, rfl, hown, hb⟩

set_option maxRecDepth 100000 in
set_option maxHeartbeats 4000000 in
theorem rpairs_any {B n c m c2 : Nat} {A A2 : Option Addr} {xs : List Nat} {l : List Pr} (w : World) (hx : Reads w B 1 A n (u8s xs)) (hl : Reads w B 2 A2 m (prCells l)) (hB : B ≤ w.heap.size) (hok : ∀ p ∈ l, p.ok) (hn : n ≤ 1000000) (hm : m ≤ 1000000) :
    Calls Try.prog 61 #[.slice A n c, .slice A2 m c2] w fun e w' => ∃ v, e = .returned v ∧ w'.ownsRow w.heap.size 5 1 v (xs ++ prsBytes l).length (u8s (xs ++ prsBytes l)) ∧ Below w.heap.size w w' := by
  have HOK := Lib.hid hok
  have HL := Lib.hid (reads_plen hl)
  have hm64 : IN64 (m : Nat) := by unfold IN64; omega
  have hxl : xs.length = n := by have := hx.1; simpa using this
  have HXL := Lib.hid hxl
  clear hok hxl
  go_enter Try.func61, Try.ntmps61
  go_wp2_with fail
  refine (rint_any (B := w.heap.size + 1) (zs := [(m : Nat)]) _ ((hx.alloc hB _).more (by omega)) (reads_new w [.int .i64 (m : Nat)] 3 1 rfl) (by simp) (by intro z hz; simp at hz; subst hz; exact hm64) (by omega) (by omega)).mono ?_
  rintro e w1 ⟨v1, rfl, hown, hb⟩
  have HB1 : Below w.heap.size w w1 := below_after ((Below.refl w.heap.size w).alloc (Nat.le_refl _) _) hb (by simp)
  have hown := own_le hown (base' := w.heap.size) (by simp)
  clear hb
  go_wp2_with fail
  go_loopw [0, 5] (fun v i wr => ∃ k : Nat, k ≤ m ∧ i = .int .i64 k ∧ wr.ownsRow w.heap.size 5 1 v (pacc xs l m k).length (u8s (pacc xs l m k)) ∧ Below w.heap.size w wr) (fun _ i _ => m - (intOf i).toNat)
  case atStart => exact ⟨0, Nat.zero_le _, rfl, by rw [pacc_zero]; simpa only [List.map_cons, List.map_nil, nat0_natc, enc1] using hown, HB1⟩
  case round =>
    obtain ⟨k, hk, rfl, hown, hb⟩ := hrel
    by_cases hlt : k < m
    · obtain ⟨ad, p, rfl, hab, hp, hc0, hc1⟩ := (hl.below (hb.mono hB)).pair hlt
      have hpok : p.ok := HOK.out p (List.mem_of_getElem? hp)
      have HACC := Lib.hid (pacc_succ xs m hp)
      have hal : (pacc xs l m k).length ≤ n + 10 + 20 * k := by have := pacc_len xs l m k HOK.out (by omega); have := HXL.out; omega
      obtain ⟨pv, px⟩ := p
      simp only at hc0 hc1
      have HP : Hid (IN64 pv ∧ W64 px) := Lib.hid hpok
      obtain ⟨N, hN⟩ : ∃ N, N = (pacc xs l m k).length := ⟨_, rfl⟩
      rw [← hN] at hown hal
      obtain ⟨A3, c3, rfl⟩ := own_form hown
      have hacc0 := Reads.of_own hown
      have hN2 : N ≤ 800000000 := by omega
      have hacc := hacc0
      have HB5 := Lib.hid hb
      have C0 := Lib.hid hc0
      have C1 := Lib.hid hc1
      have hb5z : wr.heap.size ≤ wr.heap.size := Nat.le_refl _
      obtain ⟨w5, hw5⟩ : ∃ w5 : World, w5 = wr := ⟨_, rfl⟩
      clear hown hN hp hpok hal hacc0
      rw [← hw5] at hacc HB5 C0 C1 hb5z
      go_wp2_with fail
      rw [← hw5]
      clear hc0 hc1 hw5
      refine wp_region_held_drew (S := (fun W => Below w5.heap.size w5 W ∧ W.cell? (ad.add (k * 2)) = some (.int .i64 pv) ∧ W.cell? ⟨(ad.add (k * 2)).block, (ad.add (k * 2)).off + 1, none⟩ = some (.int .u64 (px : Nat)))) (by kernel_rfl) (keepS (Below.refl _ _).drew C0.out C1.out) (fun hHeld => ?_)
      refine wpAnyH_take (i := 0) (v := ?_) rfl (by kernel_rfl) (by kernel_rfl) (by kernel_rfl) (fun _ _ _ h => h) (Or.inl ⟨by rfl, ?_⟩) hHeld ?_
      rotate_left
      · intro W hS
        try dsimp only at hS
        go_simp
        try with_reducible rfl
      try simp only [List.getElem_toArray, List.getElem_cons_succ, List.getElem_cons_zero, Act.put, List.setIfInBounds_toArray, List.set_cons_zero, List.set_cons_succ]
      refine wpAnyH_take (i := 1) (v := ?_) rfl (by kernel_rfl) (by kernel_rfl) (by kernel_rfl) (fun _ _ _ h => h) (Or.inl ⟨by rfl, ?_⟩) hHeld ?_
      rotate_left
      · intro W hS
        try dsimp only at hS
        go_simp
        try with_reducible rfl
      try simp only [List.getElem_toArray, List.getElem_cons_succ, List.getElem_cons_zero, Act.put, List.setIfInBounds_toArray, List.set_cons_zero, List.set_cons_succ]
      refine wpAnyH_take (i := 2) (v := ?_) rfl (by kernel_rfl) (by kernel_rfl) (by kernel_rfl) (fun _ _ _ h => h) (Or.inl ⟨by rfl, ?_⟩) hHeld ?_
      rotate_left
      · intro W hS
        try dsimp only at hS
        go_simp
        try with_reducible rfl
      try simp only [List.getElem_toArray, List.getElem_cons_succ, List.getElem_cons_zero, Act.put, List.setIfInBounds_toArray, List.set_cons_zero, List.set_cons_succ]
      refine wpAnyH_take (i := 3) (v := ?_) rfl (by kernel_rfl) (by kernel_rfl) (by kernel_rfl) (fun _ _ _ h => h) (Or.inl ⟨by rfl, ?_⟩) hHeld ?_
      rotate_left
      · intro W hS
        try dsimp only at hS
        go_simp
        try with_reducible rfl
      try simp only [List.getElem_toArray, List.getElem_cons_succ, List.getElem_cons_zero, Act.put, List.setIfInBounds_toArray, List.set_cons_zero, List.set_cons_succ]
      refine wpAnyH_take (i := 4) (v := ?_) rfl (by kernel_rfl) (by kernel_rfl) (by kernel_rfl) (fun _ _ _ h => h) (Or.inl ⟨by rfl, ?_⟩) hHeld ?_
      rotate_left
      · intro W hS
        try dsimp only at hS
        go_simp
        try with_reducible rfl
      try simp only [List.getElem_toArray, List.getElem_cons_succ, List.getElem_cons_zero, Act.put, List.setIfInBounds_toArray, List.set_cons_zero, List.set_cons_succ]
      refine wpAnyH_take (i := 5) (v := ?_) rfl (by kernel_rfl) (by kernel_rfl) (by kernel_rfl) (fun _ _ _ h => h) (Or.inl ⟨by rfl, ?_⟩) hHeld ?_
      rotate_left
      · intro W hS
        try dsimp only at hS
        go_simp
        try with_reducible rfl
      try simp only [List.getElem_toArray, List.getElem_cons_succ, List.getElem_cons_zero, Act.put, List.setIfInBounds_toArray, List.set_cons_zero, List.set_cons_succ]
      refine wpAnyH_take (i := 8) (v := ?_) rfl (by kernel_rfl) (by kernel_rfl) (by kernel_rfl) (fun _ _ _ h => h) (Or.inl ⟨by rfl, ?_⟩) hHeld ?_
      rotate_left
      · intro W hS
        try dsimp only at hS
        go_simp
        try with_reducible rfl
      try simp only [List.getElem_toArray, List.getElem_cons_succ, List.getElem_cons_zero, Act.put, List.setIfInBounds_toArray, List.set_cons_zero, List.set_cons_succ]
      refine wpAnyH_take (i := 9) (v := ?_) rfl (by kernel_rfl) (by kernel_rfl) (by kernel_rfl) (fun _ _ _ h => h) (Or.inl ⟨by rfl, ?_⟩) hHeld ?_
      rotate_left
      · intro W hS
        try dsimp only at hS
        go_simp
        try with_reducible rfl
      try simp only [List.getElem_toArray, List.getElem_cons_succ, List.getElem_cons_zero, Act.put, List.setIfInBounds_toArray, List.set_cons_zero, List.set_cons_succ]
      refine wpAnyH_take (i := 10) (v := ?_) rfl (by kernel_rfl) (by kernel_rfl) (by kernel_rfl) (fun _ _ _ h => h) (Or.inl ⟨by rfl, ?_⟩) hHeld ?_
      rotate_left
      · intro W hS
        try dsimp only at hS
        go_simp
        try with_reducible rfl
      try simp only [List.getElem_toArray, List.getElem_cons_succ, List.getElem_cons_zero, Act.put, List.setIfInBounds_toArray, List.set_cons_zero, List.set_cons_succ]
      refine wpAnyH_take (i := 11) (v := ?_) rfl (by kernel_rfl) (by kernel_rfl) (by kernel_rfl) (fun _ _ _ h => h) (Or.inl ⟨by rfl, ?_⟩) hHeld ?_
      rotate_left
      · intro W hS
        try dsimp only at hS
        go_simp
        try with_reducible rfl
      try simp only [List.getElem_toArray, List.getElem_cons_succ, List.getElem_cons_zero, Act.put, List.setIfInBounds_toArray, List.set_cons_zero, List.set_cons_succ]
      refine wpAnyH_take (i := 12) (v := ?_) rfl (by kernel_rfl) (by kernel_rfl) (by kernel_rfl) (fun _ _ _ h => h) (Or.inl ⟨by rfl, ?_⟩) hHeld ?_
      rotate_left
      · intro W hS
        try dsimp only at hS
        go_simp
        try with_reducible rfl
      try simp only [List.getElem_toArray, List.getElem_cons_succ, List.getElem_cons_zero, Act.put, List.setIfInBounds_toArray, List.set_cons_zero, List.set_cons_succ]
      refine wpAnyH_ready (rs := [6, 13]) (by kernel_rfl) (by simp) ?_
      refine (AllReadyH.cons rfl (fun K hK => ?_) (AllReadyH.cons rfl (fun K hK => ?_) AllReadyH.nil))
      · go_simp
        refine hK.out _ _ (keepS (hHeld.1.alloc hHeld.1.size _) C0.out C1.out) (fun hHeld => ?_)
        clear hK K
        try simp only [List.getElem_toArray, List.getElem_cons_succ, List.getElem_cons_zero, Act.put, List.setIfInBounds_toArray, List.set_cons_zero, List.set_cons_succ]
        refine wpAnyH_ready (rs := [7, 13]) (by kernel_rfl) (by simp) ?_
        refine (AllReadyH.cons rfl (fun K hK => ?_) (AllReadyH.cons rfl (fun K hK => ?_) AllReadyH.nil))
        · go_simp
          refine (rint_cell (hacc.below hHeld.1) hHeld.1.size (by simp) HP.out.1 (by omega)).mono ?_
          rintro e w6 ⟨A6, r6, q6, rfl, hR6, hr6, hb⟩
          have hs6 : r6 ≤ 900000000 := by omega
          refine hK.out _ _ (keepS (below_after hHeld.1 hb hHeld.1.size) C0.out C1.out) (fun hHeld => ?_)
          clear hK K
          try simp only [List.getElem_toArray, List.getElem_cons_succ, List.getElem_cons_zero, Act.put, List.setIfInBounds_toArray, List.set_cons_zero, List.set_cons_succ]
          refine wpAnyH_ready (rs := [13]) (by kernel_rfl) (by simp) ?_
          refine (AllReadyH.cons rfl (fun K hK => ?_) AllReadyH.nil)
          go_simp
          refine hK.out _ _ (keepS (hHeld.1.alloc hHeld.1.size _) C0.out C1.out) (fun hHeld => ?_)
          clear hK K
          try simp only [List.getElem_toArray, List.getElem_cons_succ, List.getElem_cons_zero, Act.put, List.setIfInBounds_toArray, List.set_cons_zero, List.set_cons_succ]
          refine wpAnyH_ready (rs := [14]) (by kernel_rfl) (by simp) ?_
          refine (AllReadyH.cons rfl (fun K hK => ?_) AllReadyH.nil)
          go_simp
          have hsz := hHeld.1.size
          refine (rword_cell (hR6.alloc (Nat.le_refl _) _) (by simp) (by simp) HP.out.2 (by omega)).mono ?_
          rintro e w7 ⟨v7, rfl, hown7, hb⟩
          refine hK.out _ _ (keepS (below_after hHeld.1 hb hHeld.1.size) C0.out C1.out) (fun hHeld => ?_)
          clear hK K
          try simp only [List.getElem_toArray, List.getElem_cons_succ, List.getElem_cons_zero, Act.put, List.setIfInBounds_toArray, List.set_cons_zero, List.set_cons_succ]
          refine wpAnyH_take (i := 15) (v := ?_) rfl (by kernel_rfl) (by kernel_rfl) (by kernel_rfl) (fun _ _ _ h => h) (Or.inl ⟨by rfl, ?_⟩) hHeld ?_
          rotate_left
          · intro W hS
            try dsimp only at hS
            go_simp
            try with_reducible rfl
          try simp only [List.getElem_toArray, List.getElem_cons_succ, List.getElem_cons_zero, Act.put, List.setIfInBounds_toArray, List.set_cons_zero, List.set_cons_succ]
          refine wpAnyH_done (by kernel_rfl) ?_ _
          have HBW : Below w.heap.size w w7 := HB5.out.trans (hHeld.1.mono HB5.out.size)
          have hownw := own_le hown7 (base' := w.heap.size) (by have h1 := HB5.out.size; have h2 := hsz; first | omega | (simp at h2 ⊢; omega))
          rw [List.append_assoc, ← HACC.out] at hownw
          clear hown7 hHeld hR6
          go_wp2_with fail
          go_roundw
          case rel => exact ⟨k + 1, by omega, by go_num, hownw, HBW⟩
          case measure => simp [intOf]; omega
        · go_simp
          refine hK.out _ _ (keepS (hHeld.1.alloc hHeld.1.size _) C0.out C1.out) (fun hHeld => ?_)
          clear hK K
          try simp only [List.getElem_toArray, List.getElem_cons_succ, List.getElem_cons_zero, Act.put, List.setIfInBounds_toArray, List.set_cons_zero, List.set_cons_succ]
          refine wpAnyH_ready (rs := [7]) (by kernel_rfl) (by simp) ?_
          refine (AllReadyH.cons rfl (fun K hK => ?_) AllReadyH.nil)
          go_simp
          refine (rint_cell (hacc.below hHeld.1) hHeld.1.size (by simp) HP.out.1 (by omega)).mono ?_
          rintro e w6 ⟨A6, r6, q6, rfl, hR6, hr6, hb⟩
          have hs6 : r6 ≤ 900000000 := by omega
          have hcx := (bcell hb).1
          refine hK.out _ _ (keepS (below_after hHeld.1 hb hHeld.1.size) C0.out C1.out) (fun hHeld => ?_)
          clear hK K
          try simp only [List.getElem_toArray, List.getElem_cons_succ, List.getElem_cons_zero, Act.put, List.setIfInBounds_toArray, List.set_cons_zero, List.set_cons_succ]
          refine wpAnyH_ready (rs := [14]) (by kernel_rfl) (by simp) ?_
          refine (AllReadyH.cons rfl (fun K hK => ?_) AllReadyH.nil)
          go_simp
          have hsz := hHeld.1.size
          refine (rword_cell (hR6) (Nat.le_refl _) (by rw [hcx _ _ (by simp; try omega)]; simp) HP.out.2 (by omega)).mono ?_
          rintro e w7 ⟨v7, rfl, hown7, hb⟩
          refine hK.out _ _ (keepS (below_after hHeld.1 hb hHeld.1.size) C0.out C1.out) (fun hHeld => ?_)
          clear hK K
          try simp only [List.getElem_toArray, List.getElem_cons_succ, List.getElem_cons_zero, Act.put, List.setIfInBounds_toArray, List.set_cons_zero, List.set_cons_succ]
          refine wpAnyH_take (i := 15) (v := ?_) rfl (by kernel_rfl) (by kernel_rfl) (by kernel_rfl) (fun _ _ _ h => h) (Or.inl ⟨by rfl, ?_⟩) hHeld ?_
          rotate_left
          · intro W hS
            try dsimp only at hS
            go_simp
            try with_reducible rfl
          try simp only [List.getElem_toArray, List.getElem_cons_succ, List.getElem_cons_zero, Act.put, List.setIfInBounds_toArray, List.set_cons_zero, List.set_cons_succ]
          refine wpAnyH_done (by kernel_rfl) ?_ _
          have HBW : Below w.heap.size w w7 := HB5.out.trans (hHeld.1.mono HB5.out.size)
          have hownw := own_le hown7 (base' := w.heap.size) (by have h1 := HB5.out.size; have h2 := hsz; first | omega | (simp at h2 ⊢; omega))
          rw [List.append_assoc, ← HACC.out] at hownw
          clear hown7 hHeld hR6
          go_wp2_with fail
          go_roundw
          case rel => exact ⟨k + 1, by omega, by go_num, hownw, HBW⟩
          case measure => simp [intOf]; omega
      · go_simp
        refine hK.out _ _ (keepS (hHeld.1.alloc hHeld.1.size _) C0.out C1.out) (fun hHeld => ?_)
        clear hK K
        try simp only [List.getElem_toArray, List.getElem_cons_succ, List.getElem_cons_zero, Act.put, List.setIfInBounds_toArray, List.set_cons_zero, List.set_cons_succ]
        refine wpAnyH_ready (rs := [6]) (by kernel_rfl) (by simp) ?_
        refine (AllReadyH.cons rfl (fun K hK => ?_) AllReadyH.nil)
        go_simp
        refine hK.out _ _ (keepS (hHeld.1.alloc hHeld.1.size _) C0.out C1.out) (fun hHeld => ?_)
        clear hK K
        try simp only [List.getElem_toArray, List.getElem_cons_succ, List.getElem_cons_zero, Act.put, List.setIfInBounds_toArray, List.set_cons_zero, List.set_cons_succ]
        refine wpAnyH_ready (rs := [7]) (by kernel_rfl) (by simp) ?_
        refine (AllReadyH.cons rfl (fun K hK => ?_) AllReadyH.nil)
        go_simp
        refine (rint_cell (hacc.below hHeld.1) hHeld.1.size (by simp) HP.out.1 (by omega)).mono ?_
        rintro e w6 ⟨A6, r6, q6, rfl, hR6, hr6, hb⟩
        have hs6 : r6 ≤ 900000000 := by omega
        have hcx := (bcell hb).1
        refine hK.out _ _ (keepS (below_after hHeld.1 hb hHeld.1.size) C0.out C1.out) (fun hHeld => ?_)
        clear hK K
        try simp only [List.getElem_toArray, List.getElem_cons_succ, List.getElem_cons_zero, Act.put, List.setIfInBounds_toArray, List.set_cons_zero, List.set_cons_succ]
        refine wpAnyH_ready (rs := [14]) (by kernel_rfl) (by simp) ?_
        refine (AllReadyH.cons rfl (fun K hK => ?_) AllReadyH.nil)
        go_simp
        have hsz := hHeld.1.size
        refine (rword_cell (hR6) (Nat.le_refl _) (by rw [hcx _ _ (by simp; try omega)]; simp) HP.out.2 (by omega)).mono ?_
        rintro e w7 ⟨v7, rfl, hown7, hb⟩
        refine hK.out _ _ (keepS (below_after hHeld.1 hb hHeld.1.size) C0.out C1.out) (fun hHeld => ?_)
        clear hK K
        try simp only [List.getElem_toArray, List.getElem_cons_succ, List.getElem_cons_zero, Act.put, List.setIfInBounds_toArray, List.set_cons_zero, List.set_cons_succ]
        refine wpAnyH_take (i := 15) (v := ?_) rfl (by kernel_rfl) (by kernel_rfl) (by kernel_rfl) (fun _ _ _ h => h) (Or.inl ⟨by rfl, ?_⟩) hHeld ?_
        rotate_left
        · intro W hS
          try dsimp only at hS
          go_simp
          try with_reducible rfl
        try simp only [List.getElem_toArray, List.getElem_cons_succ, List.getElem_cons_zero, Act.put, List.setIfInBounds_toArray, List.set_cons_zero, List.set_cons_succ]
        refine wpAnyH_done (by kernel_rfl) ?_ _
        have HBW : Below w.heap.size w w7 := HB5.out.trans (hHeld.1.mono HB5.out.size)
        have hownw := own_le hown7 (base' := w.heap.size) (by have h1 := HB5.out.size; have h2 := hsz; first | omega | (simp at h2 ⊢; omega))
        rw [List.append_assoc, ← HACC.out] at hownw
        clear hown7 hHeld hR6
        go_wp2_with fail
        go_roundw
        case rel => exact ⟨k + 1, by omega, by go_num, hownw, HBW⟩
        case measure => simp [intOf]; omega
    · have hkm : k = m := by omega
      subst hkm
      rw [pacc_all xs l k HL.out] at hown
      go_wp2_with fail
      go_ret
      exact ⟨_, rfl, hown, hb⟩
end Go.Proofs.Ytejijghghbicdaa
