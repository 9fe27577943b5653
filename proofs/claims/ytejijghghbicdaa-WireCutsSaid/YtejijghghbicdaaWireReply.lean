/-
  Reply and Batch, wire's and the reference's, by contracts: the bytes, or that there are none.
-/
import Derived.Test.YtejijghghbicdaaWirePairs
import Derived.Outline
namespace Go.Proofs.Ytejijghghbicdaa
open Go.RowKit
set_option linter.unusedSimpArgs false
set_option linter.unusedVariables false

def repB (id e : Int) (d : Bool) (l : List Pr) : Bool := decide (0 ≤ id) && decide (0 ≤ e ∧ e ≤ 255) && riseB l && (decide (e = 0) || (!d && l.isEmpty))
def bitI (d : Bool) : Int := if d then 1 else 0
def repBytes (id e : Int) (d : Bool) (l : List Pr) : List Nat := encs ([id, e, bitI d].map nat0) ++ prsBytes l
def batB (r s : Int) (l : List Pr) : Bool := decide (0 ≤ r) && decide (0 ≤ s) && riseB l
def batBytes (r s : Int) (l : List Pr) : List Nat := encs ([r, s].map nat0) ++ prsBytes l
theorem cells3 {W : World} {g : Nat} {a b c : Value} (h0 : W.cell? ⟨g, 0, none⟩ = some a) (h1 : W.cell? ⟨g, 1, none⟩ = some b) (h2 : W.cell? ⟨g, 2, none⟩ = some c) : Reads W W.heap.size 1 (some ⟨g, 0, none⟩) 3 [a, b, c] :=
  ⟨rfl, fun _ => ⟨_, rfl, World.block_lt_of_cell? W _ h0, fun j u hu => by
    match j with
    | 0 => simp at hu; subst hu; simpa [Addr.add] using h0
    | 1 => simp at hu; subst hu; simpa [Addr.add] using h1
    | 2 => simp at hu; subst hu; simpa [Addr.add] using h2
    | j + 3 => simp at hu⟩⟩
theorem cells2 {W : World} {g : Nat} {a b : Value} (h0 : W.cell? ⟨g, 0, none⟩ = some a) (h1 : W.cell? ⟨g, 1, none⟩ = some b) : Reads W W.heap.size 1 (some ⟨g, 0, none⟩) 2 [a, b] :=
  ⟨rfl, fun _ => ⟨_, rfl, World.block_lt_of_cell? W _ h0, fun j u hu => by
    match j with
    | 0 => simp at hu; subst hu; simpa [Addr.add] using h0
    | 1 => simp at hu; subst hu; simpa [Addr.add] using h1
    | j + 2 => simp at hu⟩⟩
theorem in64_small {z : Int} (h : 0 ≤ z ∧ z ≤ 1000) : IN64 z := by unfold IN64; omega
theorem in64_bit (d : Bool) : IN64 (bitI d) := by cases d <;> (unfold bitI IN64; simp)
theorem int3 {W : World} {g c2 : Nat} {a b c : Int} (h0 : W.cell? ⟨g, 0, none⟩ = some (.int .i64 a)) (h1 : W.cell? ⟨g, 1, none⟩ = some (.int .i64 b)) (h2 : W.cell? ⟨g, 2, none⟩ = some (.int .i64 c)) (i0 : IN64 a) (i1 : IN64 b) (i2 : IN64 c) :
    Calls Try.prog 19 #[.slice none 0 0, .slice (some ⟨g, 0, none⟩) 3 c2] W fun e w' => ∃ A r q, e = .returned (.slice A r q) ∧ Reads w' w'.heap.size 1 A r (u8s (encs ([a, b, c].map nat0))) ∧ r ≤ 30 ∧ Below W.heap.size W w' := by
  refine (int_any (B := W.heap.size) (xs := []) (zs := [a, b, c]) W (reads_nil _ _ _) (cells3 h0 h1 h2) (Nat.le_refl _) (by intro y hy; simp at hy; rcases hy with rfl | rfl | rfl <;> assumption) (by omega) (by omega)).mono ?_
  rintro e w' ⟨v, rfl, hown, hb⟩
  rw [List.nil_append] at hown
  obtain ⟨A, q, rfl⟩ := own_form hown
  refine ⟨_, _, _, rfl, Reads.of_own hown, ?_, hb⟩
  have := encs_len ([a, b, c].map nat0) (by intro y hy; simp at hy; rcases hy with rfl | rfl | rfl <;> (apply nat0_w; assumption))
  simpa using this
theorem rint3 {W : World} {g c2 : Nat} {a b c : Int} (h0 : W.cell? ⟨g, 0, none⟩ = some (.int .i64 a)) (h1 : W.cell? ⟨g, 1, none⟩ = some (.int .i64 b)) (h2 : W.cell? ⟨g, 2, none⟩ = some (.int .i64 c)) (i0 : IN64 a) (i1 : IN64 b) (i2 : IN64 c) :
    Calls Try.prog 21 #[.slice none 0 0, .slice (some ⟨g, 0, none⟩) 3 c2] W fun e w' => ∃ A r q, e = .returned (.slice A r q) ∧ Reads w' w'.heap.size 1 A r (u8s (encs ([a, b, c].map nat0))) ∧ r ≤ 30 ∧ Below W.heap.size W w' := by
  refine (rint_any (B := W.heap.size) (xs := []) (zs := [a, b, c]) W (reads_nil _ _ _) (cells3 h0 h1 h2) (Nat.le_refl _) (by intro y hy; simp at hy; rcases hy with rfl | rfl | rfl <;> assumption) (by omega) (by omega)).mono ?_
  rintro e w' ⟨v, rfl, hown, hb⟩
  rw [List.nil_append] at hown
  obtain ⟨A, q, rfl⟩ := own_form hown
  refine ⟨_, _, _, rfl, Reads.of_own hown, ?_, hb⟩
  have := encs_len ([a, b, c].map nat0) (by intro y hy; simp at hy; rcases hy with rfl | rfl | rfl <;> (apply nat0_w; assumption))
  simpa using this
theorem int2 {W : World} {g c2 : Nat} {a b : Int} (h0 : W.cell? ⟨g, 0, none⟩ = some (.int .i64 a)) (h1 : W.cell? ⟨g, 1, none⟩ = some (.int .i64 b)) (i0 : IN64 a) (i1 : IN64 b) :
    Calls Try.prog 19 #[.slice none 0 0, .slice (some ⟨g, 0, none⟩) 2 c2] W fun e w' => ∃ A r q, e = .returned (.slice A r q) ∧ Reads w' w'.heap.size 1 A r (u8s (encs ([a, b].map nat0))) ∧ r ≤ 20 ∧ Below W.heap.size W w' := by
  refine (int_any (B := W.heap.size) (xs := []) (zs := [a, b]) W (reads_nil _ _ _) (cells2 h0 h1) (Nat.le_refl _) (by intro y hy; simp at hy; rcases hy with rfl | rfl <;> assumption) (by omega) (by omega)).mono ?_
  rintro e w' ⟨v, rfl, hown, hb⟩
  rw [List.nil_append] at hown
  obtain ⟨A, q, rfl⟩ := own_form hown
  refine ⟨_, _, _, rfl, Reads.of_own hown, ?_, hb⟩
  have := encs_len ([a, b].map nat0) (by intro y hy; simp at hy; rcases hy with rfl | rfl <;> (apply nat0_w; assumption))
  simpa using this
theorem rint2 {W : World} {g c2 : Nat} {a b : Int} (h0 : W.cell? ⟨g, 0, none⟩ = some (.int .i64 a)) (h1 : W.cell? ⟨g, 1, none⟩ = some (.int .i64 b)) (i0 : IN64 a) (i1 : IN64 b) :
    Calls Try.prog 21 #[.slice none 0 0, .slice (some ⟨g, 0, none⟩) 2 c2] W fun e w' => ∃ A r q, e = .returned (.slice A r q) ∧ Reads w' w'.heap.size 1 A r (u8s (encs ([a, b].map nat0))) ∧ r ≤ 20 ∧ Below W.heap.size W w' := by
  refine (rint_any (B := W.heap.size) (xs := []) (zs := [a, b]) W (reads_nil _ _ _) (cells2 h0 h1) (Nat.le_refl _) (by intro y hy; simp at hy; rcases hy with rfl | rfl <;> assumption) (by omega) (by omega)).mono ?_
  rintro e w' ⟨v, rfl, hown, hb⟩
  rw [List.nil_append] at hown
  obtain ⟨A, q, rfl⟩ := own_form hown
  refine ⟨_, _, _, rfl, Reads.of_own hown, ?_, hb⟩
  have := encs_len ([a, b].map nat0) (by intro y hy; simp at hy; rcases hy with rfl | rfl <;> (apply nat0_w; assumption))
  simpa using this

set_option maxHeartbeats 400000 in
theorem bit_any (d : Bool) (w : World) : Calls Try.prog 55 #[.bool d] w fun e w' => e = .returned (.int .i64 (bitI d)) ∧ w = w' := by
  cases d
  · go_enter Try.func55, Try.ntmps55
    go_wp2
    go_ret
    exact ⟨rfl, rfl⟩
  · go_enter Try.func55, Try.ntmps55
    go_wp2
    go_ret
    exact ⟨rfl, rfl⟩
theorem keepK {w W : World} {g : Nat} {t : TypeId} {cs : Array Value} (k : Blk w g t cs) (hb : Below w.heap.size w W) : Below w.heap.size w W ∧ (∀ i, W.cell? ⟨g, i, none⟩ = cs[i]?) := ⟨hb, (k.below hb k.lt).c⟩

set_option maxHeartbeats 1000000 in
theorem rep_no_id {m c : Nat} {A : Option Addr} (id e : Int) (d : Bool) (w : World) (h : id < 0) : Calls Try.prog 36 #[.agg #[.int .i64 id, .int .i64 e, .bool d, .slice A m c]] w fun e w' => e = .returned (.tuple #[.slice none 0 0, .int .i64 1]) ∧ Below w.heap.size w w' := by
  go_enter Try.func36, Try.ntmps36
  go_wp2_with fail
  all_goals
    go_ret2
    exact ⟨rfl, (Below.refl _ _).alloc (Nat.le_refl _) _⟩

set_option maxHeartbeats 1000000 in
theorem rep_no_e0 {m c : Nat} {A : Option Addr} (id e : Int) (d : Bool) (w : World) (h0 : ¬ id < 0) (h : e < 0) : Calls Try.prog 36 #[.agg #[.int .i64 id, .int .i64 e, .bool d, .slice A m c]] w fun e w' => e = .returned (.tuple #[.slice none 0 0, .int .i64 1]) ∧ Below w.heap.size w w' := by
  go_enter Try.func36, Try.ntmps36
  go_wp2_with fail
  all_goals
    go_ret2
    exact ⟨rfl, (Below.refl _ _).alloc (Nat.le_refl _) _⟩

set_option maxHeartbeats 1000000 in
theorem rep_no_e1 {m c : Nat} {A : Option Addr} (id e : Int) (d : Bool) (w : World) (h0 : ¬ id < 0) (h1 : ¬ e < 0) (h : 255 < e) : Calls Try.prog 36 #[.agg #[.int .i64 id, .int .i64 e, .bool d, .slice A m c]] w fun e w' => e = .returned (.tuple #[.slice none 0 0, .int .i64 1]) ∧ Below w.heap.size w w' := by
  go_enter Try.func36, Try.ntmps36
  go_wp2_with fail
  all_goals
    go_ret2
    exact ⟨rfl, (Below.refl _ _).alloc (Nat.le_refl _) _⟩

set_option maxRecDepth 100000 in
set_option maxHeartbeats 2000000 in
theorem rep_no_rise {B m c : Nat} {A : Option Addr} {l : List Pr} (id e : Int) (d : Bool) (w : World) (hl : Reads w B 2 A m (prCells l)) (hB : B ≤ w.heap.size) (hm : m ≤ 1000000) (h0 : ¬ id < 0) (h1 : ¬ e < 0) (h2 : ¬ 255 < e) (hri : riseB l = false) : Calls Try.prog 36 #[.agg #[.int .i64 id, .int .i64 e, .bool d, .slice A m c]] w fun e w' => e = .returned (.tuple #[.slice none 0 0, .int .i64 1]) ∧ Below w.heap.size w w' := by
  have HRI := Lib.hid hri
  clear hri
  go_enter Try.func36, Try.ntmps36
  go_wp2_with fail
  refine (rise_any (B := B) _ (hl.alloc hB _) (by simp; omega) hm).mono ?_
  rw [HRI.out]
  rintro en w1 ⟨rfl, hb⟩
  have K0 := Blk.on (g := w.heap.size) (t := 59) (cs := #[.int .i64 id, .int .i64 e, .bool d, .slice A m c]) (by repeat (first | exact Blk.at_ _ _ _ (by simp) | refine Blk.alloc ?_ _)) hb
  have HB := below_after ((Below.refl w.heap.size w).alloc (Nat.le_refl _) _) hb (by simp)
  have HL1 := Lib.hid (hl.below (HB.mono hB))
  have c0 := K0.c
  have z0 := K0.lt
  clear hb
  go_wp2_with fail
  go_ret2
  exact ⟨rfl, HB⟩

set_option maxRecDepth 100000 in
set_option maxHeartbeats 2000000 in
theorem rep_no_done {B m c : Nat} {A : Option Addr} {l : List Pr} (id e : Int) (w : World) (hl : Reads w B 2 A m (prCells l)) (hB : B ≤ w.heap.size) (hm : m ≤ 1000000) (h0 : ¬ id < 0) (h1 : ¬ e < 0) (h2 : ¬ 255 < e) (hri : riseB l = true) (he : ¬ e = 0) : Calls Try.prog 36 #[.agg #[.int .i64 id, .int .i64 e, .bool true, .slice A m c]] w fun e w' => e = .returned (.tuple #[.slice none 0 0, .int .i64 1]) ∧ Below w.heap.size w w' := by
  have he2 : (e != 0) = true := by simpa using he
  clear he
  have HRI := Lib.hid hri
  clear hri
  go_enter Try.func36, Try.ntmps36
  go_wp2_with fail
  refine (rise_any (B := B) _ (hl.alloc hB _) (by simp; omega) hm).mono ?_
  rw [HRI.out]
  rintro en w1 ⟨rfl, hb⟩
  have K0 := Blk.on (g := w.heap.size) (t := 59) (cs := #[.int .i64 id, .int .i64 e, .bool true, .slice A m c]) (by repeat (first | exact Blk.at_ _ _ _ (by simp) | refine Blk.alloc ?_ _)) hb
  have HB := below_after ((Below.refl w.heap.size w).alloc (Nat.le_refl _) _) hb (by simp)
  have HL1 := Lib.hid (hl.below (HB.mono hB))
  have c0 := K0.c
  have z0 := K0.lt
  clear hb
  go_wp2_with fail
  go_ret2
  exact ⟨rfl, HB⟩

set_option maxRecDepth 100000 in
set_option maxHeartbeats 2000000 in
theorem rep_no_some {B m c : Nat} {A : Option Addr} {l : List Pr} (id e : Int) (w : World) (hl : Reads w B 2 A m (prCells l)) (hB : B ≤ w.heap.size) (hm : m ≤ 1000000) (h0 : ¬ id < 0) (h1 : ¬ e < 0) (h2 : ¬ 255 < e) (hri : riseB l = true) (he : ¬ e = 0) (hm0 : 0 < m) : Calls Try.prog 36 #[.agg #[.int .i64 id, .int .i64 e, .bool false, .slice A m c]] w fun e w' => e = .returned (.tuple #[.slice none 0 0, .int .i64 1]) ∧ Below w.heap.size w w' := by
  have he2 : (e != 0) = true := by simpa using he
  clear he
  have HRI := Lib.hid hri
  clear hri
  go_enter Try.func36, Try.ntmps36
  go_wp2_with fail
  refine (rise_any (B := B) _ (hl.alloc hB _) (by simp; omega) hm).mono ?_
  rw [HRI.out]
  rintro en w1 ⟨rfl, hb⟩
  have K0 := Blk.on (g := w.heap.size) (t := 59) (cs := #[.int .i64 id, .int .i64 e, .bool false, .slice A m c]) (by repeat (first | exact Blk.at_ _ _ _ (by simp) | refine Blk.alloc ?_ _)) hb
  have HB := below_after ((Below.refl w.heap.size w).alloc (Nat.le_refl _) _) hb (by simp)
  have HL1 := Lib.hid (hl.below (HB.mono hB))
  have c0 := K0.c
  have z0 := K0.lt
  clear hb
  go_wp2_with fail
  go_ret2
  exact ⟨rfl, HB⟩

set_option maxRecDepth 100000 in
set_option maxHeartbeats 2000000 in
theorem rep_yes_false {B m c : Nat} {A : Option Addr} {l : List Pr} (id : Int) (w : World) (hl : Reads w B 2 A m (prCells l)) (hB : B ≤ w.heap.size) (hm : m ≤ 1000000) (hid : IN64 id) (hpok : ∀ p ∈ l, p.ok) (h0 : ¬ id < 0) (hri : riseB l = true) : Calls Try.prog 36 #[.agg #[.int .i64 id, .int .i64 0, .bool false, .slice A m c]] w fun en w' => ∃ v, en = .returned (.tuple #[v, .int .i64 0]) ∧ w'.ownsRow w.heap.size 5 1 v (repBytes id 0 false l).length (u8s (repBytes id 0 false l)) ∧ Below w.heap.size w w' := by
  have HRI := Lib.hid hri
  clear hri
  go_enter Try.func36, Try.ntmps36
  go_wp2_with fail
  refine (rise_any (B := B) _ (hl.alloc hB _) (by simp; omega) hm).mono ?_
  rw [HRI.out]
  rintro en w1 ⟨rfl, hb⟩
  have K0 := Blk.on (g := w.heap.size) (t := 59) (cs := #[.int .i64 id, .int .i64 0, .bool false, .slice A m c]) (by repeat (first | exact Blk.at_ _ _ _ (by simp) | refine Blk.alloc ?_ _)) hb
  have HB := below_after ((Below.refl w.heap.size w).alloc (Nat.le_refl _) _) hb (by simp)
  have HL1 := Lib.hid (hl.below (HB.mono hB))
  have c0 := K0.c
  have z0 := K0.lt
  clear hb
  go_wp2_with fail
  have KK := Lib.hid K0
  clear c0 K0
  refine wp_region_held_drew (S := (fun W => Below w1.heap.size w1 W ∧ (∀ i, W.cell? ⟨w.heap.size, i, none⟩ = #[.int .i64 id, .int .i64 0, .bool false, .slice A m c][i]?))) (by kernel_rfl) (⟨(Below.refl _ _).drew, KK.out.c⟩) (fun hHeld => ?_)
  refine wpAnyH_take (i := 0) (v := ?_) rfl (by kernel_rfl) (by kernel_rfl) (by kernel_rfl) (fun _ _ _ h => h) (Or.inl ⟨by rfl, ?_⟩) hHeld ?_
  rotate_left
  · intro W hS
    try dsimp only at hS
    go_simp
    try with_reducible rfl
  try simp only [List.getElem_toArray, List.getElem_cons_succ, List.getElem_cons_zero, Act.put, List.setIfInBounds_toArray, List.set_cons_zero, List.set_cons_succ]
  refine wpAnyH_take (i := 1) (v := ?_) rfl (by kernel_rfl) (by kernel_rfl) (by kernel_rfl) (fun _ _ _ h => h) (Or.inl ⟨by rfl, ?_⟩) hHeld ?_
  rotate_left
  · intro W hS
    try dsimp only at hS
    go_simp
    try with_reducible rfl
  try simp only [List.getElem_toArray, List.getElem_cons_succ, List.getElem_cons_zero, Act.put, List.setIfInBounds_toArray, List.set_cons_zero, List.set_cons_succ]
  refine wpAnyH_take (i := 2) (v := ?_) rfl (by kernel_rfl) (by kernel_rfl) (by kernel_rfl) (fun _ _ _ h => h) (Or.inl ⟨by rfl, ?_⟩) hHeld ?_
  rotate_left
  · intro W hS
    try dsimp only at hS
    go_simp
    try with_reducible rfl
  try simp only [List.getElem_toArray, List.getElem_cons_succ, List.getElem_cons_zero, Act.put, List.setIfInBounds_toArray, List.set_cons_zero, List.set_cons_succ]
  refine wpAnyH_take (i := 3) (v := ?_) rfl (by kernel_rfl) (by kernel_rfl) (by kernel_rfl) (fun _ _ _ h => h) (Or.inl ⟨by rfl, ?_⟩) hHeld ?_
  rotate_left
  · intro W hS
    try dsimp only at hS
    go_simp
    try with_reducible rfl
  try simp only [List.getElem_toArray, List.getElem_cons_succ, List.getElem_cons_zero, Act.put, List.setIfInBounds_toArray, List.set_cons_zero, List.set_cons_succ]
  refine wpAnyH_take (i := 4) (v := ?_) rfl (by kernel_rfl) (by kernel_rfl) (by kernel_rfl) (fun _ _ _ h => h) (Or.inl ⟨by rfl, ?_⟩) hHeld ?_
  rotate_left
  · intro W hS
    try dsimp only at hS
    go_simp
    try with_reducible rfl
  try simp only [List.getElem_toArray, List.getElem_cons_succ, List.getElem_cons_zero, Act.put, List.setIfInBounds_toArray, List.set_cons_zero, List.set_cons_succ]
  refine wpAnyH_take (i := 5) (v := ?_) rfl (by kernel_rfl) (by kernel_rfl) (by kernel_rfl) (fun _ _ _ h => h) (Or.inl ⟨by rfl, ?_⟩) hHeld ?_
  rotate_left
  · intro W hS
    try dsimp only at hS
    go_simp
    try with_reducible rfl
  try simp only [List.getElem_toArray, List.getElem_cons_succ, List.getElem_cons_zero, Act.put, List.setIfInBounds_toArray, List.set_cons_zero, List.set_cons_succ]
  refine wpAnyH_take (i := 9) (v := ?_) rfl (by kernel_rfl) (by kernel_rfl) (by kernel_rfl) (fun _ _ _ h => h) (Or.inl ⟨by rfl, ?_⟩) hHeld ?_
  rotate_left
  · intro W hS
    try dsimp only at hS
    go_simp
    try with_reducible rfl
  try simp only [List.getElem_toArray, List.getElem_cons_succ, List.getElem_cons_zero, Act.put, List.setIfInBounds_toArray, List.set_cons_zero, List.set_cons_succ]
  refine wpAnyH_take (i := 10) (v := ?_) rfl (by kernel_rfl) (by kernel_rfl) (by kernel_rfl) (fun _ _ _ h => h) (Or.inl ⟨by rfl, ?_⟩) hHeld ?_
  rotate_left
  · intro W hS
    try dsimp only at hS
    go_simp
    try with_reducible rfl
  try simp only [List.getElem_toArray, List.getElem_cons_succ, List.getElem_cons_zero, Act.put, List.setIfInBounds_toArray, List.set_cons_zero, List.set_cons_succ]
  refine wpAnyH_ready (rs := [6]) (by kernel_rfl) (by simp) ?_
  refine (AllReadyH.cons rfl (fun K hK => ?_) AllReadyH.nil)
  go_simp
  refine (bit_any _ _).mono ?_
  rintro en w2 ⟨rfl, rfl⟩
  refine hK.out _ _ (hHeld) (fun hHeld => ?_)
  clear hK K
  try simp only [List.getElem_toArray, List.getElem_cons_succ, List.getElem_cons_zero, Act.put, List.setIfInBounds_toArray, List.set_cons_zero, List.set_cons_succ]
  refine wpAnyH_ready (rs := [7]) (by kernel_rfl) (by simp) ?_
  refine (AllReadyH.cons rfl (fun K hK => ?_) AllReadyH.nil)
  go_simp
  refine hK.out _ _ (keepK KK.out (hHeld.1.alloc hHeld.1.size _)) (fun hHeld => ?_)
  clear hK K
  try simp only [List.getElem_toArray, List.getElem_cons_succ, List.getElem_cons_zero, Act.put, List.setIfInBounds_toArray, List.set_cons_zero, List.set_cons_succ]
  refine wpAnyH_ready (rs := [8]) (by kernel_rfl) (by simp) ?_
  refine (AllReadyH.cons rfl (fun K hK => ?_) AllReadyH.nil)
  go_simp
  refine (int3 (a := id) (b := 0) (c := bitI false) (by simp) (by simp) (by simp) hid (in64_small (by omega)) (in64_bit _)).mono ?_
  rintro en w3 ⟨A3, r3, q3, rfl, hR3, hr3, hb⟩
  refine hK.out _ _ (keepK KK.out (below_after hHeld.1 hb hHeld.1.size)) (fun hHeld => ?_)
  clear hK K
  try simp only [List.getElem_toArray, List.getElem_cons_succ, List.getElem_cons_zero, Act.put, List.setIfInBounds_toArray, List.set_cons_zero, List.set_cons_succ]
  refine wpAnyH_ready (rs := [11]) (by kernel_rfl) (by simp) ?_
  refine (AllReadyH.cons rfl (fun K hK => ?_) AllReadyH.nil)
  have hsz := hHeld.1.size
  go_simp
  refine (pairs_any (B := w3.heap.size) _ hR3 ((HL1.out.below (hHeld.1.mono (by have := HB.size; omega))).more (by have h1 := hsz; have h2 := HB.size; first | omega | (simp at h1 ⊢; omega))) (Nat.le_refl _) hpok (by omega) hm).mono ?_
  rintro en w4 ⟨v4, rfl, hown4, hb⟩
  refine hK.out _ _ (keepK KK.out (below_after hHeld.1 hb hHeld.1.size)) (fun hHeld => ?_)
  clear hK K
  try simp only [List.getElem_toArray, List.getElem_cons_succ, List.getElem_cons_zero, Act.put, List.setIfInBounds_toArray, List.set_cons_zero, List.set_cons_succ]
  refine wpAnyH_take (i := 12) (v := ?_) rfl (by kernel_rfl) (by kernel_rfl) (by kernel_rfl) (fun _ _ _ h => h) (Or.inl ⟨by rfl, ?_⟩) hHeld ?_
  rotate_left
  · intro W hS
    try dsimp only at hS
    go_simp
    try with_reducible rfl
  try simp only [List.getElem_toArray, List.getElem_cons_succ, List.getElem_cons_zero, Act.put, List.setIfInBounds_toArray, List.set_cons_zero, List.set_cons_succ]
  refine wpAnyH_take (i := 13) (v := ?_) rfl (by kernel_rfl) (by kernel_rfl) (by kernel_rfl) (fun _ _ _ h => h) (Or.inl ⟨by rfl, ?_⟩) hHeld ?_
  rotate_left
  · intro W hS
    try dsimp only at hS
    go_simp
    try with_reducible rfl
  try simp only [List.getElem_toArray, List.getElem_cons_succ, List.getElem_cons_zero, Act.put, List.setIfInBounds_toArray, List.set_cons_zero, List.set_cons_succ]
  refine wpAnyH_done (by kernel_rfl) ?_ _
  go_wp2_with fail
  go_ret2
  exact ⟨_, rfl, own_le hown4 (by have h1 := hsz; have h2 := HB.size; first | omega | (simp at h1 ⊢; omega)), HB.trans (hHeld.1.mono HB.size)⟩

set_option maxRecDepth 100000 in
set_option maxHeartbeats 2000000 in
theorem rep_yes_true {B m c : Nat} {A : Option Addr} {l : List Pr} (id : Int) (w : World) (hl : Reads w B 2 A m (prCells l)) (hB : B ≤ w.heap.size) (hm : m ≤ 1000000) (hid : IN64 id) (hpok : ∀ p ∈ l, p.ok) (h0 : ¬ id < 0) (hri : riseB l = true) : Calls Try.prog 36 #[.agg #[.int .i64 id, .int .i64 0, .bool true, .slice A m c]] w fun en w' => ∃ v, en = .returned (.tuple #[v, .int .i64 0]) ∧ w'.ownsRow w.heap.size 5 1 v (repBytes id 0 true l).length (u8s (repBytes id 0 true l)) ∧ Below w.heap.size w w' := by
  have HRI := Lib.hid hri
  clear hri
  go_enter Try.func36, Try.ntmps36
  go_wp2_with fail
  refine (rise_any (B := B) _ (hl.alloc hB _) (by simp; omega) hm).mono ?_
  rw [HRI.out]
  rintro en w1 ⟨rfl, hb⟩
  have K0 := Blk.on (g := w.heap.size) (t := 59) (cs := #[.int .i64 id, .int .i64 0, .bool true, .slice A m c]) (by repeat (first | exact Blk.at_ _ _ _ (by simp) | refine Blk.alloc ?_ _)) hb
  have HB := below_after ((Below.refl w.heap.size w).alloc (Nat.le_refl _) _) hb (by simp)
  have HL1 := Lib.hid (hl.below (HB.mono hB))
  have c0 := K0.c
  have z0 := K0.lt
  clear hb
  go_wp2_with fail
  have KK := Lib.hid K0
  clear c0 K0
  refine wp_region_held_drew (S := (fun W => Below w1.heap.size w1 W ∧ (∀ i, W.cell? ⟨w.heap.size, i, none⟩ = #[.int .i64 id, .int .i64 0, .bool true, .slice A m c][i]?))) (by kernel_rfl) (⟨(Below.refl _ _).drew, KK.out.c⟩) (fun hHeld => ?_)
  refine wpAnyH_take (i := 0) (v := ?_) rfl (by kernel_rfl) (by kernel_rfl) (by kernel_rfl) (fun _ _ _ h => h) (Or.inl ⟨by rfl, ?_⟩) hHeld ?_
  rotate_left
  · intro W hS
    try dsimp only at hS
    go_simp
    try with_reducible rfl
  try simp only [List.getElem_toArray, List.getElem_cons_succ, List.getElem_cons_zero, Act.put, List.setIfInBounds_toArray, List.set_cons_zero, List.set_cons_succ]
  refine wpAnyH_take (i := 1) (v := ?_) rfl (by kernel_rfl) (by kernel_rfl) (by kernel_rfl) (fun _ _ _ h => h) (Or.inl ⟨by rfl, ?_⟩) hHeld ?_
  rotate_left
  · intro W hS
    try dsimp only at hS
    go_simp
    try with_reducible rfl
  try simp only [List.getElem_toArray, List.getElem_cons_succ, List.getElem_cons_zero, Act.put, List.setIfInBounds_toArray, List.set_cons_zero, List.set_cons_succ]
  refine wpAnyH_take (i := 2) (v := ?_) rfl (by kernel_rfl) (by kernel_rfl) (by kernel_rfl) (fun _ _ _ h => h) (Or.inl ⟨by rfl, ?_⟩) hHeld ?_
  rotate_left
  · intro W hS
    try dsimp only at hS
    go_simp
    try with_reducible rfl
  try simp only [List.getElem_toArray, List.getElem_cons_succ, List.getElem_cons_zero, Act.put, List.setIfInBounds_toArray, List.set_cons_zero, List.set_cons_succ]
  refine wpAnyH_take (i := 3) (v := ?_) rfl (by kernel_rfl) (by kernel_rfl) (by kernel_rfl) (fun _ _ _ h => h) (Or.inl ⟨by rfl, ?_⟩) hHeld ?_
  rotate_left
  · intro W hS
    try dsimp only at hS
    go_simp
    try with_reducible rfl
  try simp only [List.getElem_toArray, List.getElem_cons_succ, List.getElem_cons_zero, Act.put, List.setIfInBounds_toArray, List.set_cons_zero, List.set_cons_succ]
  refine wpAnyH_take (i := 4) (v := ?_) rfl (by kernel_rfl) (by kernel_rfl) (by kernel_rfl) (fun _ _ _ h => h) (Or.inl ⟨by rfl, ?_⟩) hHeld ?_
  rotate_left
  · intro W hS
    try dsimp only at hS
    go_simp
    try with_reducible rfl
  try simp only [List.getElem_toArray, List.getElem_cons_succ, List.getElem_cons_zero, Act.put, List.setIfInBounds_toArray, List.set_cons_zero, List.set_cons_succ]
  refine wpAnyH_take (i := 5) (v := ?_) rfl (by kernel_rfl) (by kernel_rfl) (by kernel_rfl) (fun _ _ _ h => h) (Or.inl ⟨by rfl, ?_⟩) hHeld ?_
  rotate_left
  · intro W hS
    try dsimp only at hS
    go_simp
    try with_reducible rfl
  try simp only [List.getElem_toArray, List.getElem_cons_succ, List.getElem_cons_zero, Act.put, List.setIfInBounds_toArray, List.set_cons_zero, List.set_cons_succ]
  refine wpAnyH_take (i := 9) (v := ?_) rfl (by kernel_rfl) (by kernel_rfl) (by kernel_rfl) (fun _ _ _ h => h) (Or.inl ⟨by rfl, ?_⟩) hHeld ?_
  rotate_left
  · intro W hS
    try dsimp only at hS
    go_simp
    try with_reducible rfl
  try simp only [List.getElem_toArray, List.getElem_cons_succ, List.getElem_cons_zero, Act.put, List.setIfInBounds_toArray, List.set_cons_zero, List.set_cons_succ]
  refine wpAnyH_take (i := 10) (v := ?_) rfl (by kernel_rfl) (by kernel_rfl) (by kernel_rfl) (fun _ _ _ h => h) (Or.inl ⟨by rfl, ?_⟩) hHeld ?_
  rotate_left
  · intro W hS
    try dsimp only at hS
    go_simp
    try with_reducible rfl
  try simp only [List.getElem_toArray, List.getElem_cons_succ, List.getElem_cons_zero, Act.put, List.setIfInBounds_toArray, List.set_cons_zero, List.set_cons_succ]
  refine wpAnyH_ready (rs := [6]) (by kernel_rfl) (by simp) ?_
  refine (AllReadyH.cons rfl (fun K hK => ?_) AllReadyH.nil)
  go_simp
  refine (bit_any _ _).mono ?_
  rintro en w2 ⟨rfl, rfl⟩
  refine hK.out _ _ (hHeld) (fun hHeld => ?_)
  clear hK K
  try simp only [List.getElem_toArray, List.getElem_cons_succ, List.getElem_cons_zero, Act.put, List.setIfInBounds_toArray, List.set_cons_zero, List.set_cons_succ]
  refine wpAnyH_ready (rs := [7]) (by kernel_rfl) (by simp) ?_
  refine (AllReadyH.cons rfl (fun K hK => ?_) AllReadyH.nil)
  go_simp
  refine hK.out _ _ (keepK KK.out (hHeld.1.alloc hHeld.1.size _)) (fun hHeld => ?_)
  clear hK K
  try simp only [List.getElem_toArray, List.getElem_cons_succ, List.getElem_cons_zero, Act.put, List.setIfInBounds_toArray, List.set_cons_zero, List.set_cons_succ]
  refine wpAnyH_ready (rs := [8]) (by kernel_rfl) (by simp) ?_
  refine (AllReadyH.cons rfl (fun K hK => ?_) AllReadyH.nil)
  go_simp
  refine (int3 (a := id) (b := 0) (c := bitI true) (by simp) (by simp) (by simp) hid (in64_small (by omega)) (in64_bit _)).mono ?_
  rintro en w3 ⟨A3, r3, q3, rfl, hR3, hr3, hb⟩
  refine hK.out _ _ (keepK KK.out (below_after hHeld.1 hb hHeld.1.size)) (fun hHeld => ?_)
  clear hK K
  try simp only [List.getElem_toArray, List.getElem_cons_succ, List.getElem_cons_zero, Act.put, List.setIfInBounds_toArray, List.set_cons_zero, List.set_cons_succ]
  refine wpAnyH_ready (rs := [11]) (by kernel_rfl) (by simp) ?_
  refine (AllReadyH.cons rfl (fun K hK => ?_) AllReadyH.nil)
  have hsz := hHeld.1.size
  go_simp
  refine (pairs_any (B := w3.heap.size) _ hR3 ((HL1.out.below (hHeld.1.mono (by have := HB.size; omega))).more (by have h1 := hsz; have h2 := HB.size; first | omega | (simp at h1 ⊢; omega))) (Nat.le_refl _) hpok (by omega) hm).mono ?_
  rintro en w4 ⟨v4, rfl, hown4, hb⟩
  refine hK.out _ _ (keepK KK.out (below_after hHeld.1 hb hHeld.1.size)) (fun hHeld => ?_)
  clear hK K
  try simp only [List.getElem_toArray, List.getElem_cons_succ, List.getElem_cons_zero, Act.put, List.setIfInBounds_toArray, List.set_cons_zero, List.set_cons_succ]
  refine wpAnyH_take (i := 12) (v := ?_) rfl (by kernel_rfl) (by kernel_rfl) (by kernel_rfl) (fun _ _ _ h => h) (Or.inl ⟨by rfl, ?_⟩) hHeld ?_
  rotate_left
  · intro W hS
    try dsimp only at hS
    go_simp
    try with_reducible rfl
  try simp only [List.getElem_toArray, List.getElem_cons_succ, List.getElem_cons_zero, Act.put, List.setIfInBounds_toArray, List.set_cons_zero, List.set_cons_succ]
  refine wpAnyH_take (i := 13) (v := ?_) rfl (by kernel_rfl) (by kernel_rfl) (by kernel_rfl) (fun _ _ _ h => h) (Or.inl ⟨by rfl, ?_⟩) hHeld ?_
  rotate_left
  · intro W hS
    try dsimp only at hS
    go_simp
    try with_reducible rfl
  try simp only [List.getElem_toArray, List.getElem_cons_succ, List.getElem_cons_zero, Act.put, List.setIfInBounds_toArray, List.set_cons_zero, List.set_cons_succ]
  refine wpAnyH_done (by kernel_rfl) ?_ _
  go_wp2_with fail
  go_ret2
  exact ⟨_, rfl, own_le hown4 (by have h1 := hsz; have h2 := HB.size; first | omega | (simp at h1 ⊢; omega)), HB.trans (hHeld.1.mono HB.size)⟩

set_option maxRecDepth 100000 in
set_option maxHeartbeats 2000000 in
theorem rep_yes_err {B m c : Nat} {A : Option Addr} {l : List Pr} (id e : Int) (w : World) (hl : Reads w B 2 A m (prCells l)) (hB : B ≤ w.heap.size) (hm : m ≤ 1000000) (hid : IN64 id) (hpok : ∀ p ∈ l, p.ok) (h0 : ¬ id < 0) (h1 : ¬ e < 0) (h2 : ¬ 255 < e) (he : ¬ e = 0) (hm0 : ¬ 0 < m) (hri : riseB l = true) : Calls Try.prog 36 #[.agg #[.int .i64 id, .int .i64 e, .bool false, .slice A m c]] w fun en w' => ∃ v, en = .returned (.tuple #[v, .int .i64 0]) ∧ w'.ownsRow w.heap.size 5 1 v (repBytes id e false l).length (u8s (repBytes id e false l)) ∧ Below w.heap.size w w' := by
  have he2 : (e != 0) = true := by simpa using he
  clear he
  have HRI := Lib.hid hri
  clear hri
  go_enter Try.func36, Try.ntmps36
  go_wp2_with fail
  refine (rise_any (B := B) _ (hl.alloc hB _) (by simp; omega) hm).mono ?_
  rw [HRI.out]
  rintro en w1 ⟨rfl, hb⟩
  have K0 := Blk.on (g := w.heap.size) (t := 59) (cs := #[.int .i64 id, .int .i64 e, .bool false, .slice A m c]) (by repeat (first | exact Blk.at_ _ _ _ (by simp) | refine Blk.alloc ?_ _)) hb
  have HB := below_after ((Below.refl w.heap.size w).alloc (Nat.le_refl _) _) hb (by simp)
  have HL1 := Lib.hid (hl.below (HB.mono hB))
  have c0 := K0.c
  have z0 := K0.lt
  clear hb
  go_wp2_with fail
  have KK := Lib.hid K0
  clear c0 K0
  refine wp_region_held_drew (S := (fun W => Below w1.heap.size w1 W ∧ (∀ i, W.cell? ⟨w.heap.size, i, none⟩ = #[.int .i64 id, .int .i64 e, .bool false, .slice A m c][i]?))) (by kernel_rfl) (⟨(Below.refl _ _).drew, KK.out.c⟩) (fun hHeld => ?_)
  refine wpAnyH_take (i := 0) (v := ?_) rfl (by kernel_rfl) (by kernel_rfl) (by kernel_rfl) (fun _ _ _ h => h) (Or.inl ⟨by rfl, ?_⟩) hHeld ?_
  rotate_left
  · intro W hS
    try dsimp only at hS
    go_simp
    try with_reducible rfl
  try simp only [List.getElem_toArray, List.getElem_cons_succ, List.getElem_cons_zero, Act.put, List.setIfInBounds_toArray, List.set_cons_zero, List.set_cons_succ]
  refine wpAnyH_take (i := 1) (v := ?_) rfl (by kernel_rfl) (by kernel_rfl) (by kernel_rfl) (fun _ _ _ h => h) (Or.inl ⟨by rfl, ?_⟩) hHeld ?_
  rotate_left
  · intro W hS
    try dsimp only at hS
    go_simp
    try with_reducible rfl
  try simp only [List.getElem_toArray, List.getElem_cons_succ, List.getElem_cons_zero, Act.put, List.setIfInBounds_toArray, List.set_cons_zero, List.set_cons_succ]
  refine wpAnyH_take (i := 2) (v := ?_) rfl (by kernel_rfl) (by kernel_rfl) (by kernel_rfl) (fun _ _ _ h => h) (Or.inl ⟨by rfl, ?_⟩) hHeld ?_
  rotate_left
  · intro W hS
    try dsimp only at hS
    go_simp
    try with_reducible rfl
  try simp only [List.getElem_toArray, List.getElem_cons_succ, List.getElem_cons_zero, Act.put, List.setIfInBounds_toArray, List.set_cons_zero, List.set_cons_succ]
  refine wpAnyH_take (i := 3) (v := ?_) rfl (by kernel_rfl) (by kernel_rfl) (by kernel_rfl) (fun _ _ _ h => h) (Or.inl ⟨by rfl, ?_⟩) hHeld ?_
  rotate_left
  · intro W hS
    try dsimp only at hS
    go_simp
    try with_reducible rfl
  try simp only [List.getElem_toArray, List.getElem_cons_succ, List.getElem_cons_zero, Act.put, List.setIfInBounds_toArray, List.set_cons_zero, List.set_cons_succ]
  refine wpAnyH_take (i := 4) (v := ?_) rfl (by kernel_rfl) (by kernel_rfl) (by kernel_rfl) (fun _ _ _ h => h) (Or.inl ⟨by rfl, ?_⟩) hHeld ?_
  rotate_left
  · intro W hS
    try dsimp only at hS
    go_simp
    try with_reducible rfl
  try simp only [List.getElem_toArray, List.getElem_cons_succ, List.getElem_cons_zero, Act.put, List.setIfInBounds_toArray, List.set_cons_zero, List.set_cons_succ]
  refine wpAnyH_take (i := 5) (v := ?_) rfl (by kernel_rfl) (by kernel_rfl) (by kernel_rfl) (fun _ _ _ h => h) (Or.inl ⟨by rfl, ?_⟩) hHeld ?_
  rotate_left
  · intro W hS
    try dsimp only at hS
    go_simp
    try with_reducible rfl
  try simp only [List.getElem_toArray, List.getElem_cons_succ, List.getElem_cons_zero, Act.put, List.setIfInBounds_toArray, List.set_cons_zero, List.set_cons_succ]
  refine wpAnyH_take (i := 9) (v := ?_) rfl (by kernel_rfl) (by kernel_rfl) (by kernel_rfl) (fun _ _ _ h => h) (Or.inl ⟨by rfl, ?_⟩) hHeld ?_
  rotate_left
  · intro W hS
    try dsimp only at hS
    go_simp
    try with_reducible rfl
  try simp only [List.getElem_toArray, List.getElem_cons_succ, List.getElem_cons_zero, Act.put, List.setIfInBounds_toArray, List.set_cons_zero, List.set_cons_succ]
  refine wpAnyH_take (i := 10) (v := ?_) rfl (by kernel_rfl) (by kernel_rfl) (by kernel_rfl) (fun _ _ _ h => h) (Or.inl ⟨by rfl, ?_⟩) hHeld ?_
  rotate_left
  · intro W hS
    try dsimp only at hS
    go_simp
    try with_reducible rfl
  try simp only [List.getElem_toArray, List.getElem_cons_succ, List.getElem_cons_zero, Act.put, List.setIfInBounds_toArray, List.set_cons_zero, List.set_cons_succ]
  refine wpAnyH_ready (rs := [6]) (by kernel_rfl) (by simp) ?_
  refine (AllReadyH.cons rfl (fun K hK => ?_) AllReadyH.nil)
  go_simp
  refine (bit_any _ _).mono ?_
  rintro en w2 ⟨rfl, rfl⟩
  refine hK.out _ _ (hHeld) (fun hHeld => ?_)
  clear hK K
  try simp only [List.getElem_toArray, List.getElem_cons_succ, List.getElem_cons_zero, Act.put, List.setIfInBounds_toArray, List.set_cons_zero, List.set_cons_succ]
  refine wpAnyH_ready (rs := [7]) (by kernel_rfl) (by simp) ?_
  refine (AllReadyH.cons rfl (fun K hK => ?_) AllReadyH.nil)
  go_simp
  refine hK.out _ _ (keepK KK.out (hHeld.1.alloc hHeld.1.size _)) (fun hHeld => ?_)
  clear hK K
  try simp only [List.getElem_toArray, List.getElem_cons_succ, List.getElem_cons_zero, Act.put, List.setIfInBounds_toArray, List.set_cons_zero, List.set_cons_succ]
  refine wpAnyH_ready (rs := [8]) (by kernel_rfl) (by simp) ?_
  refine (AllReadyH.cons rfl (fun K hK => ?_) AllReadyH.nil)
  go_simp
  refine (int3 (a := id) (b := e) (c := bitI false) (by simp) (by simp) (by simp) hid (in64_small (by omega)) (in64_bit _)).mono ?_
  rintro en w3 ⟨A3, r3, q3, rfl, hR3, hr3, hb⟩
  refine hK.out _ _ (keepK KK.out (below_after hHeld.1 hb hHeld.1.size)) (fun hHeld => ?_)
  clear hK K
  try simp only [List.getElem_toArray, List.getElem_cons_succ, List.getElem_cons_zero, Act.put, List.setIfInBounds_toArray, List.set_cons_zero, List.set_cons_succ]
  refine wpAnyH_ready (rs := [11]) (by kernel_rfl) (by simp) ?_
  refine (AllReadyH.cons rfl (fun K hK => ?_) AllReadyH.nil)
  have hsz := hHeld.1.size
  go_simp
  refine (pairs_any (B := w3.heap.size) _ hR3 ((HL1.out.below (hHeld.1.mono (by have := HB.size; omega))).more (by have h1 := hsz; have h2 := HB.size; first | omega | (simp at h1 ⊢; omega))) (Nat.le_refl _) hpok (by omega) hm).mono ?_
  rintro en w4 ⟨v4, rfl, hown4, hb⟩
  refine hK.out _ _ (keepK KK.out (below_after hHeld.1 hb hHeld.1.size)) (fun hHeld => ?_)
  clear hK K
  try simp only [List.getElem_toArray, List.getElem_cons_succ, List.getElem_cons_zero, Act.put, List.setIfInBounds_toArray, List.set_cons_zero, List.set_cons_succ]
  refine wpAnyH_take (i := 12) (v := ?_) rfl (by kernel_rfl) (by kernel_rfl) (by kernel_rfl) (fun _ _ _ h => h) (Or.inl ⟨by rfl, ?_⟩) hHeld ?_
  rotate_left
  · intro W hS
    try dsimp only at hS
    go_simp
    try with_reducible rfl
  try simp only [List.getElem_toArray, List.getElem_cons_succ, List.getElem_cons_zero, Act.put, List.setIfInBounds_toArray, List.set_cons_zero, List.set_cons_succ]
  refine wpAnyH_take (i := 13) (v := ?_) rfl (by kernel_rfl) (by kernel_rfl) (by kernel_rfl) (fun _ _ _ h => h) (Or.inl ⟨by rfl, ?_⟩) hHeld ?_
  rotate_left
  · intro W hS
    try dsimp only at hS
    go_simp
    try with_reducible rfl
  try simp only [List.getElem_toArray, List.getElem_cons_succ, List.getElem_cons_zero, Act.put, List.setIfInBounds_toArray, List.set_cons_zero, List.set_cons_succ]
  refine wpAnyH_done (by kernel_rfl) ?_ _
  go_wp2_with fail
  go_ret2
  exact ⟨_, rfl, own_le hown4 (by have h1 := hsz; have h2 := HB.size; first | omega | (simp at h1 ⊢; omega)), HB.trans (hHeld.1.mono HB.size)⟩

theorem rep_no {B m c : Nat} {A : Option Addr} {l : List Pr} (id e : Int) (d : Bool) (w : World) (hl : Reads w B 2 A m (prCells l)) (hB : B ≤ w.heap.size) (hm : m ≤ 1000000) (h : repB id e d l = false) : Calls Try.prog 36 #[.agg #[.int .i64 id, .int .i64 e, .bool d, .slice A m c]] w fun e w' => e = .returned (.tuple #[.slice none 0 0, .int .i64 1]) ∧ Below w.heap.size w w' := by
  have hll := reads_plen hl
  by_cases h0 : id < 0
  · exact rep_no_id id e d w h0
  by_cases h1 : e < 0
  · exact rep_no_e0 id e d w h0 h1
  by_cases h2 : 255 < e
  · exact rep_no_e1 id e d w h0 h1 h2
  cases hri : riseB l
  · exact rep_no_rise id e d w hl hB hm h0 h1 h2 hri
  have d0 : decide (0 ≤ id) = true := by simpa using h0
  have d1 : decide (0 ≤ e ∧ e ≤ 255) = true := by simp; omega
  unfold repB at h
  rw [d0, d1, hri] at h
  by_cases he : e = 0
  · simp [he] at h
  cases d
  · exact rep_no_some id e w hl hB hm h0 h1 h2 hri he (by cases l with | nil => simp at h | cons a t => simp at hll; omega)
  · exact rep_no_done id e w hl hB hm h0 h1 h2 hri he
theorem rep_yes {B m c : Nat} {A : Option Addr} {l : List Pr} (id e : Int) (d : Bool) (w : World) (hl : Reads w B 2 A m (prCells l)) (hB : B ≤ w.heap.size) (hm : m ≤ 1000000) (hid : IN64 id) (hpok : ∀ p ∈ l, p.ok) (h : repB id e d l = true) : Calls Try.prog 36 #[.agg #[.int .i64 id, .int .i64 e, .bool d, .slice A m c]] w fun en w' => ∃ v, en = .returned (.tuple #[v, .int .i64 0]) ∧ w'.ownsRow w.heap.size 5 1 v (repBytes id e d l).length (u8s (repBytes id e d l)) ∧ Below w.heap.size w w' := by
  have hll := reads_plen hl
  unfold repB at h
  simp only [Bool.and_eq_true, decide_eq_true_eq, Bool.or_eq_true, Bool.not_eq_true', List.isEmpty_iff] at h
  obtain ⟨⟨⟨h0, h1, h2⟩, hri⟩, hz⟩ := h
  by_cases he : e = 0
  · subst he
    cases d
    · exact rep_yes_false id w hl hB hm hid hpok (by omega) hri
    · exact rep_yes_true id w hl hB hm hid hpok (by omega) hri
  · obtain ⟨rfl, rfl⟩ := hz.resolve_left he
    exact rep_yes_err id e w hl hB hm hid hpok (by omega) (by omega) (by omega) he (by simp at hll; omega) hri

set_option maxHeartbeats 1000000 in
theorem rrep_no_id {m c : Nat} {A : Option Addr} (id e : Int) (d : Bool) (w : World) (h : id < 0) : Calls Try.prog 45 #[.agg #[.int .i64 id, .int .i64 e, .bool d, .slice A m c]] w fun e w' => e = .returned (.tuple #[.slice none 0 0, .int .i64 1]) ∧ Below w.heap.size w w' := by
  go_enter Try.func45, Try.ntmps45
  go_wp2_with fail
  all_goals
    go_ret2
    exact ⟨rfl, (Below.refl _ _).alloc (Nat.le_refl _) _⟩

set_option maxHeartbeats 1000000 in
theorem rrep_no_e0 {m c : Nat} {A : Option Addr} (id e : Int) (d : Bool) (w : World) (h0 : ¬ id < 0) (h : e < 0) : Calls Try.prog 45 #[.agg #[.int .i64 id, .int .i64 e, .bool d, .slice A m c]] w fun e w' => e = .returned (.tuple #[.slice none 0 0, .int .i64 1]) ∧ Below w.heap.size w w' := by
  go_enter Try.func45, Try.ntmps45
  go_wp2_with fail
  all_goals
    go_ret2
    exact ⟨rfl, (Below.refl _ _).alloc (Nat.le_refl _) _⟩

set_option maxHeartbeats 1000000 in
theorem rrep_no_e1 {m c : Nat} {A : Option Addr} (id e : Int) (d : Bool) (w : World) (h0 : ¬ id < 0) (h1 : ¬ e < 0) (h : 255 < e) : Calls Try.prog 45 #[.agg #[.int .i64 id, .int .i64 e, .bool d, .slice A m c]] w fun e w' => e = .returned (.tuple #[.slice none 0 0, .int .i64 1]) ∧ Below w.heap.size w w' := by
  go_enter Try.func45, Try.ntmps45
  go_wp2_with fail
  all_goals
    go_ret2
    exact ⟨rfl, (Below.refl _ _).alloc (Nat.le_refl _) _⟩

set_option maxRecDepth 100000 in
set_option maxHeartbeats 2000000 in
theorem rrep_no_rise {B m c : Nat} {A : Option Addr} {l : List Pr} (id e : Int) (d : Bool) (w : World) (hl : Reads w B 2 A m (prCells l)) (hB : B ≤ w.heap.size) (hm : m ≤ 1000000) (h0 : ¬ id < 0) (h1 : ¬ e < 0) (h2 : ¬ 255 < e) (hri : riseB l = false) : Calls Try.prog 45 #[.agg #[.int .i64 id, .int .i64 e, .bool d, .slice A m c]] w fun e w' => e = .returned (.tuple #[.slice none 0 0, .int .i64 1]) ∧ Below w.heap.size w w' := by
  have HRI := Lib.hid hri
  clear hri
  go_enter Try.func45, Try.ntmps45
  go_wp2_with fail
  refine (rrise_any (B := B) _ (hl.alloc hB _) (by simp; omega) hm).mono ?_
  rw [HRI.out]
  rintro en w1 ⟨rfl, hb⟩
  have K0 := Blk.on (g := w.heap.size) (t := 59) (cs := #[.int .i64 id, .int .i64 e, .bool d, .slice A m c]) (by repeat (first | exact Blk.at_ _ _ _ (by simp) | refine Blk.alloc ?_ _)) hb
  have HB := below_after ((Below.refl w.heap.size w).alloc (Nat.le_refl _) _) hb (by simp)
  have HL1 := Lib.hid (hl.below (HB.mono hB))
  have c0 := K0.c
  have z0 := K0.lt
  clear hb
  go_wp2_with fail
  go_ret2
  exact ⟨rfl, HB⟩

set_option maxRecDepth 100000 in
set_option maxHeartbeats 2000000 in
theorem rrep_no_done {B m c : Nat} {A : Option Addr} {l : List Pr} (id e : Int) (w : World) (hl : Reads w B 2 A m (prCells l)) (hB : B ≤ w.heap.size) (hm : m ≤ 1000000) (h0 : ¬ id < 0) (h1 : ¬ e < 0) (h2 : ¬ 255 < e) (hri : riseB l = true) (he : ¬ e = 0) : Calls Try.prog 45 #[.agg #[.int .i64 id, .int .i64 e, .bool true, .slice A m c]] w fun e w' => e = .returned (.tuple #[.slice none 0 0, .int .i64 1]) ∧ Below w.heap.size w w' := by
  have he2 : (e != 0) = true := by simpa using he
  clear he
  have HRI := Lib.hid hri
  clear hri
  go_enter Try.func45, Try.ntmps45
  go_wp2_with fail
  refine (rrise_any (B := B) _ (hl.alloc hB _) (by simp; omega) hm).mono ?_
  rw [HRI.out]
  rintro en w1 ⟨rfl, hb⟩
  have K0 := Blk.on (g := w.heap.size) (t := 59) (cs := #[.int .i64 id, .int .i64 e, .bool true, .slice A m c]) (by repeat (first | exact Blk.at_ _ _ _ (by simp) | refine Blk.alloc ?_ _)) hb
  have HB := below_after ((Below.refl w.heap.size w).alloc (Nat.le_refl _) _) hb (by simp)
  have HL1 := Lib.hid (hl.below (HB.mono hB))
  have c0 := K0.c
  have z0 := K0.lt
  clear hb
  go_wp2_with fail
  go_ret2
  exact ⟨rfl, HB⟩

set_option maxRecDepth 100000 in
set_option maxHeartbeats 2000000 in
theorem rrep_no_some {B m c : Nat} {A : Option Addr} {l : List Pr} (id e : Int) (w : World) (hl : Reads w B 2 A m (prCells l)) (hB : B ≤ w.heap.size) (hm : m ≤ 1000000) (h0 : ¬ id < 0) (h1 : ¬ e < 0) (h2 : ¬ 255 < e) (hri : riseB l = true) (he : ¬ e = 0) (hm0 : 0 < m) : Calls Try.prog 45 #[.agg #[.int .i64 id, .int .i64 e, .bool false, .slice A m c]] w fun e w' => e = .returned (.tuple #[.slice none 0 0, .int .i64 1]) ∧ Below w.heap.size w w' := by
  have he2 : (e != 0) = true := by simpa using he
  clear he
  have HRI := Lib.hid hri
  clear hri
  go_enter Try.func45, Try.ntmps45
  go_wp2_with fail
  refine (rrise_any (B := B) _ (hl.alloc hB _) (by simp; omega) hm).mono ?_
  rw [HRI.out]
  rintro en w1 ⟨rfl, hb⟩
  have K0 := Blk.on (g := w.heap.size) (t := 59) (cs := #[.int .i64 id, .int .i64 e, .bool false, .slice A m c]) (by repeat (first | exact Blk.at_ _ _ _ (by simp) | refine Blk.alloc ?_ _)) hb
  have HB := below_after ((Below.refl w.heap.size w).alloc (Nat.le_refl _) _) hb (by simp)
  have HL1 := Lib.hid (hl.below (HB.mono hB))
  have c0 := K0.c
  have z0 := K0.lt
  clear hb
  go_wp2_with fail
  go_ret2
  exact ⟨rfl, HB⟩

set_option maxRecDepth 100000 in
set_option maxHeartbeats 2000000 in
theorem rrep_yes_false {B m c : Nat} {A : Option Addr} {l : List Pr} (id : Int) (w : World) (hl : Reads w B 2 A m (prCells l)) (hB : B ≤ w.heap.size) (hm : m ≤ 1000000) (hid : IN64 id) (hpok : ∀ p ∈ l, p.ok) (h0 : ¬ id < 0) (hri : riseB l = true) : Calls Try.prog 45 #[.agg #[.int .i64 id, .int .i64 0, .bool false, .slice A m c]] w fun en w' => ∃ v, en = .returned (.tuple #[v, .int .i64 0]) ∧ w'.ownsRow w.heap.size 5 1 v (repBytes id 0 false l).length (u8s (repBytes id 0 false l)) ∧ Below w.heap.size w w' := by
  have HRI := Lib.hid hri
  clear hri
  go_enter Try.func45, Try.ntmps45
  go_wp2_with fail
  refine (rrise_any (B := B) _ (hl.alloc hB _) (by simp; omega) hm).mono ?_
  rw [HRI.out]
  rintro en w1 ⟨rfl, hb⟩
  have K0 := Blk.on (g := w.heap.size) (t := 59) (cs := #[.int .i64 id, .int .i64 0, .bool false, .slice A m c]) (by repeat (first | exact Blk.at_ _ _ _ (by simp) | refine Blk.alloc ?_ _)) hb
  have HB := below_after ((Below.refl w.heap.size w).alloc (Nat.le_refl _) _) hb (by simp)
  have HL1 := Lib.hid (hl.below (HB.mono hB))
  have c0 := K0.c
  have z0 := K0.lt
  clear hb
  go_wp2_with fail
  have KK := Lib.hid K0
  clear c0 K0
  refine wp_region_held_drew (S := (fun W => Below w1.heap.size w1 W ∧ (∀ i, W.cell? ⟨w.heap.size, i, none⟩ = #[.int .i64 id, .int .i64 0, .bool false, .slice A m c][i]?))) (by kernel_rfl) (⟨(Below.refl _ _).drew, KK.out.c⟩) (fun hHeld => ?_)
  refine wpAnyH_take (i := 0) (v := ?_) rfl (by kernel_rfl) (by kernel_rfl) (by kernel_rfl) (fun _ _ _ h => h) (Or.inl ⟨by rfl, ?_⟩) hHeld ?_
  rotate_left
  · intro W hS
    try dsimp only at hS
    go_simp
    try with_reducible rfl
  try simp only [List.getElem_toArray, List.getElem_cons_succ, List.getElem_cons_zero, Act.put, List.setIfInBounds_toArray, List.set_cons_zero, List.set_cons_succ]
  refine wpAnyH_take (i := 1) (v := ?_) rfl (by kernel_rfl) (by kernel_rfl) (by kernel_rfl) (fun _ _ _ h => h) (Or.inl ⟨by rfl, ?_⟩) hHeld ?_
  rotate_left
  · intro W hS
    try dsimp only at hS
    go_simp
    try with_reducible rfl
  try simp only [List.getElem_toArray, List.getElem_cons_succ, List.getElem_cons_zero, Act.put, List.setIfInBounds_toArray, List.set_cons_zero, List.set_cons_succ]
  refine wpAnyH_take (i := 2) (v := ?_) rfl (by kernel_rfl) (by kernel_rfl) (by kernel_rfl) (fun _ _ _ h => h) (Or.inl ⟨by rfl, ?_⟩) hHeld ?_
  rotate_left
  · intro W hS
    try dsimp only at hS
    go_simp
    try with_reducible rfl
  try simp only [List.getElem_toArray, List.getElem_cons_succ, List.getElem_cons_zero, Act.put, List.setIfInBounds_toArray, List.set_cons_zero, List.set_cons_succ]
  refine wpAnyH_take (i := 3) (v := ?_) rfl (by kernel_rfl) (by kernel_rfl) (by kernel_rfl) (fun _ _ _ h => h) (Or.inl ⟨by rfl, ?_⟩) hHeld ?_
  rotate_left
  · intro W hS
    try dsimp only at hS
    go_simp
    try with_reducible rfl
  try simp only [List.getElem_toArray, List.getElem_cons_succ, List.getElem_cons_zero, Act.put, List.setIfInBounds_toArray, List.set_cons_zero, List.set_cons_succ]
  refine wpAnyH_take (i := 6) (v := ?_) rfl (by kernel_rfl) (by kernel_rfl) (by kernel_rfl) (fun _ _ _ h => h) (Or.inl ⟨by rfl, ?_⟩) hHeld ?_
  rotate_left
  · intro W hS
    try dsimp only at hS
    go_simp
    try with_reducible rfl
  try simp only [List.getElem_toArray, List.getElem_cons_succ, List.getElem_cons_zero, Act.put, List.setIfInBounds_toArray, List.set_cons_zero, List.set_cons_succ]
  refine wpAnyH_take (i := 7) (v := ?_) rfl (by kernel_rfl) (by kernel_rfl) (by kernel_rfl) (fun _ _ _ h => h) (Or.inl ⟨by rfl, ?_⟩) hHeld ?_
  rotate_left
  · intro W hS
    try dsimp only at hS
    go_simp
    try with_reducible rfl
  try simp only [List.getElem_toArray, List.getElem_cons_succ, List.getElem_cons_zero, Act.put, List.setIfInBounds_toArray, List.set_cons_zero, List.set_cons_succ]
  refine wpAnyH_ready (rs := [4]) (by kernel_rfl) (by simp) ?_
  refine (AllReadyH.cons rfl (fun K hK => ?_) AllReadyH.nil)
  go_simp
  refine hK.out _ _ (keepK KK.out (hHeld.1.alloc hHeld.1.size _)) (fun hHeld => ?_)
  clear hK K
  try simp only [List.getElem_toArray, List.getElem_cons_succ, List.getElem_cons_zero, Act.put, List.setIfInBounds_toArray, List.set_cons_zero, List.set_cons_succ]
  refine wpAnyH_ready (rs := [5]) (by kernel_rfl) (by simp) ?_
  refine (AllReadyH.cons rfl (fun K hK => ?_) AllReadyH.nil)
  go_simp
  refine (rint3 (a := id) (b := 0) (c := 0) (by simp) (by simp) (by simp) hid (in64_small (by omega)) (in64_small (by omega))).mono ?_
  rintro en w3 ⟨A3, r3, q3, rfl, hR3, hr3, hb⟩
  refine hK.out _ _ (keepK KK.out (below_after hHeld.1 hb hHeld.1.size)) (fun hHeld => ?_)
  clear hK K
  try simp only [List.getElem_toArray, List.getElem_cons_succ, List.getElem_cons_zero, Act.put, List.setIfInBounds_toArray, List.set_cons_zero, List.set_cons_succ]
  refine wpAnyH_ready (rs := [8]) (by kernel_rfl) (by simp) ?_
  refine (AllReadyH.cons rfl (fun K hK => ?_) AllReadyH.nil)
  have hsz := hHeld.1.size
  go_simp
  refine (rpairs_any (B := w3.heap.size) _ hR3 ((HL1.out.below (hHeld.1.mono (by have := HB.size; omega))).more (by have h1 := hsz; have h2 := HB.size; first | omega | (simp at h1 ⊢; omega))) (Nat.le_refl _) hpok (by omega) hm).mono ?_
  rintro en w4 ⟨v4, rfl, hown4, hb⟩
  refine hK.out _ _ (keepK KK.out (below_after hHeld.1 hb hHeld.1.size)) (fun hHeld => ?_)
  clear hK K
  try simp only [List.getElem_toArray, List.getElem_cons_succ, List.getElem_cons_zero, Act.put, List.setIfInBounds_toArray, List.set_cons_zero, List.set_cons_succ]
  refine wpAnyH_take (i := 9) (v := ?_) rfl (by kernel_rfl) (by kernel_rfl) (by kernel_rfl) (fun _ _ _ h => h) (Or.inl ⟨by rfl, ?_⟩) hHeld ?_
  rotate_left
  · intro W hS
    try dsimp only at hS
    go_simp
    try with_reducible rfl
  try simp only [List.getElem_toArray, List.getElem_cons_succ, List.getElem_cons_zero, Act.put, List.setIfInBounds_toArray, List.set_cons_zero, List.set_cons_succ]
  refine wpAnyH_take (i := 10) (v := ?_) rfl (by kernel_rfl) (by kernel_rfl) (by kernel_rfl) (fun _ _ _ h => h) (Or.inl ⟨by rfl, ?_⟩) hHeld ?_
  rotate_left
  · intro W hS
    try dsimp only at hS
    go_simp
    try with_reducible rfl
  try simp only [List.getElem_toArray, List.getElem_cons_succ, List.getElem_cons_zero, Act.put, List.setIfInBounds_toArray, List.set_cons_zero, List.set_cons_succ]
  refine wpAnyH_done (by kernel_rfl) ?_ _
  go_wp2_with fail
  go_ret2
  exact ⟨_, rfl, own_le hown4 (by have h1 := hsz; have h2 := HB.size; first | omega | (simp at h1 ⊢; omega)), HB.trans (hHeld.1.mono HB.size)⟩

set_option maxRecDepth 100000 in
set_option maxHeartbeats 2000000 in
theorem rrep_yes_true {B m c : Nat} {A : Option Addr} {l : List Pr} (id : Int) (w : World) (hl : Reads w B 2 A m (prCells l)) (hB : B ≤ w.heap.size) (hm : m ≤ 1000000) (hid : IN64 id) (hpok : ∀ p ∈ l, p.ok) (h0 : ¬ id < 0) (hri : riseB l = true) : Calls Try.prog 45 #[.agg #[.int .i64 id, .int .i64 0, .bool true, .slice A m c]] w fun en w' => ∃ v, en = .returned (.tuple #[v, .int .i64 0]) ∧ w'.ownsRow w.heap.size 5 1 v (repBytes id 0 true l).length (u8s (repBytes id 0 true l)) ∧ Below w.heap.size w w' := by
  have HRI := Lib.hid hri
  clear hri
  go_enter Try.func45, Try.ntmps45
  go_wp2_with fail
  refine (rrise_any (B := B) _ (hl.alloc hB _) (by simp; omega) hm).mono ?_
  rw [HRI.out]
  rintro en w1 ⟨rfl, hb⟩
  have K0 := Blk.on (g := w.heap.size) (t := 59) (cs := #[.int .i64 id, .int .i64 0, .bool true, .slice A m c]) (by repeat (first | exact Blk.at_ _ _ _ (by simp) | refine Blk.alloc ?_ _)) hb
  have HB := below_after ((Below.refl w.heap.size w).alloc (Nat.le_refl _) _) hb (by simp)
  have HL1 := Lib.hid (hl.below (HB.mono hB))
  have c0 := K0.c
  have z0 := K0.lt
  clear hb
  go_wp2_with fail
  have KK := Lib.hid K0
  clear c0 K0
  refine wp_region_held_drew (S := (fun W => Below w1.heap.size w1 W ∧ (∀ i, W.cell? ⟨w.heap.size, i, none⟩ = #[.int .i64 id, .int .i64 0, .bool true, .slice A m c][i]?))) (by kernel_rfl) (⟨(Below.refl _ _).drew, KK.out.c⟩) (fun hHeld => ?_)
  refine wpAnyH_take (i := 0) (v := ?_) rfl (by kernel_rfl) (by kernel_rfl) (by kernel_rfl) (fun _ _ _ h => h) (Or.inl ⟨by rfl, ?_⟩) hHeld ?_
  rotate_left
  · intro W hS
    try dsimp only at hS
    go_simp
    try with_reducible rfl
  try simp only [List.getElem_toArray, List.getElem_cons_succ, List.getElem_cons_zero, Act.put, List.setIfInBounds_toArray, List.set_cons_zero, List.set_cons_succ]
  refine wpAnyH_take (i := 1) (v := ?_) rfl (by kernel_rfl) (by kernel_rfl) (by kernel_rfl) (fun _ _ _ h => h) (Or.inl ⟨by rfl, ?_⟩) hHeld ?_
  rotate_left
  · intro W hS
    try dsimp only at hS
    go_simp
    try with_reducible rfl
  try simp only [List.getElem_toArray, List.getElem_cons_succ, List.getElem_cons_zero, Act.put, List.setIfInBounds_toArray, List.set_cons_zero, List.set_cons_succ]
  refine wpAnyH_take (i := 2) (v := ?_) rfl (by kernel_rfl) (by kernel_rfl) (by kernel_rfl) (fun _ _ _ h => h) (Or.inl ⟨by rfl, ?_⟩) hHeld ?_
  rotate_left
  · intro W hS
    try dsimp only at hS
    go_simp
    try with_reducible rfl
  try simp only [List.getElem_toArray, List.getElem_cons_succ, List.getElem_cons_zero, Act.put, List.setIfInBounds_toArray, List.set_cons_zero, List.set_cons_succ]
  refine wpAnyH_take (i := 3) (v := ?_) rfl (by kernel_rfl) (by kernel_rfl) (by kernel_rfl) (fun _ _ _ h => h) (Or.inl ⟨by rfl, ?_⟩) hHeld ?_
  rotate_left
  · intro W hS
    try dsimp only at hS
    go_simp
    try with_reducible rfl
  try simp only [List.getElem_toArray, List.getElem_cons_succ, List.getElem_cons_zero, Act.put, List.setIfInBounds_toArray, List.set_cons_zero, List.set_cons_succ]
  refine wpAnyH_take (i := 6) (v := ?_) rfl (by kernel_rfl) (by kernel_rfl) (by kernel_rfl) (fun _ _ _ h => h) (Or.inl ⟨by rfl, ?_⟩) hHeld ?_
  rotate_left
  · intro W hS
    try dsimp only at hS
    go_simp
    try with_reducible rfl
  try simp only [List.getElem_toArray, List.getElem_cons_succ, List.getElem_cons_zero, Act.put, List.setIfInBounds_toArray, List.set_cons_zero, List.set_cons_succ]
  refine wpAnyH_take (i := 7) (v := ?_) rfl (by kernel_rfl) (by kernel_rfl) (by kernel_rfl) (fun _ _ _ h => h) (Or.inl ⟨by rfl, ?_⟩) hHeld ?_
  rotate_left
  · intro W hS
    try dsimp only at hS
    go_simp
    try with_reducible rfl
  try simp only [List.getElem_toArray, List.getElem_cons_succ, List.getElem_cons_zero, Act.put, List.setIfInBounds_toArray, List.set_cons_zero, List.set_cons_succ]
  refine wpAnyH_ready (rs := [4]) (by kernel_rfl) (by simp) ?_
  refine (AllReadyH.cons rfl (fun K hK => ?_) AllReadyH.nil)
  go_simp
  refine hK.out _ _ (keepK KK.out (hHeld.1.alloc hHeld.1.size _)) (fun hHeld => ?_)
  clear hK K
  try simp only [List.getElem_toArray, List.getElem_cons_succ, List.getElem_cons_zero, Act.put, List.setIfInBounds_toArray, List.set_cons_zero, List.set_cons_succ]
  refine wpAnyH_ready (rs := [5]) (by kernel_rfl) (by simp) ?_
  refine (AllReadyH.cons rfl (fun K hK => ?_) AllReadyH.nil)
  go_simp
  refine (rint3 (a := id) (b := 0) (c := 1) (by simp) (by simp) (by simp) hid (in64_small (by omega)) (in64_small (by omega))).mono ?_
  rintro en w3 ⟨A3, r3, q3, rfl, hR3, hr3, hb⟩
  refine hK.out _ _ (keepK KK.out (below_after hHeld.1 hb hHeld.1.size)) (fun hHeld => ?_)
  clear hK K
  try simp only [List.getElem_toArray, List.getElem_cons_succ, List.getElem_cons_zero, Act.put, List.setIfInBounds_toArray, List.set_cons_zero, List.set_cons_succ]
  refine wpAnyH_ready (rs := [8]) (by kernel_rfl) (by simp) ?_
  refine (AllReadyH.cons rfl (fun K hK => ?_) AllReadyH.nil)
  have hsz := hHeld.1.size
  go_simp
  refine (rpairs_any (B := w3.heap.size) _ hR3 ((HL1.out.below (hHeld.1.mono (by have := HB.size; omega))).more (by have h1 := hsz; have h2 := HB.size; first | omega | (simp at h1 ⊢; omega))) (Nat.le_refl _) hpok (by omega) hm).mono ?_
  rintro en w4 ⟨v4, rfl, hown4, hb⟩
  refine hK.out _ _ (keepK KK.out (below_after hHeld.1 hb hHeld.1.size)) (fun hHeld => ?_)
  clear hK K
  try simp only [List.getElem_toArray, List.getElem_cons_succ, List.getElem_cons_zero, Act.put, List.setIfInBounds_toArray, List.set_cons_zero, List.set_cons_succ]
  refine wpAnyH_take (i := 9) (v := ?_) rfl (by kernel_rfl) (by kernel_rfl) (by kernel_rfl) (fun _ _ _ h => h) (Or.inl ⟨by rfl, ?_⟩) hHeld ?_
  rotate_left
  · intro W hS
    try dsimp only at hS
    go_simp
    try with_reducible rfl
  try simp only [List.getElem_toArray, List.getElem_cons_succ, List.getElem_cons_zero, Act.put, List.setIfInBounds_toArray, List.set_cons_zero, List.set_cons_succ]
  refine wpAnyH_take (i := 10) (v := ?_) rfl (by kernel_rfl) (by kernel_rfl) (by kernel_rfl) (fun _ _ _ h => h) (Or.inl ⟨by rfl, ?_⟩) hHeld ?_
  rotate_left
  · intro W hS
    try dsimp only at hS
    go_simp
    try with_reducible rfl
  try simp only [List.getElem_toArray, List.getElem_cons_succ, List.getElem_cons_zero, Act.put, List.setIfInBounds_toArray, List.set_cons_zero, List.set_cons_succ]
  refine wpAnyH_done (by kernel_rfl) ?_ _
  go_wp2_with fail
  go_ret2
  exact ⟨_, rfl, own_le hown4 (by have h1 := hsz; have h2 := HB.size; first | omega | (simp at h1 ⊢; omega)), HB.trans (hHeld.1.mono HB.size)⟩

set_option maxRecDepth 100000 in
set_option maxHeartbeats 2000000 in
theorem rrep_yes_err {B m c : Nat} {A : Option Addr} {l : List Pr} (id e : Int) (w : World) (hl : Reads w B 2 A m (prCells l)) (hB : B ≤ w.heap.size) (hm : m ≤ 1000000) (hid : IN64 id) (hpok : ∀ p ∈ l, p.ok) (h0 : ¬ id < 0) (h1 : ¬ e < 0) (h2 : ¬ 255 < e) (he : ¬ e = 0) (hm0 : ¬ 0 < m) (hri : riseB l = true) : Calls Try.prog 45 #[.agg #[.int .i64 id, .int .i64 e, .bool false, .slice A m c]] w fun en w' => ∃ v, en = .returned (.tuple #[v, .int .i64 0]) ∧ w'.ownsRow w.heap.size 5 1 v (repBytes id e false l).length (u8s (repBytes id e false l)) ∧ Below w.heap.size w w' := by
  have he2 : (e != 0) = true := by simpa using he
  clear he
  have HRI := Lib.hid hri
  clear hri
  go_enter Try.func45, Try.ntmps45
  go_wp2_with fail
  refine (rrise_any (B := B) _ (hl.alloc hB _) (by simp; omega) hm).mono ?_
  rw [HRI.out]
  rintro en w1 ⟨rfl, hb⟩
  have K0 := Blk.on (g := w.heap.size) (t := 59) (cs := #[.int .i64 id, .int .i64 e, .bool false, .slice A m c]) (by repeat (first | exact Blk.at_ _ _ _ (by simp) | refine Blk.alloc ?_ _)) hb
  have HB := below_after ((Below.refl w.heap.size w).alloc (Nat.le_refl _) _) hb (by simp)
  have HL1 := Lib.hid (hl.below (HB.mono hB))
  have c0 := K0.c
  have z0 := K0.lt
  clear hb
  go_wp2_with fail
  have KK := Lib.hid K0
  clear c0 K0
  refine wp_region_held_drew (S := (fun W => Below w1.heap.size w1 W ∧ (∀ i, W.cell? ⟨w.heap.size, i, none⟩ = #[.int .i64 id, .int .i64 e, .bool false, .slice A m c][i]?))) (by kernel_rfl) (⟨(Below.refl _ _).drew, KK.out.c⟩) (fun hHeld => ?_)
  refine wpAnyH_take (i := 0) (v := ?_) rfl (by kernel_rfl) (by kernel_rfl) (by kernel_rfl) (fun _ _ _ h => h) (Or.inl ⟨by rfl, ?_⟩) hHeld ?_
  rotate_left
  · intro W hS
    try dsimp only at hS
    go_simp
    try with_reducible rfl
  try simp only [List.getElem_toArray, List.getElem_cons_succ, List.getElem_cons_zero, Act.put, List.setIfInBounds_toArray, List.set_cons_zero, List.set_cons_succ]
  refine wpAnyH_take (i := 1) (v := ?_) rfl (by kernel_rfl) (by kernel_rfl) (by kernel_rfl) (fun _ _ _ h => h) (Or.inl ⟨by rfl, ?_⟩) hHeld ?_
  rotate_left
  · intro W hS
    try dsimp only at hS
    go_simp
    try with_reducible rfl
  try simp only [List.getElem_toArray, List.getElem_cons_succ, List.getElem_cons_zero, Act.put, List.setIfInBounds_toArray, List.set_cons_zero, List.set_cons_succ]
  refine wpAnyH_take (i := 2) (v := ?_) rfl (by kernel_rfl) (by kernel_rfl) (by kernel_rfl) (fun _ _ _ h => h) (Or.inl ⟨by rfl, ?_⟩) hHeld ?_
  rotate_left
  · intro W hS
    try dsimp only at hS
    go_simp
    try with_reducible rfl
  try simp only [List.getElem_toArray, List.getElem_cons_succ, List.getElem_cons_zero, Act.put, List.setIfInBounds_toArray, List.set_cons_zero, List.set_cons_succ]
  refine wpAnyH_take (i := 3) (v := ?_) rfl (by kernel_rfl) (by kernel_rfl) (by kernel_rfl) (fun _ _ _ h => h) (Or.inl ⟨by rfl, ?_⟩) hHeld ?_
  rotate_left
  · intro W hS
    try dsimp only at hS
    go_simp
    try with_reducible rfl
  try simp only [List.getElem_toArray, List.getElem_cons_succ, List.getElem_cons_zero, Act.put, List.setIfInBounds_toArray, List.set_cons_zero, List.set_cons_succ]
  refine wpAnyH_take (i := 6) (v := ?_) rfl (by kernel_rfl) (by kernel_rfl) (by kernel_rfl) (fun _ _ _ h => h) (Or.inl ⟨by rfl, ?_⟩) hHeld ?_
  rotate_left
  · intro W hS
    try dsimp only at hS
    go_simp
    try with_reducible rfl
  try simp only [List.getElem_toArray, List.getElem_cons_succ, List.getElem_cons_zero, Act.put, List.setIfInBounds_toArray, List.set_cons_zero, List.set_cons_succ]
  refine wpAnyH_take (i := 7) (v := ?_) rfl (by kernel_rfl) (by kernel_rfl) (by kernel_rfl) (fun _ _ _ h => h) (Or.inl ⟨by rfl, ?_⟩) hHeld ?_
  rotate_left
  · intro W hS
    try dsimp only at hS
    go_simp
    try with_reducible rfl
  try simp only [List.getElem_toArray, List.getElem_cons_succ, List.getElem_cons_zero, Act.put, List.setIfInBounds_toArray, List.set_cons_zero, List.set_cons_succ]
  refine wpAnyH_ready (rs := [4]) (by kernel_rfl) (by simp) ?_
  refine (AllReadyH.cons rfl (fun K hK => ?_) AllReadyH.nil)
  go_simp
  refine hK.out _ _ (keepK KK.out (hHeld.1.alloc hHeld.1.size _)) (fun hHeld => ?_)
  clear hK K
  try simp only [List.getElem_toArray, List.getElem_cons_succ, List.getElem_cons_zero, Act.put, List.setIfInBounds_toArray, List.set_cons_zero, List.set_cons_succ]
  refine wpAnyH_ready (rs := [5]) (by kernel_rfl) (by simp) ?_
  refine (AllReadyH.cons rfl (fun K hK => ?_) AllReadyH.nil)
  go_simp
  refine (rint3 (a := id) (b := e) (c := 0) (by simp) (by simp) (by simp) hid (in64_small (by omega)) (in64_small (by omega))).mono ?_
  rintro en w3 ⟨A3, r3, q3, rfl, hR3, hr3, hb⟩
  refine hK.out _ _ (keepK KK.out (below_after hHeld.1 hb hHeld.1.size)) (fun hHeld => ?_)
  clear hK K
  try simp only [List.getElem_toArray, List.getElem_cons_succ, List.getElem_cons_zero, Act.put, List.setIfInBounds_toArray, List.set_cons_zero, List.set_cons_succ]
  refine wpAnyH_ready (rs := [8]) (by kernel_rfl) (by simp) ?_
  refine (AllReadyH.cons rfl (fun K hK => ?_) AllReadyH.nil)
  have hsz := hHeld.1.size
  go_simp
  refine (rpairs_any (B := w3.heap.size) _ hR3 ((HL1.out.below (hHeld.1.mono (by have := HB.size; omega))).more (by have h1 := hsz; have h2 := HB.size; first | omega | (simp at h1 ⊢; omega))) (Nat.le_refl _) hpok (by omega) hm).mono ?_
  rintro en w4 ⟨v4, rfl, hown4, hb⟩
  refine hK.out _ _ (keepK KK.out (below_after hHeld.1 hb hHeld.1.size)) (fun hHeld => ?_)
  clear hK K
  try simp only [List.getElem_toArray, List.getElem_cons_succ, List.getElem_cons_zero, Act.put, List.setIfInBounds_toArray, List.set_cons_zero, List.set_cons_succ]
  refine wpAnyH_take (i := 9) (v := ?_) rfl (by kernel_rfl) (by kernel_rfl) (by kernel_rfl) (fun _ _ _ h => h) (Or.inl ⟨by rfl, ?_⟩) hHeld ?_
  rotate_left
  · intro W hS
    try dsimp only at hS
    go_simp
    try with_reducible rfl
  try simp only [List.getElem_toArray, List.getElem_cons_succ, List.getElem_cons_zero, Act.put, List.setIfInBounds_toArray, List.set_cons_zero, List.set_cons_succ]
  refine wpAnyH_take (i := 10) (v := ?_) rfl (by kernel_rfl) (by kernel_rfl) (by kernel_rfl) (fun _ _ _ h => h) (Or.inl ⟨by rfl, ?_⟩) hHeld ?_
  rotate_left
  · intro W hS
    try dsimp only at hS
    go_simp
    try with_reducible rfl
  try simp only [List.getElem_toArray, List.getElem_cons_succ, List.getElem_cons_zero, Act.put, List.setIfInBounds_toArray, List.set_cons_zero, List.set_cons_succ]
  refine wpAnyH_done (by kernel_rfl) ?_ _
  go_wp2_with fail
  go_ret2
  exact ⟨_, rfl, own_le hown4 (by have h1 := hsz; have h2 := HB.size; first | omega | (simp at h1 ⊢; omega)), HB.trans (hHeld.1.mono HB.size)⟩

theorem rrep_no {B m c : Nat} {A : Option Addr} {l : List Pr} (id e : Int) (d : Bool) (w : World) (hl : Reads w B 2 A m (prCells l)) (hB : B ≤ w.heap.size) (hm : m ≤ 1000000) (h : repB id e d l = false) : Calls Try.prog 45 #[.agg #[.int .i64 id, .int .i64 e, .bool d, .slice A m c]] w fun e w' => e = .returned (.tuple #[.slice none 0 0, .int .i64 1]) ∧ Below w.heap.size w w' := by
  have hll := reads_plen hl
  by_cases h0 : id < 0
  · exact rrep_no_id id e d w h0
  by_cases h1 : e < 0
  · exact rrep_no_e0 id e d w h0 h1
  by_cases h2 : 255 < e
  · exact rrep_no_e1 id e d w h0 h1 h2
  cases hri : riseB l
  · exact rrep_no_rise id e d w hl hB hm h0 h1 h2 hri
  have d0 : decide (0 ≤ id) = true := by simpa using h0
  have d1 : decide (0 ≤ e ∧ e ≤ 255) = true := by simp; omega
  unfold repB at h
  rw [d0, d1, hri] at h
  by_cases he : e = 0
  · simp [he] at h
  cases d
  · exact rrep_no_some id e w hl hB hm h0 h1 h2 hri he (by cases l with | nil => simp at h | cons a t => simp at hll; omega)
  · exact rrep_no_done id e w hl hB hm h0 h1 h2 hri he
theorem rrep_yes {B m c : Nat} {A : Option Addr} {l : List Pr} (id e : Int) (d : Bool) (w : World) (hl : Reads w B 2 A m (prCells l)) (hB : B ≤ w.heap.size) (hm : m ≤ 1000000) (hid : IN64 id) (hpok : ∀ p ∈ l, p.ok) (h : repB id e d l = true) : Calls Try.prog 45 #[.agg #[.int .i64 id, .int .i64 e, .bool d, .slice A m c]] w fun en w' => ∃ v, en = .returned (.tuple #[v, .int .i64 0]) ∧ w'.ownsRow w.heap.size 5 1 v (repBytes id e d l).length (u8s (repBytes id e d l)) ∧ Below w.heap.size w w' := by
  have hll := reads_plen hl
  unfold repB at h
  simp only [Bool.and_eq_true, decide_eq_true_eq, Bool.or_eq_true, Bool.not_eq_true', List.isEmpty_iff] at h
  obtain ⟨⟨⟨h0, h1, h2⟩, hri⟩, hz⟩ := h
  by_cases he : e = 0
  · subst he
    cases d
    · exact rrep_yes_false id w hl hB hm hid hpok (by omega) hri
    · exact rrep_yes_true id w hl hB hm hid hpok (by omega) hri
  · obtain ⟨rfl, rfl⟩ := hz.resolve_left he
    exact rrep_yes_err id e w hl hB hm hid hpok (by omega) (by omega) (by omega) he (by simp at hll; omega) hri

set_option maxHeartbeats 1000000 in
theorem bat_no_r {m c : Nat} {A : Option Addr} (r s : Int) (w : World) (h : r < 0) : Calls Try.prog 38 #[.agg #[.int .i64 r, .int .i64 s, .slice A m c]] w fun e w' => e = .returned (.tuple #[.slice none 0 0, .int .i64 1]) ∧ Below w.heap.size w w' := by
  have hmin : min r s < 0 := by omega
  go_enter Try.func38, Try.ntmps38
  go_wp2_with fail
  all_goals
    go_ret2
    exact ⟨rfl, (Below.refl _ _).alloc (Nat.le_refl _) _⟩

set_option maxHeartbeats 1000000 in
theorem bat_no_s {m c : Nat} {A : Option Addr} (r s : Int) (w : World) (h0 : ¬ r < 0) (h : s < 0) : Calls Try.prog 38 #[.agg #[.int .i64 r, .int .i64 s, .slice A m c]] w fun e w' => e = .returned (.tuple #[.slice none 0 0, .int .i64 1]) ∧ Below w.heap.size w w' := by
  have hmin : min r s < 0 := by omega
  go_enter Try.func38, Try.ntmps38
  go_wp2_with fail
  all_goals
    go_ret2
    exact ⟨rfl, (Below.refl _ _).alloc (Nat.le_refl _) _⟩

set_option maxRecDepth 100000 in
set_option maxHeartbeats 2000000 in
theorem bat_no_rise1 {B m c : Nat} {A : Option Addr} {l : List Pr} (r s : Int) (w : World) (hl : Reads w B 2 A m (prCells l)) (hB : B ≤ w.heap.size) (hm : m ≤ 1000000) (h0 : ¬ r < 0) (h1 : ¬ s < 0) (hrs : r ≤ s) (hri : riseB l = false) : Calls Try.prog 38 #[.agg #[.int .i64 r, .int .i64 s, .slice A m c]] w fun e w' => e = .returned (.tuple #[.slice none 0 0, .int .i64 1]) ∧ Below w.heap.size w w' := by
  have HRI := Lib.hid hri
  clear hri
  go_enter Try.func38, Try.ntmps38
  go_wp2_with fail
  refine (rise_any (B := B) _ (hl.alloc hB _) (by simp; omega) hm).mono ?_
  rw [HRI.out]
  rintro en w1 ⟨rfl, hb⟩
  have K0 := Blk.on (g := w.heap.size) (t := 68) (cs := #[.int .i64 r, .int .i64 s, .slice A m c]) (by repeat (first | exact Blk.at_ _ _ _ (by simp) | refine Blk.alloc ?_ _)) hb
  have HB := below_after ((Below.refl w.heap.size w).alloc (Nat.le_refl _) _) hb (by simp)
  have HL1 := Lib.hid (hl.below (HB.mono hB))
  have c0 := K0.c
  have z0 := K0.lt
  clear hb
  go_wp2_with fail
  go_ret2
  exact ⟨rfl, HB⟩

set_option maxRecDepth 100000 in
set_option maxHeartbeats 2000000 in
theorem bat_no_rise2 {B m c : Nat} {A : Option Addr} {l : List Pr} (r s : Int) (w : World) (hl : Reads w B 2 A m (prCells l)) (hB : B ≤ w.heap.size) (hm : m ≤ 1000000) (h0 : ¬ r < 0) (h1 : ¬ s < 0) (hrs : ¬ r ≤ s) (hri : riseB l = false) : Calls Try.prog 38 #[.agg #[.int .i64 r, .int .i64 s, .slice A m c]] w fun e w' => e = .returned (.tuple #[.slice none 0 0, .int .i64 1]) ∧ Below w.heap.size w w' := by
  have HRI := Lib.hid hri
  clear hri
  go_enter Try.func38, Try.ntmps38
  go_wp2_with fail
  refine (rise_any (B := B) _ (hl.alloc hB _) (by simp; omega) hm).mono ?_
  rw [HRI.out]
  rintro en w1 ⟨rfl, hb⟩
  have K0 := Blk.on (g := w.heap.size) (t := 68) (cs := #[.int .i64 r, .int .i64 s, .slice A m c]) (by repeat (first | exact Blk.at_ _ _ _ (by simp) | refine Blk.alloc ?_ _)) hb
  have HB := below_after ((Below.refl w.heap.size w).alloc (Nat.le_refl _) _) hb (by simp)
  have HL1 := Lib.hid (hl.below (HB.mono hB))
  have c0 := K0.c
  have z0 := K0.lt
  clear hb
  go_wp2_with fail
  go_ret2
  exact ⟨rfl, HB⟩

theorem bat_no_rise {B m c : Nat} {A : Option Addr} {l : List Pr} (r s : Int) (w : World) (hl : Reads w B 2 A m (prCells l)) (hB : B ≤ w.heap.size) (hm : m ≤ 1000000) (h0 : ¬ r < 0) (h1 : ¬ s < 0) (hri : riseB l = false) : Calls Try.prog 38 #[.agg #[.int .i64 r, .int .i64 s, .slice A m c]] w fun e w' => e = .returned (.tuple #[.slice none 0 0, .int .i64 1]) ∧ Below w.heap.size w w' := by
  by_cases hrs : r ≤ s
  · exact bat_no_rise1 r s w hl hB hm h0 h1 hrs hri
  · exact bat_no_rise2 r s w hl hB hm h0 h1 hrs hri

set_option maxRecDepth 100000 in
set_option maxHeartbeats 2000000 in
theorem bat_yes1 {B m c : Nat} {A : Option Addr} {l : List Pr} (r s : Int) (w : World) (hl : Reads w B 2 A m (prCells l)) (hB : B ≤ w.heap.size) (hm : m ≤ 1000000) (hr : IN64 r) (hs : IN64 s) (hpok : ∀ p ∈ l, p.ok) (h0 : ¬ r < 0) (h1 : ¬ s < 0) (hrs : r ≤ s) (hri : riseB l = true) : Calls Try.prog 38 #[.agg #[.int .i64 r, .int .i64 s, .slice A m c]] w fun en w' => ∃ v, en = .returned (.tuple #[v, .int .i64 0]) ∧ w'.ownsRow w.heap.size 5 1 v (batBytes r s l).length (u8s (batBytes r s l)) ∧ Below w.heap.size w w' := by
  have HRI := Lib.hid hri
  clear hri
  go_enter Try.func38, Try.ntmps38
  go_wp2_with fail
  refine (rise_any (B := B) _ (hl.alloc hB _) (by simp; omega) hm).mono ?_
  rw [HRI.out]
  rintro en w1 ⟨rfl, hb⟩
  have K0 := Blk.on (g := w.heap.size) (t := 68) (cs := #[.int .i64 r, .int .i64 s, .slice A m c]) (by repeat (first | exact Blk.at_ _ _ _ (by simp) | refine Blk.alloc ?_ _)) hb
  have HB := below_after ((Below.refl w.heap.size w).alloc (Nat.le_refl _) _) hb (by simp)
  have HL1 := Lib.hid (hl.below (HB.mono hB))
  have c0 := K0.c
  have z0 := K0.lt
  clear hb
  go_wp2_with fail
  have KK := Lib.hid K0
  clear c0 K0
  refine wp_region_held_drew (S := (fun W => Below w1.heap.size w1 W ∧ (∀ i, W.cell? ⟨w.heap.size, i, none⟩ = #[.int .i64 r, .int .i64 s, .slice A m c][i]?))) (by kernel_rfl) (⟨(Below.refl _ _).drew, KK.out.c⟩) (fun hHeld => ?_)
  refine wpAnyH_take (i := 0) (v := ?_) rfl (by kernel_rfl) (by kernel_rfl) (by kernel_rfl) (fun _ _ _ h => h) (Or.inl ⟨by rfl, ?_⟩) hHeld ?_
  rotate_left
  · intro W hS
    try dsimp only at hS
    go_simp
    try with_reducible rfl
  try simp only [List.getElem_toArray, List.getElem_cons_succ, List.getElem_cons_zero, Act.put, List.setIfInBounds_toArray, List.set_cons_zero, List.set_cons_succ]
  refine wpAnyH_take (i := 1) (v := ?_) rfl (by kernel_rfl) (by kernel_rfl) (by kernel_rfl) (fun _ _ _ h => h) (Or.inl ⟨by rfl, ?_⟩) hHeld ?_
  rotate_left
  · intro W hS
    try dsimp only at hS
    go_simp
    try with_reducible rfl
  try simp only [List.getElem_toArray, List.getElem_cons_succ, List.getElem_cons_zero, Act.put, List.setIfInBounds_toArray, List.set_cons_zero, List.set_cons_succ]
  refine wpAnyH_take (i := 2) (v := ?_) rfl (by kernel_rfl) (by kernel_rfl) (by kernel_rfl) (fun _ _ _ h => h) (Or.inl ⟨by rfl, ?_⟩) hHeld ?_
  rotate_left
  · intro W hS
    try dsimp only at hS
    go_simp
    try with_reducible rfl
  try simp only [List.getElem_toArray, List.getElem_cons_succ, List.getElem_cons_zero, Act.put, List.setIfInBounds_toArray, List.set_cons_zero, List.set_cons_succ]
  refine wpAnyH_take (i := 3) (v := ?_) rfl (by kernel_rfl) (by kernel_rfl) (by kernel_rfl) (fun _ _ _ h => h) (Or.inl ⟨by rfl, ?_⟩) hHeld ?_
  rotate_left
  · intro W hS
    try dsimp only at hS
    go_simp
    try with_reducible rfl
  try simp only [List.getElem_toArray, List.getElem_cons_succ, List.getElem_cons_zero, Act.put, List.setIfInBounds_toArray, List.set_cons_zero, List.set_cons_succ]
  refine wpAnyH_take (i := 6) (v := ?_) rfl (by kernel_rfl) (by kernel_rfl) (by kernel_rfl) (fun _ _ _ h => h) (Or.inl ⟨by rfl, ?_⟩) hHeld ?_
  rotate_left
  · intro W hS
    try dsimp only at hS
    go_simp
    try with_reducible rfl
  try simp only [List.getElem_toArray, List.getElem_cons_succ, List.getElem_cons_zero, Act.put, List.setIfInBounds_toArray, List.set_cons_zero, List.set_cons_succ]
  refine wpAnyH_take (i := 7) (v := ?_) rfl (by kernel_rfl) (by kernel_rfl) (by kernel_rfl) (fun _ _ _ h => h) (Or.inl ⟨by rfl, ?_⟩) hHeld ?_
  rotate_left
  · intro W hS
    try dsimp only at hS
    go_simp
    try with_reducible rfl
  try simp only [List.getElem_toArray, List.getElem_cons_succ, List.getElem_cons_zero, Act.put, List.setIfInBounds_toArray, List.set_cons_zero, List.set_cons_succ]
  refine wpAnyH_ready (rs := [4]) (by kernel_rfl) (by simp) ?_
  refine (AllReadyH.cons rfl (fun K hK => ?_) AllReadyH.nil)
  go_simp
  refine hK.out _ _ (keepK KK.out (hHeld.1.alloc hHeld.1.size _)) (fun hHeld => ?_)
  clear hK K
  try simp only [List.getElem_toArray, List.getElem_cons_succ, List.getElem_cons_zero, Act.put, List.setIfInBounds_toArray, List.set_cons_zero, List.set_cons_succ]
  refine wpAnyH_ready (rs := [5]) (by kernel_rfl) (by simp) ?_
  refine (AllReadyH.cons rfl (fun K hK => ?_) AllReadyH.nil)
  go_simp
  refine (int2 (a := r) (b := s) (by simp) (by simp) hr hs).mono ?_
  rintro en w3 ⟨A3, r3, q3, rfl, hR3, hr3, hb⟩
  refine hK.out _ _ (keepK KK.out (below_after hHeld.1 hb hHeld.1.size)) (fun hHeld => ?_)
  clear hK K
  try simp only [List.getElem_toArray, List.getElem_cons_succ, List.getElem_cons_zero, Act.put, List.setIfInBounds_toArray, List.set_cons_zero, List.set_cons_succ]
  refine wpAnyH_ready (rs := [8]) (by kernel_rfl) (by simp) ?_
  refine (AllReadyH.cons rfl (fun K hK => ?_) AllReadyH.nil)
  have hsz := hHeld.1.size
  go_simp
  refine (pairs_any (B := w3.heap.size) _ hR3 ((HL1.out.below (hHeld.1.mono (by have := HB.size; omega))).more (by have h1 := hsz; have h2 := HB.size; first | omega | (simp at h1 ⊢; omega))) (Nat.le_refl _) hpok (by omega) hm).mono ?_
  rintro en w4 ⟨v4, rfl, hown4, hb⟩
  refine hK.out _ _ (keepK KK.out (below_after hHeld.1 hb hHeld.1.size)) (fun hHeld => ?_)
  clear hK K
  try simp only [List.getElem_toArray, List.getElem_cons_succ, List.getElem_cons_zero, Act.put, List.setIfInBounds_toArray, List.set_cons_zero, List.set_cons_succ]
  refine wpAnyH_take (i := 9) (v := ?_) rfl (by kernel_rfl) (by kernel_rfl) (by kernel_rfl) (fun _ _ _ h => h) (Or.inl ⟨by rfl, ?_⟩) hHeld ?_
  rotate_left
  · intro W hS
    try dsimp only at hS
    go_simp
    try with_reducible rfl
  try simp only [List.getElem_toArray, List.getElem_cons_succ, List.getElem_cons_zero, Act.put, List.setIfInBounds_toArray, List.set_cons_zero, List.set_cons_succ]
  refine wpAnyH_take (i := 10) (v := ?_) rfl (by kernel_rfl) (by kernel_rfl) (by kernel_rfl) (fun _ _ _ h => h) (Or.inl ⟨by rfl, ?_⟩) hHeld ?_
  rotate_left
  · intro W hS
    try dsimp only at hS
    go_simp
    try with_reducible rfl
  try simp only [List.getElem_toArray, List.getElem_cons_succ, List.getElem_cons_zero, Act.put, List.setIfInBounds_toArray, List.set_cons_zero, List.set_cons_succ]
  refine wpAnyH_done (by kernel_rfl) ?_ _
  go_wp2_with fail
  go_ret2
  exact ⟨_, rfl, own_le hown4 (by have h1 := hsz; have h2 := HB.size; first | omega | (simp at h1 ⊢; omega)), HB.trans (hHeld.1.mono HB.size)⟩

set_option maxRecDepth 100000 in
set_option maxHeartbeats 2000000 in
theorem bat_yes2 {B m c : Nat} {A : Option Addr} {l : List Pr} (r s : Int) (w : World) (hl : Reads w B 2 A m (prCells l)) (hB : B ≤ w.heap.size) (hm : m ≤ 1000000) (hr : IN64 r) (hs : IN64 s) (hpok : ∀ p ∈ l, p.ok) (h0 : ¬ r < 0) (h1 : ¬ s < 0) (hrs : ¬ r ≤ s) (hri : riseB l = true) : Calls Try.prog 38 #[.agg #[.int .i64 r, .int .i64 s, .slice A m c]] w fun en w' => ∃ v, en = .returned (.tuple #[v, .int .i64 0]) ∧ w'.ownsRow w.heap.size 5 1 v (batBytes r s l).length (u8s (batBytes r s l)) ∧ Below w.heap.size w w' := by
  have HRI := Lib.hid hri
  clear hri
  go_enter Try.func38, Try.ntmps38
  go_wp2_with fail
  refine (rise_any (B := B) _ (hl.alloc hB _) (by simp; omega) hm).mono ?_
  rw [HRI.out]
  rintro en w1 ⟨rfl, hb⟩
  have K0 := Blk.on (g := w.heap.size) (t := 68) (cs := #[.int .i64 r, .int .i64 s, .slice A m c]) (by repeat (first | exact Blk.at_ _ _ _ (by simp) | refine Blk.alloc ?_ _)) hb
  have HB := below_after ((Below.refl w.heap.size w).alloc (Nat.le_refl _) _) hb (by simp)
  have HL1 := Lib.hid (hl.below (HB.mono hB))
  have c0 := K0.c
  have z0 := K0.lt
  clear hb
  go_wp2_with fail
  have KK := Lib.hid K0
  clear c0 K0
  refine wp_region_held_drew (S := (fun W => Below w1.heap.size w1 W ∧ (∀ i, W.cell? ⟨w.heap.size, i, none⟩ = #[.int .i64 r, .int .i64 s, .slice A m c][i]?))) (by kernel_rfl) (⟨(Below.refl _ _).drew, KK.out.c⟩) (fun hHeld => ?_)
  refine wpAnyH_take (i := 0) (v := ?_) rfl (by kernel_rfl) (by kernel_rfl) (by kernel_rfl) (fun _ _ _ h => h) (Or.inl ⟨by rfl, ?_⟩) hHeld ?_
  rotate_left
  · intro W hS
    try dsimp only at hS
    go_simp
    try with_reducible rfl
  try simp only [List.getElem_toArray, List.getElem_cons_succ, List.getElem_cons_zero, Act.put, List.setIfInBounds_toArray, List.set_cons_zero, List.set_cons_succ]
  refine wpAnyH_take (i := 1) (v := ?_) rfl (by kernel_rfl) (by kernel_rfl) (by kernel_rfl) (fun _ _ _ h => h) (Or.inl ⟨by rfl, ?_⟩) hHeld ?_
  rotate_left
  · intro W hS
    try dsimp only at hS
    go_simp
    try with_reducible rfl
  try simp only [List.getElem_toArray, List.getElem_cons_succ, List.getElem_cons_zero, Act.put, List.setIfInBounds_toArray, List.set_cons_zero, List.set_cons_succ]
  refine wpAnyH_take (i := 2) (v := ?_) rfl (by kernel_rfl) (by kernel_rfl) (by kernel_rfl) (fun _ _ _ h => h) (Or.inl ⟨by rfl, ?_⟩) hHeld ?_
  rotate_left
  · intro W hS
    try dsimp only at hS
    go_simp
    try with_reducible rfl
  try simp only [List.getElem_toArray, List.getElem_cons_succ, List.getElem_cons_zero, Act.put, List.setIfInBounds_toArray, List.set_cons_zero, List.set_cons_succ]
  refine wpAnyH_take (i := 3) (v := ?_) rfl (by kernel_rfl) (by kernel_rfl) (by kernel_rfl) (fun _ _ _ h => h) (Or.inl ⟨by rfl, ?_⟩) hHeld ?_
  rotate_left
  · intro W hS
    try dsimp only at hS
    go_simp
    try with_reducible rfl
  try simp only [List.getElem_toArray, List.getElem_cons_succ, List.getElem_cons_zero, Act.put, List.setIfInBounds_toArray, List.set_cons_zero, List.set_cons_succ]
  refine wpAnyH_take (i := 6) (v := ?_) rfl (by kernel_rfl) (by kernel_rfl) (by kernel_rfl) (fun _ _ _ h => h) (Or.inl ⟨by rfl, ?_⟩) hHeld ?_
  rotate_left
  · intro W hS
    try dsimp only at hS
    go_simp
    try with_reducible rfl
  try simp only [List.getElem_toArray, List.getElem_cons_succ, List.getElem_cons_zero, Act.put, List.setIfInBounds_toArray, List.set_cons_zero, List.set_cons_succ]
  refine wpAnyH_take (i := 7) (v := ?_) rfl (by kernel_rfl) (by kernel_rfl) (by kernel_rfl) (fun _ _ _ h => h) (Or.inl ⟨by rfl, ?_⟩) hHeld ?_
  rotate_left
  · intro W hS
    try dsimp only at hS
    go_simp
    try with_reducible rfl
  try simp only [List.getElem_toArray, List.getElem_cons_succ, List.getElem_cons_zero, Act.put, List.setIfInBounds_toArray, List.set_cons_zero, List.set_cons_succ]
  refine wpAnyH_ready (rs := [4]) (by kernel_rfl) (by simp) ?_
  refine (AllReadyH.cons rfl (fun K hK => ?_) AllReadyH.nil)
  go_simp
  refine hK.out _ _ (keepK KK.out (hHeld.1.alloc hHeld.1.size _)) (fun hHeld => ?_)
  clear hK K
  try simp only [List.getElem_toArray, List.getElem_cons_succ, List.getElem_cons_zero, Act.put, List.setIfInBounds_toArray, List.set_cons_zero, List.set_cons_succ]
  refine wpAnyH_ready (rs := [5]) (by kernel_rfl) (by simp) ?_
  refine (AllReadyH.cons rfl (fun K hK => ?_) AllReadyH.nil)
  go_simp
  refine (int2 (a := r) (b := s) (by simp) (by simp) hr hs).mono ?_
  rintro en w3 ⟨A3, r3, q3, rfl, hR3, hr3, hb⟩
  refine hK.out _ _ (keepK KK.out (below_after hHeld.1 hb hHeld.1.size)) (fun hHeld => ?_)
  clear hK K
  try simp only [List.getElem_toArray, List.getElem_cons_succ, List.getElem_cons_zero, Act.put, List.setIfInBounds_toArray, List.set_cons_zero, List.set_cons_succ]
  refine wpAnyH_ready (rs := [8]) (by kernel_rfl) (by simp) ?_
  refine (AllReadyH.cons rfl (fun K hK => ?_) AllReadyH.nil)
  have hsz := hHeld.1.size
  go_simp
  refine (pairs_any (B := w3.heap.size) _ hR3 ((HL1.out.below (hHeld.1.mono (by have := HB.size; omega))).more (by have h1 := hsz; have h2 := HB.size; first | omega | (simp at h1 ⊢; omega))) (Nat.le_refl _) hpok (by omega) hm).mono ?_
  rintro en w4 ⟨v4, rfl, hown4, hb⟩
  refine hK.out _ _ (keepK KK.out (below_after hHeld.1 hb hHeld.1.size)) (fun hHeld => ?_)
  clear hK K
  try simp only [List.getElem_toArray, List.getElem_cons_succ, List.getElem_cons_zero, Act.put, List.setIfInBounds_toArray, List.set_cons_zero, List.set_cons_succ]
  refine wpAnyH_take (i := 9) (v := ?_) rfl (by kernel_rfl) (by kernel_rfl) (by kernel_rfl) (fun _ _ _ h => h) (Or.inl ⟨by rfl, ?_⟩) hHeld ?_
  rotate_left
  · intro W hS
    try dsimp only at hS
    go_simp
    try with_reducible rfl
  try simp only [List.getElem_toArray, List.getElem_cons_succ, List.getElem_cons_zero, Act.put, List.setIfInBounds_toArray, List.set_cons_zero, List.set_cons_succ]
  refine wpAnyH_take (i := 10) (v := ?_) rfl (by kernel_rfl) (by kernel_rfl) (by kernel_rfl) (fun _ _ _ h => h) (Or.inl ⟨by rfl, ?_⟩) hHeld ?_
  rotate_left
  · intro W hS
    try dsimp only at hS
    go_simp
    try with_reducible rfl
  try simp only [List.getElem_toArray, List.getElem_cons_succ, List.getElem_cons_zero, Act.put, List.setIfInBounds_toArray, List.set_cons_zero, List.set_cons_succ]
  refine wpAnyH_done (by kernel_rfl) ?_ _
  go_wp2_with fail
  go_ret2
  exact ⟨_, rfl, own_le hown4 (by have h1 := hsz; have h2 := HB.size; first | omega | (simp at h1 ⊢; omega)), HB.trans (hHeld.1.mono HB.size)⟩

theorem bat_yes {B m c : Nat} {A : Option Addr} {l : List Pr} (r s : Int) (w : World) (hl : Reads w B 2 A m (prCells l)) (hB : B ≤ w.heap.size) (hm : m ≤ 1000000) (hr : IN64 r) (hs : IN64 s) (hpok : ∀ p ∈ l, p.ok) (h0 : ¬ r < 0) (h1 : ¬ s < 0) (hri : riseB l = true) : Calls Try.prog 38 #[.agg #[.int .i64 r, .int .i64 s, .slice A m c]] w fun en w' => ∃ v, en = .returned (.tuple #[v, .int .i64 0]) ∧ w'.ownsRow w.heap.size 5 1 v (batBytes r s l).length (u8s (batBytes r s l)) ∧ Below w.heap.size w w' := by
  by_cases hrs : r ≤ s
  · exact bat_yes1 r s w hl hB hm hr hs hpok h0 h1 hrs hri
  · exact bat_yes2 r s w hl hB hm hr hs hpok h0 h1 hrs hri

theorem bat_no {B m c : Nat} {A : Option Addr} {l : List Pr} (r s : Int) (w : World) (hl : Reads w B 2 A m (prCells l)) (hB : B ≤ w.heap.size) (hm : m ≤ 1000000) (h : batB r s l = false) : Calls Try.prog 38 #[.agg #[.int .i64 r, .int .i64 s, .slice A m c]] w fun e w' => e = .returned (.tuple #[.slice none 0 0, .int .i64 1]) ∧ Below w.heap.size w w' := by
  by_cases h0 : r < 0
  · exact bat_no_r r s w h0
  by_cases h1 : s < 0
  · exact bat_no_s r s w h0 h1
  cases hri : riseB l
  · exact bat_no_rise r s w hl hB hm h0 h1 hri
  have d0 : decide (0 ≤ r) = true := by simpa using h0
  have d1 : decide (0 ≤ s) = true := by simpa using h1
  unfold batB at h
  rw [d0, d1, hri] at h
  cases h
theorem bat_yes' {B m c : Nat} {A : Option Addr} {l : List Pr} (r s : Int) (w : World) (hl : Reads w B 2 A m (prCells l)) (hB : B ≤ w.heap.size) (hm : m ≤ 1000000) (hr : IN64 r) (hs : IN64 s) (hpok : ∀ p ∈ l, p.ok) (h : batB r s l = true) : Calls Try.prog 38 #[.agg #[.int .i64 r, .int .i64 s, .slice A m c]] w fun en w' => ∃ v, en = .returned (.tuple #[v, .int .i64 0]) ∧ w'.ownsRow w.heap.size 5 1 v (batBytes r s l).length (u8s (batBytes r s l)) ∧ Below w.heap.size w w' := by
  unfold batB at h
  simp only [Bool.and_eq_true, decide_eq_true_eq] at h
  exact bat_yes r s w hl hB hm hr hs hpok (by omega) (by omega) h.2

set_option maxHeartbeats 1000000 in
theorem rbat_no_r {m c : Nat} {A : Option Addr} (r s : Int) (w : World) (h : r < 0) : Calls Try.prog 42 #[.agg #[.int .i64 r, .int .i64 s, .slice A m c]] w fun e w' => e = .returned (.tuple #[.slice none 0 0, .int .i64 1]) ∧ Below w.heap.size w w' := by
  go_enter Try.func42, Try.ntmps42
  go_wp2_with fail
  all_goals
    go_ret2
    exact ⟨rfl, (Below.refl _ _).alloc (Nat.le_refl _) _⟩

set_option maxHeartbeats 1000000 in
theorem rbat_no_s {m c : Nat} {A : Option Addr} (r s : Int) (w : World) (h0 : ¬ r < 0) (h : s < 0) : Calls Try.prog 42 #[.agg #[.int .i64 r, .int .i64 s, .slice A m c]] w fun e w' => e = .returned (.tuple #[.slice none 0 0, .int .i64 1]) ∧ Below w.heap.size w w' := by
  go_enter Try.func42, Try.ntmps42
  go_wp2_with fail
  all_goals
    go_ret2
    exact ⟨rfl, (Below.refl _ _).alloc (Nat.le_refl _) _⟩

set_option maxRecDepth 100000 in
set_option maxHeartbeats 2000000 in
theorem rbat_no_rise {B m c : Nat} {A : Option Addr} {l : List Pr} (r s : Int) (w : World) (hl : Reads w B 2 A m (prCells l)) (hB : B ≤ w.heap.size) (hm : m ≤ 1000000) (h0 : ¬ r < 0) (h1 : ¬ s < 0) (hri : riseB l = false) : Calls Try.prog 42 #[.agg #[.int .i64 r, .int .i64 s, .slice A m c]] w fun e w' => e = .returned (.tuple #[.slice none 0 0, .int .i64 1]) ∧ Below w.heap.size w w' := by
  have HRI := Lib.hid hri
  clear hri
  go_enter Try.func42, Try.ntmps42
  go_wp2_with fail
  refine (rrise_any (B := B) _ (hl.alloc hB _) (by simp; omega) hm).mono ?_
  rw [HRI.out]
  rintro en w1 ⟨rfl, hb⟩
  have K0 := Blk.on (g := w.heap.size) (t := 68) (cs := #[.int .i64 r, .int .i64 s, .slice A m c]) (by repeat (first | exact Blk.at_ _ _ _ (by simp) | refine Blk.alloc ?_ _)) hb
  have HB := below_after ((Below.refl w.heap.size w).alloc (Nat.le_refl _) _) hb (by simp)
  have HL1 := Lib.hid (hl.below (HB.mono hB))
  have c0 := K0.c
  have z0 := K0.lt
  clear hb
  go_wp2_with fail
  go_ret2
  exact ⟨rfl, HB⟩

set_option maxRecDepth 100000 in
set_option maxHeartbeats 2000000 in
theorem rbat_yes {B m c : Nat} {A : Option Addr} {l : List Pr} (r s : Int) (w : World) (hl : Reads w B 2 A m (prCells l)) (hB : B ≤ w.heap.size) (hm : m ≤ 1000000) (hr : IN64 r) (hs : IN64 s) (hpok : ∀ p ∈ l, p.ok) (h0 : ¬ r < 0) (h1 : ¬ s < 0)  (hri : riseB l = true) : Calls Try.prog 42 #[.agg #[.int .i64 r, .int .i64 s, .slice A m c]] w fun en w' => ∃ v, en = .returned (.tuple #[v, .int .i64 0]) ∧ w'.ownsRow w.heap.size 5 1 v (batBytes r s l).length (u8s (batBytes r s l)) ∧ Below w.heap.size w w' := by
  have HRI := Lib.hid hri
  clear hri
  go_enter Try.func42, Try.ntmps42
  go_wp2_with fail
  refine (rrise_any (B := B) _ (hl.alloc hB _) (by simp; omega) hm).mono ?_
  rw [HRI.out]
  rintro en w1 ⟨rfl, hb⟩
  have K0 := Blk.on (g := w.heap.size) (t := 68) (cs := #[.int .i64 r, .int .i64 s, .slice A m c]) (by repeat (first | exact Blk.at_ _ _ _ (by simp) | refine Blk.alloc ?_ _)) hb
  have HB := below_after ((Below.refl w.heap.size w).alloc (Nat.le_refl _) _) hb (by simp)
  have HL1 := Lib.hid (hl.below (HB.mono hB))
  have c0 := K0.c
  have z0 := K0.lt
  clear hb
  go_wp2_with fail
  have KK := Lib.hid K0
  clear c0 K0
  refine wp_region_held_drew (S := (fun W => Below w1.heap.size w1 W ∧ (∀ i, W.cell? ⟨w.heap.size, i, none⟩ = #[.int .i64 r, .int .i64 s, .slice A m c][i]?))) (by kernel_rfl) (⟨(Below.refl _ _).drew, KK.out.c⟩) (fun hHeld => ?_)
  refine wpAnyH_take (i := 0) (v := ?_) rfl (by kernel_rfl) (by kernel_rfl) (by kernel_rfl) (fun _ _ _ h => h) (Or.inl ⟨by rfl, ?_⟩) hHeld ?_
  rotate_left
  · intro W hS
    try dsimp only at hS
    go_simp
    try with_reducible rfl
  try simp only [List.getElem_toArray, List.getElem_cons_succ, List.getElem_cons_zero, Act.put, List.setIfInBounds_toArray, List.set_cons_zero, List.set_cons_succ]
  refine wpAnyH_take (i := 1) (v := ?_) rfl (by kernel_rfl) (by kernel_rfl) (by kernel_rfl) (fun _ _ _ h => h) (Or.inl ⟨by rfl, ?_⟩) hHeld ?_
  rotate_left
  · intro W hS
    try dsimp only at hS
    go_simp
    try with_reducible rfl
  try simp only [List.getElem_toArray, List.getElem_cons_succ, List.getElem_cons_zero, Act.put, List.setIfInBounds_toArray, List.set_cons_zero, List.set_cons_succ]
  refine wpAnyH_take (i := 2) (v := ?_) rfl (by kernel_rfl) (by kernel_rfl) (by kernel_rfl) (fun _ _ _ h => h) (Or.inl ⟨by rfl, ?_⟩) hHeld ?_
  rotate_left
  · intro W hS
    try dsimp only at hS
    go_simp
    try with_reducible rfl
  try simp only [List.getElem_toArray, List.getElem_cons_succ, List.getElem_cons_zero, Act.put, List.setIfInBounds_toArray, List.set_cons_zero, List.set_cons_succ]
  refine wpAnyH_take (i := 3) (v := ?_) rfl (by kernel_rfl) (by kernel_rfl) (by kernel_rfl) (fun _ _ _ h => h) (Or.inl ⟨by rfl, ?_⟩) hHeld ?_
  rotate_left
  · intro W hS
    try dsimp only at hS
    go_simp
    try with_reducible rfl
  try simp only [List.getElem_toArray, List.getElem_cons_succ, List.getElem_cons_zero, Act.put, List.setIfInBounds_toArray, List.set_cons_zero, List.set_cons_succ]
  refine wpAnyH_take (i := 6) (v := ?_) rfl (by kernel_rfl) (by kernel_rfl) (by kernel_rfl) (fun _ _ _ h => h) (Or.inl ⟨by rfl, ?_⟩) hHeld ?_
  rotate_left
  · intro W hS
    try dsimp only at hS
    go_simp
    try with_reducible rfl
  try simp only [List.getElem_toArray, List.getElem_cons_succ, List.getElem_cons_zero, Act.put, List.setIfInBounds_toArray, List.set_cons_zero, List.set_cons_succ]
  refine wpAnyH_take (i := 7) (v := ?_) rfl (by kernel_rfl) (by kernel_rfl) (by kernel_rfl) (fun _ _ _ h => h) (Or.inl ⟨by rfl, ?_⟩) hHeld ?_
  rotate_left
  · intro W hS
    try dsimp only at hS
    go_simp
    try with_reducible rfl
  try simp only [List.getElem_toArray, List.getElem_cons_succ, List.getElem_cons_zero, Act.put, List.setIfInBounds_toArray, List.set_cons_zero, List.set_cons_succ]
  refine wpAnyH_ready (rs := [4]) (by kernel_rfl) (by simp) ?_
  refine (AllReadyH.cons rfl (fun K hK => ?_) AllReadyH.nil)
  go_simp
  refine hK.out _ _ (keepK KK.out (hHeld.1.alloc hHeld.1.size _)) (fun hHeld => ?_)
  clear hK K
  try simp only [List.getElem_toArray, List.getElem_cons_succ, List.getElem_cons_zero, Act.put, List.setIfInBounds_toArray, List.set_cons_zero, List.set_cons_succ]
  refine wpAnyH_ready (rs := [5]) (by kernel_rfl) (by simp) ?_
  refine (AllReadyH.cons rfl (fun K hK => ?_) AllReadyH.nil)
  go_simp
  refine (rint2 (a := r) (b := s) (by simp) (by simp) hr hs).mono ?_
  rintro en w3 ⟨A3, r3, q3, rfl, hR3, hr3, hb⟩
  refine hK.out _ _ (keepK KK.out (below_after hHeld.1 hb hHeld.1.size)) (fun hHeld => ?_)
  clear hK K
  try simp only [List.getElem_toArray, List.getElem_cons_succ, List.getElem_cons_zero, Act.put, List.setIfInBounds_toArray, List.set_cons_zero, List.set_cons_succ]
  refine wpAnyH_ready (rs := [8]) (by kernel_rfl) (by simp) ?_
  refine (AllReadyH.cons rfl (fun K hK => ?_) AllReadyH.nil)
  have hsz := hHeld.1.size
  go_simp
  refine (rpairs_any (B := w3.heap.size) _ hR3 ((HL1.out.below (hHeld.1.mono (by have := HB.size; omega))).more (by have h1 := hsz; have h2 := HB.size; first | omega | (simp at h1 ⊢; omega))) (Nat.le_refl _) hpok (by omega) hm).mono ?_
  rintro en w4 ⟨v4, rfl, hown4, hb⟩
  refine hK.out _ _ (keepK KK.out (below_after hHeld.1 hb hHeld.1.size)) (fun hHeld => ?_)
  clear hK K
  try simp only [List.getElem_toArray, List.getElem_cons_succ, List.getElem_cons_zero, Act.put, List.setIfInBounds_toArray, List.set_cons_zero, List.set_cons_succ]
  refine wpAnyH_take (i := 9) (v := ?_) rfl (by kernel_rfl) (by kernel_rfl) (by kernel_rfl) (fun _ _ _ h => h) (Or.inl ⟨by rfl, ?_⟩) hHeld ?_
  rotate_left
  · intro W hS
    try dsimp only at hS
    go_simp
    try with_reducible rfl
  try simp only [List.getElem_toArray, List.getElem_cons_succ, List.getElem_cons_zero, Act.put, List.setIfInBounds_toArray, List.set_cons_zero, List.set_cons_succ]
  refine wpAnyH_take (i := 10) (v := ?_) rfl (by kernel_rfl) (by kernel_rfl) (by kernel_rfl) (fun _ _ _ h => h) (Or.inl ⟨by rfl, ?_⟩) hHeld ?_
  rotate_left
  · intro W hS
    try dsimp only at hS
    go_simp
    try with_reducible rfl
  try simp only [List.getElem_toArray, List.getElem_cons_succ, List.getElem_cons_zero, Act.put, List.setIfInBounds_toArray, List.set_cons_zero, List.set_cons_succ]
  refine wpAnyH_done (by kernel_rfl) ?_ _
  go_wp2_with fail
  go_ret2
  exact ⟨_, rfl, own_le hown4 (by have h1 := hsz; have h2 := HB.size; first | omega | (simp at h1 ⊢; omega)), HB.trans (hHeld.1.mono HB.size)⟩

theorem rbat_no {B m c : Nat} {A : Option Addr} {l : List Pr} (r s : Int) (w : World) (hl : Reads w B 2 A m (prCells l)) (hB : B ≤ w.heap.size) (hm : m ≤ 1000000) (h : batB r s l = false) : Calls Try.prog 42 #[.agg #[.int .i64 r, .int .i64 s, .slice A m c]] w fun e w' => e = .returned (.tuple #[.slice none 0 0, .int .i64 1]) ∧ Below w.heap.size w w' := by
  by_cases h0 : r < 0
  · exact rbat_no_r r s w h0
  by_cases h1 : s < 0
  · exact rbat_no_s r s w h0 h1
  cases hri : riseB l
  · exact rbat_no_rise r s w hl hB hm h0 h1 hri
  have d0 : decide (0 ≤ r) = true := by simpa using h0
  have d1 : decide (0 ≤ s) = true := by simpa using h1
  unfold batB at h
  rw [d0, d1, hri] at h
  cases h
theorem rbat_yes' {B m c : Nat} {A : Option Addr} {l : List Pr} (r s : Int) (w : World) (hl : Reads w B 2 A m (prCells l)) (hB : B ≤ w.heap.size) (hm : m ≤ 1000000) (hr : IN64 r) (hs : IN64 s) (hpok : ∀ p ∈ l, p.ok) (h : batB r s l = true) : Calls Try.prog 42 #[.agg #[.int .i64 r, .int .i64 s, .slice A m c]] w fun en w' => ∃ v, en = .returned (.tuple #[v, .int .i64 0]) ∧ w'.ownsRow w.heap.size 5 1 v (batBytes r s l).length (u8s (batBytes r s l)) ∧ Below w.heap.size w w' := by
  unfold batB at h
  simp only [Bool.and_eq_true, decide_eq_true_eq] at h
  exact rbat_yes r s w hl hB hm hr hs hpok (by omega) (by omega) h.2
end Go.Proofs.Ytejijghghbicdaa
