/-
  PackLong: a number with more bytes than it wants is none: the cursor reads 0, is bad, and nothing is left; the call returns true and changes nothing that was in memory.
-/
import Derived.Test.YtejijghghbicdaaCursor2
import Derived.Test.YtejijghghbicdaaOpen
import Derived.Outline
import Derived.RegionTactic
namespace Go.Proofs.Ytejijghghbicdaa
open Go.ChangeShapes Go.WideShapes Go.ChangeAt Go.RowKit Go.Joins
set_option linter.unusedSimpArgs false
set_option linter.unusedVariables false

theorem enc_form (n : Nat) : ∃ p z, enc n = p ++ [z] ∧ z < 128 ∧ ∀ d ∈ p, 128 ≤ d ∧ d < 256 := by
  induction n using Nat.strongRecOn with
  | ind n ih =>
    rcases Nat.lt_or_ge n 128 with h | h
    · exact ⟨[], n, by rw [enc_lo h]; rfl, h, by simp⟩
    · obtain ⟨p, z, e, hz, hp⟩ := ih (n / 128) (by omega)
      refine ⟨(n % 128 + 128) :: p, z, by rw [enc_hi h, e]; rfl, hz, fun d hd => ?_⟩
      rcases List.mem_cons.1 hd with h | h
      · omega
      · exact hp d h
theorem scan_long (l : List Nat) : ∀ k x, (0 < k ∨ l ≠ []) → (∀ d ∈ l, 128 ≤ d) → scan k x (l ++ [0]) = none := by
  induction l with
  | nil =>
    intro k x h _
    have hk : 0 < k := h.resolve_right (by simp)
    simp [scan, hk]
  | cons d l ih =>
    intro k x _ hl
    have hd := hl d (List.mem_cons_self ..)
    rw [List.cons_append, scan]
    split
    · rfl
    · exact ih _ _ (.inl (by omega)) (fun d hd => hl d (List.mem_cons_of_mem _ hd))
theorem or128u {z : Nat} (h : z < 256) : bits .or .u8 (z : Int) 128 = ((z % 128 + 128 : Nat) : Int) := by
  have h1 : ∀ a : Fin 256, bits .or .u8 ((a.val : Nat) : Int) 128 = ((a.val % 128 + 128 : Nat) : Int) := by decide +kernel
  exact h1 ⟨z, h⟩
theorem rd_long {l : List Nat} (h0 : 0 < l.length) (h : ∀ d ∈ l, 128 ≤ d) : rd topW (l ++ [0]) = none := by
  refine rd_none fun y j hs => ?_
  rw [scan_long l 0 0 (.inr (by intro e; subst e; simp at h0)) h] at hs
  cases hs
theorem cword_long {g : Nat} {l : List Nat} {bad : Bool} (w : World) (h0 : 0 < l.length) (hl : ∀ d ∈ l, 128 ≤ d ∧ d < 256) (h : PC w g (l ++ [0]) bad) :
    Calls Try.prog 24 #[.pointer (some ⟨g, 0, none⟩)] w fun e w' => e = .returned (.int .u64 0) ∧ PC w' g [] true ∧ w.grownBy w' (some g) := by
  refine (cword_any w h (fun d hd => ?_)).mono ?_
  · rcases List.mem_append.1 hd with h | h
    · exact (hl d h).2
    · simp at h; omega
  · rintro e w' ⟨rfl, hp, hg⟩
    have e1 := rd_long h0 (fun d hd => (hl d hd).1)
    simp only [rdV, rdL, rdB, e1, Option.map_none, Option.getD_none, Option.isSome_none] at hp ⊢
    exact ⟨rfl, hp, hg⟩
theorem cword_none {g : Nat} {bad : Bool} (w : World) (h : PC w g [] bad) :
    Calls Try.prog 24 #[.pointer (some ⟨g, 0, none⟩)] w fun e w' => e = .returned (.int .u64 0) ∧ PC w' g [] true ∧ w.grownBy w' (some g) := by
  refine (cword_any w h (by simp)).mono ?_
  rintro e w' ⟨rfl, hp, hg⟩
  have e1 : rd topW [] = none := rfl
  simp only [rdV, rdL, rdB, e1, Option.map_none, Option.getD_none, Option.isSome_none] at hp ⊢
  exact ⟨rfl, hp, hg⟩

set_option maxHeartbeats 400000 in
theorem long_early {n m : Int} (w : World) (hm : IN64 m) (h : m < 1 ∨ 12 < m) :
    Calls Try.prog 6 #[.int .u64 n, .int .i64 m] w fun e w' => e = .returned (.bool true) ∧ Below w.heap.size w w' := by
  rcases h with h | h
  · go_enter Try.func6, Try.ntmps6
    go_wp2_with fail
    refine (alive1_any _).mono ?_
    rintro e w1 ⟨rfl, hb⟩
    go_wp2_with fail
    go_ret
    exact ⟨rfl, hb⟩
  · have h1 : ¬ m < 1 := by omega
    go_enter Try.func6, Try.ntmps6
    go_wp2_with fail
    refine (alive1_any _).mono ?_
    rintro e w1 ⟨rfl, hb⟩
    go_wp2_with fail
    go_ret
    exact ⟨rfl, hb⟩

theorem own_last {w : World} {b e g c k : Nat} {p : List Nat} {z : Nat} (h : w.ownsRow b e 1 (.slice (some ⟨g, 0, none⟩) (k + 1) c) (k + 1) (u8s (p ++ [z]))) (hk : p.length = k) :
    w.cell? ⟨g, k, none⟩ = some (.int .u8 (z : Nat)) := by
  rw [h.cellAt k (by omega), ← hk]
  simp [u8s]
theorem own_last_set {w : World} {b e g c k : Nat} {p : List Nat} {z z' : Nat} (h : w.ownsRow b e 1 (.slice (some ⟨g, 0, none⟩) (k + 1) c) (k + 1) (u8s (p ++ [z]))) (hk : p.length = k) :
    (w.setCell ⟨g, k, none⟩ (.int .u8 (z' : Nat))).ownsRow b e 1 (.slice (some ⟨g, 0, none⟩) (k + 1) c) (k + 1) (u8s (p ++ [z'])) := by
  have := (h.stored k (.int .u8 (z' : Nat))).1
  rw [← hk] at this ⊢
  have e : (u8s (p ++ [z])).set p.length (.int .u8 (z' : Nat)) = u8s (p ++ [z']) := by
    simp [u8s, List.set_append]
  rwa [e] at this

set_option maxRecDepth 100000 in
set_option maxHeartbeats 600000 in
theorem long_main {n m : Nat} (w : World) (hn : W64 n) (h1 : 1 ≤ m) (h12 : m ≤ 12) :
    Calls Try.prog 6 #[.int .u64 n, .int .i64 m] w fun e w' => e = .returned (.bool true) ∧ Below w.heap.size w w' := by
  have hnm1 : ¬ ((m : Int) < 1) := by omega
  have hnm2 : ¬ (12 < (m : Int)) := by omega
  obtain ⟨i0, hi0, hz0, hz1, hz2⟩ := info_parts infoU8
  go_enter Try.func6, Try.ntmps6
  go_wp2_with fail
  refine (alive1_any _).mono ?_
  rintro e w1 ⟨rfl, hb1⟩
  go_wp2_with fail
  refine (word_any (B := w1.heap.size + 1) (xs := []) (ys := [n]) _ (reads_nil _ _ _) (reads_one w1 (.int .u64 n) 33) (by simp) (by intro y hy; simp at hy; subst hy; exact hn) (by omega) (by omega)).mono ?_
  rintro e w2 ⟨v, rfl, hown, hb2⟩
  obtain ⟨p, z, he, hz, hp⟩ := enc_form n
  have hl10 : p.length ≤ 9 := by have := enc_len10 hn; rw [he] at this; simp at this; omega
  rw [List.nil_append, encs_cons, encs_nil, List.append_nil, he] at hown
  obtain ⟨k, hk⟩ : ∃ k, k = p.length := ⟨_, rfl⟩
  have hown : w2.ownsRow w.heap.size 5 1 v (k + 1) (u8s (p ++ [z])) := by
    rw [hk]; have := own_le hown (base' := w.heap.size) (by simp; have := hb1.size; omega); simpa using this
  have HB2 : Below w.heap.size w w2 := below_after (hb1.alloc hb1.size _) hb2 (by simp; have := hb1.size; omega)
  have hk9 : k ≤ 9 := by omega
  have HK := Lib.hid hk.symm
  clear he hk hl10 hb1 hb2
  obtain ⟨g, c, rfl⟩ := ownsRow_form hown (by omega)
  have hgl := (hown.lt g rfl)
  have hc := own_last hown HK.out
  have hf := hown.frozenAt k
  go_wp2_with fail
  have ho := own_last_set hown (z' := z % 128 + 128) HK.out
  have HB3 : Below w.heap.size w (w2.setCell ⟨g, k, none⟩ (.int .u8 ((z % 128 + 128 : Nat) : Int))) := HB2.grown (hown.stored k _).2 HB2.size (fun g' e => by injection e with e; omega)
  have HP := Lib.hid (show (∀ d ∈ p ++ [z % 128 + 128], 128 ≤ d ∧ d < 256) ∧ 0 < (p ++ [z % 128 + 128]).length ∧ (p ++ [z % 128 + 128]).length = k + 1 from ⟨fun d hd => by rcases List.mem_append.1 hd with h | h; exact hp d h; simp at h; omega, by simp, by simp [HK.out]⟩)
  rw [← or128u (show z < 256 by omega)] at ho HB3
  clear hc hf hp hown HB2 hn hgl
  generalize p ++ [z % 128 + 128] = l0 at ho HP
  go_loopw [6, 7] (fun v i wr => ∃ (j : Nat) (l : List Nat), 1 ≤ j ∧ j ≤ m ∧ i = .int .i64 (j : Nat) ∧ wr.ownsRow w.heap.size 5 1 v l.length (u8s l) ∧ Below w.heap.size w wr ∧ Hid ((∀ d ∈ l, 128 ≤ d ∧ d < 256) ∧ 0 < l.length ∧ l.length = k + j)) (fun _ i _ => m - (intOf i).toNat)
  case atStart => exact ⟨1, l0, by omega, by omega, rfl, by rw [HP.out.2.2]; exact ho, HB3, HP⟩
  case round =>
    obtain ⟨j, l, hj1, hjm, rfl, hown, hb, HL⟩ := hrel
    have HLL := Lib.hid (show l.length ≤ 21 by have := HL.out; omega)
    by_cases hlt : j < m
    · go_wp2_with (at_builtin; refine wpList_append_own _ rfl _ _ 22 rfl w.heap.size 5 i0 (.int .u8 0) 1 1 Try.underlying22 hi0 hz0 hz1 hz2 rfl (by decide) _ _ _ rfl (hown.alloc _) ⟨wr.heap.size, 0, none⟩ 1 1 [_] rfl rfl (cell_one_new _ _ _) ?c2 ?c3 ?c4 ?c5 ?_)
      case c2 => intro u hu; simp at hu; subst hu; rfl
      case c3 => have := HLL.out; unfold maxLen; omega
      case c4 => have := HLL.out; omega
      case c5 => have := hb.size; simp; omega
      intro v2 w3 hown3 hg _
      have hown4 : w3.ownsRow w.heap.size 5 1 v2 (l ++ [128]).length (u8s (l ++ [128])) := own_push hown3 (by simp)
      have hb3 : Below w.heap.size w w3 := (hb.alloc hb.size _).grown hg (by have := hb.size; simp; omega) (fun g hg' => (hown.lt g hg').1)
      have HL2 := Lib.hid (show (∀ d ∈ l ++ [128], 128 ≤ d ∧ d < 256) ∧ 0 < (l ++ [128]).length ∧ (l ++ [128]).length = k + (j + 1) from ⟨fun d hd => by rcases List.mem_append.1 hd with h | h; exact HL.out.1 d h; simp at h; omega, by simp, by have := HL.out.2.2; simp; omega⟩)
      clear hown3 hg hown hb HL HLL
      go_wp2
      go_roundw
      case rel => exact ⟨j + 1, l ++ [128], by omega, by omega, by go_num, hown4, hb3, HL2⟩
      case measure => simp [intOf]; omega
    · go_wp2_with (at_builtin; refine wpList_append_own _ rfl _ _ 22 rfl w.heap.size 5 i0 (.int .u8 0) 1 1 Try.underlying22 hi0 hz0 hz1 hz2 rfl (by decide) _ _ _ rfl (hown.alloc _) ⟨wr.heap.size, 0, none⟩ 1 1 [_] rfl rfl (cell_one_new _ _ _) ?c2 ?c3 ?c4 ?c5 ?_)
      case c2 => intro u hu; simp at hu; subst hu; rfl
      case c3 => have := HLL.out; unfold maxLen; omega
      case c4 => have := HLL.out; omega
      case c5 => have := hb.size; simp; omega
      intro v2 w3 hown3 hg _
      obtain ⟨N, hN⟩ : ∃ N, N = (l ++ [0]).length := ⟨_, rfl⟩
      have hown4 : w3.ownsRow w.heap.size 5 1 v2 N (u8s (l ++ [0])) := by rw [hN]; exact own_push hown3 (by simp)
      have hb3 : Below w.heap.size w w3 := (hb.alloc hb.size _).grown hg (by have := hb.size; simp; omega) (fun g hg' => (hown.lt g hg').1)
      obtain ⟨A, q, rfl⟩ := own_form hown4
      have hD := Reads.of_own hown4
      have hll : N ≤ 22 := by have := HLL.out; rw [hN]; simp; omega
      clear hown3 hg hown hb hown4 hN
      go_wp2_with fail
      refine (new_any (B := w3.heap.size) _ hD (Nat.le_refl _) (by omega)).mono ?_
      rintro e w4 ⟨g2, rfl, hg2, hp, hb4⟩
      have HB4 : Below w.heap.size w w4 := below_after hb3 hb4 hb3.size
      have hwg : w.heap.size ≤ g2 := Nat.le_trans hb3.size hg2
      clear hD hll hb4 hb3
      go_wp2_with fail
      refine (cword_long _ HL.out.2.1 HL.out.1 hp).mono ?_
      rintro e w5 ⟨rfl, hp5, hg5⟩
      have HB5 := HB4.grown hg5 HB4.size (fun g' e => by injection e with e; omega)
      clear hp hg5
      go_wp2_with fail
      refine (cbad_any _ hp5).mono ?_
      rintro e w6 ⟨rfl, rfl⟩
      go_wp2_with fail
      refine (cleft_any _ hp5).mono ?_
      rintro e w6 ⟨rfl, rfl⟩
      go_wp2_with fail
      refine (cend_any _ hp5).mono ?_
      rintro e w6 ⟨rfl, rfl⟩
      go_wp2_with fail
      refine (cword_none _ hp5).mono ?_
      rintro e w6 ⟨rfl, _, hg6⟩
      have HB6 := HB5.grown hg6 HB5.size (fun g' e => by injection e with e; omega)
      go_wp2_with fail
      go_ret
      exact ⟨rfl, HB6⟩

theorem packLong_walk (n m : Int) (w : World) (hn : (Lit.int .u64 n).wf = true) (hm : (Lit.int .i64 m).wf = true) :
    Calls Try.prog 6 #[.int .u64 n, .int .i64 m] w fun e w' => e = .returned (.bool true) ∧ Below w.heap.size w w' := by
  have h1 := bounds_i64 hm
  have h2 := bounds_u64 hn
  by_cases h : m < 1 ∨ 12 < m
  · exact long_early w ⟨h1.2, h1.1⟩ h
  · obtain ⟨k, rfl⟩ : ∃ k : Nat, m = k := ⟨m.toNat, by omega⟩
    obtain ⟨x, rfl⟩ : ∃ x : Nat, n = x := ⟨n.toNat, by omega⟩
    exact long_main w (by unfold W64; omega) (by omega) (by omega)


namespace packLong
set_option maxRecDepth 100000 in
theorem contract (H : Type) (enc : TypeId × Value → H) (W : World) (base : Nat) (args : Array Value) (ds gs : List (DataW H)) (before : List MemPlace)
    (hval : ∀ (j : Nat) t v, Try.f6.params[j]? = some t → args[j]? = some v → Value.okWide Try.prog W .any base t v)
    (hW : DataW.Whole enc Try.prog Try.f6.params.toList Rows.packLongSpec.vars false W args.toList ds gs before) :
    Calls Try.prog 6 args W fun e W' => ∃ v, e = .returned v ∧ Rows.packLongSpec.post enc Try.prog Try.f6 false true false false W args v W' := by
  have hWc := hW
  obtain ⟨p, q, hA0, hV, _, _, _⟩ := hW
  have hA : DataW.TrodAll enc Try.prog W 0 (fun _ => true) true Try.f6.params.toList args.toList ds p := hA0
  clear hA0
  rw [Try.params6] at hA hval
  obtain ⟨v0, vs0, d0, ds0, p0, q0, hargs, rfl, rfl, h0, r0⟩ := trodAll_cons hA
  obtain ⟨v1, vs1, d1, ds1, p1, q1, rfl, rfl, rfl, h1, r1⟩ := trodAll_cons r0
  obtain ⟨rfl, rfl, rfl⟩ := trodAll_nil r1
  obtain rfl : args = #[v0, v1] := by cases args; simp_all
  obtain ⟨a0, rfl, rfl, rfl, wa0⟩ := open_int Try.underlying33 (hval 0 33 v0 rfl rfl) h0
  obtain ⟨a1, rfl, rfl, rfl, wa1⟩ := open_int Try.underlying3 (hval 1 3 v1 rfl rfl) h1
  refine (packLong_walk a0 a1 W wa0 wa1).mono fun e W' ⟨he, hb⟩ => ⟨_, he, ?_⟩
  exact post_true hWc rfl hb laidOut (readables (by kernel_rfl)) rfl Try.underlying4 (fun h => by subst h; rfl)

set_option maxRecDepth 100000 in
theorem lifted (os : Os) (started : os.Started) (H : Type) (enc : TypeId × Value → H) :
    ReturnsInHanded {} Try.checked os 6 .any (Rows.packLongSpec.pre6 enc Try.prog Try.f6 Rows.packLongRow.domain false) (Rows.packLongSpec.post enc Try.prog Try.f6 false true false false) := by
  refine returnsInHanded_of_change (C := Try.checked) own started (by kernel_rfl) Try.func6
    (ChangeSpec.witness6 (enc := enc) (C := Try.checked) false ⟨#[], #[.int .u64 0, .int .i64 0], []⟩ 8 (by kernel_rfl) (by kernel_rfl) (by kernel_rfl) (by kernel_rfl)) ?_
  intro W base args ds gs before hval hW _ _
  exact contract H enc W base args ds gs before hval hW

theorem proved : Rows.PackLongSaid :=
  OpenClaim.holds_of_wide 6 Try.f6 rfl rfl rfl rfl rfl rfl rfl ⟨rfl, rfl, rfl, rfl, rfl⟩ rfl rfl rfl rfl rfl (by kernel_rfl) Try.func6 (by kernel_rfl)
    (of_decide_eq_true (by kernel_rfl)) (by unfold Func.isWrapper; first | (rw [if_pos (by decide +kernel)]; kernel_rfl) | (rw [if_neg (by decide +kernel)]; exact ⟨rfl, rfl⟩))
    (fun os started H enc _ => lifted os started H enc)
end packLong
end Go.Proofs.Ytejijghghbicdaa
