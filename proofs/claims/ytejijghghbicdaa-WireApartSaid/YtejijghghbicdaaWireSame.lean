/-
  SamePairs, SameReply, SameBatch, by contracts.
-/
import Derived.Test.YtejijghghbicdaaWireRise
import Derived.BigQuiet
import Derived.Outline
namespace Go.Proofs.Ytejijghghbicdaa
open Go.RowKit
set_option linter.unusedSimpArgs false
set_option linter.unusedVariables false

set_option maxRecDepth 100000 in
set_option maxHeartbeats 2000000 in
theorem sameps_any {B n c m c2 : Nat} {A A2 : Option Addr} {l1 l2 : List Pr} {b : Bool} (w : World) (h1 : Reads w B 2 A n (prCells l1)) (h2 : Reads w B 2 A2 m (prCells l2)) (hb : b = true ↔ l1 = l2) (hn : n ≤ 1000000) (hm : m ≤ 1000000) :
    Calls Try.prog 56 #[.slice A n c, .slice A2 m c2] w fun e w' => e = .returned (.bool b) ∧ ∃ q, w' = w.drewN q := by
  have hl1 := reads_plen h1
  have hl2 := reads_plen h2
  by_cases hnm : n = m
  · subst hnm
    have HL1 := Lib.hid hl1
    have HL2 := Lib.hid hl2
    have HB := Lib.hid hb
    clear hl1 hl2 hb
    go_enter Try.func56, Try.ntmps56
    go_wp2_with fail
    go_loopw [5] (fun i wr => ∃ (k q : Nat), k ≤ n ∧ i = .int .i64 k ∧ wr = w.drewN q ∧ Hid (∀ j, j < k → l1[j]? = l2[j]?)) (fun i _ => n - (intOf i).toNat)
    case atStart => exact ⟨0, 0, Nat.zero_le _, rfl, rfl, Lib.hid (fun j hj => absurd hj (by omega))⟩
    case round =>
      obtain ⟨k, q, hk, rfl, rfl, HE⟩ := hrel
      by_cases hlt : k < n
      · obtain ⟨ad, p, rfl, _, hp, hc0, hc1⟩ := h1.pair hlt
        obtain ⟨ad2, p2, rfl, _, hp2, hd0, hd1⟩ := h2.pair hlt
        obtain ⟨v, x⟩ := p
        obtain ⟨v2, x2⟩ := p2
        simp only at hc0 hc1 hd0 hd1
        have H1 := Lib.hid h1
        have H2 := Lib.hid h2
        have HP := Lib.hid hp
        have HP2 := Lib.hid hp2
        clear h1 h2 hp hp2
        by_cases hv : v = v2
        · subst hv
          by_cases hx : x = x2
          · subst hx
            have hnv : (v != v) = false := by simp
            have hnx : ((x : Int) != (x : Int)) = false := by simp
            go_wp2_with fail
            go_quiet (fail)
            go_wp2_with fail
            go_roundw
            case rel => exact ⟨k + 1, _, by omega, by go_num, rfl, Lib.hid (all_succ HE.out (by rw [HP.out, HP2.out]))⟩
            case measure => simp [intOf]; omega
          · have hb0 : b = false := by
              cases b
              · rfl
              · have := HB.out.1 rfl
                rw [this] at HP
                have := HP.out.symm.trans HP2.out
                simp at this; exact absurd this hx
            have hnx : ((x : Int) == (x2 : Int)) = false := by simp; omega
            have hnx2 : ¬ (x = x2) := hx
            have HB0 := Lib.hid hb0
            clear hb0 hx
            go_wp2_with fail
            go_quiet (fail)
            go_wp2_with fail
            go_ret
            exact ⟨by rw [HB0.out]; rfl, _, World.drewN_drewN ..⟩
        · have hb0 : b = false := by
            cases b
            · rfl
            · have := HB.out.1 rfl
              rw [this] at HP
              have := HP.out.symm.trans HP2.out
              simp at this; exact absurd this.1 hv
          have hnv : (v == v2) = false := by simpa using hv
          have HB0 := Lib.hid hb0
          clear hb0
          go_wp2_with fail
          go_quiet (fail)
          go_wp2_with fail
          go_ret
          exact ⟨by rw [HB0.out]; rfl, _, World.drewN_drewN ..⟩
      · have hb1 : b = true := HB.out.2 (List.ext_getElem? fun j => by
          rcases Nat.lt_or_ge j k with h | h
          · exact HE.out j h
          · rw [List.getElem?_eq_none (by have := HL1.out; omega), List.getElem?_eq_none (by have := HL2.out; omega)])
        have HB1 := Lib.hid hb1
        clear hb1
        go_wp2_with fail
        go_ret
        exact ⟨by rw [HB1.out]; rfl, _, rfl⟩
  · have hb0 : b = false := by
      cases b
      · rfl
      · have := hb.1 rfl
        subst this; omega
    have HB0 := Lib.hid hb0
    have hne : ((n : Int) != (m : Int)) = true := by simp; omega
    clear hb0 hl1 hl2 hb hnm
    go_enter Try.func56, Try.ntmps56
    go_wp2_with fail
    go_ret
    exact ⟨by rw [HB0.out]; rfl, 0, rfl⟩

set_option maxRecDepth 100000 in
set_option maxHeartbeats 2000000 in
theorem samerep_any {B n c m c2 : Nat} {A A2 : Option Addr} {l1 l2 : List Pr} {b d1 d2 : Bool} {i1 i2 e1 e2 : Int} (w : World) (h1 : Reads w B 2 A n (prCells l1)) (h2 : Reads w B 2 A2 m (prCells l2)) (hB : B ≤ w.heap.size) (hb : b = true ↔ i1 = i2 ∧ e1 = e2 ∧ d1 = d2 ∧ l1 = l2) (hn : n ≤ 1000000) (hm : m ≤ 1000000) :
    Calls Try.prog 37 #[.agg #[.int .i64 i1, .int .i64 e1, .bool d1, .slice A n c], .agg #[.int .i64 i2, .int .i64 e2, .bool d2, .slice A2 m c2]] w fun e w' => e = .returned (.bool b) ∧ Below w.heap.size w w' := by
  have H1 := Lib.hid h1
  have H2 := Lib.hid h2
  have BB : ∀ {w0 : World} {o1 o2 : Obj}, Below w0.heap.size w0 ((w0.alloc o1).alloc o2) := fun {w0 o1 o2} => ((Below.refl _ _).alloc (Nat.le_refl _) _).alloc (by simp) _
  clear h1 h2
  by_cases hi : i1 = i2
  · subst hi
    by_cases he : e1 = e2
    · subst he
      by_cases hd : d1 = d2
      · subst hd
        have hdd : (d1 == d1) = true := by simp
        have HB := Lib.hid (show b = true ↔ l1 = l2 from ⟨fun h => (hb.1 h).2.2.2, fun h => hb.2 ⟨rfl, rfl, rfl, h⟩⟩)
        clear hb
        go_enter Try.func37, Try.ntmps37
        go_wp2_with fail
        refine (sameps_any (B := B) _ ((H1.out.alloc hB _).alloc (by simp; omega) _) ((H2.out.alloc hB _).alloc (by simp; omega) _) HB.out hn hm).mono ?_
        rintro e w1 ⟨rfl, q, rfl⟩
        go_wp2_with fail
        go_ret
        exact ⟨rfl, below_drewN BB _⟩
      · have hb0 : b = false := by
          cases b
          · rfl
          · exact absurd (hb.1 rfl).2.2.1 hd
        have hdd : (d1 == d2) = false := by simpa using hd
        have HB0 := Lib.hid hb0
        clear hb hb0
        go_enter Try.func37, Try.ntmps37
        go_wp2_with fail
        go_ret
        exact ⟨by rw [HB0.out]; rfl, BB⟩
    · have hb0 : b = false := by
        cases b
        · rfl
        · exact absurd (hb.1 rfl).2.1 he
      have hee : (e1 == e2) = false := by simpa using he
      have HB0 := Lib.hid hb0
      clear hb hb0
      go_enter Try.func37, Try.ntmps37
      go_wp2_with fail
      go_ret
      exact ⟨by rw [HB0.out]; rfl, BB⟩
  · have hb0 : b = false := by
      cases b
      · rfl
      · exact absurd (hb.1 rfl).1 hi
    have hii : (i1 == i2) = false := by simpa using hi
    have HB0 := Lib.hid hb0
    clear hb hb0
    go_enter Try.func37, Try.ntmps37
    go_wp2_with fail
    go_ret
    exact ⟨by rw [HB0.out]; rfl, BB⟩

set_option maxRecDepth 100000 in
set_option maxHeartbeats 2000000 in
theorem samebat_any {B n c m c2 : Nat} {A A2 : Option Addr} {l : List Pr} {r s : Int} (w : World) (h1 : Reads w B 2 A n (prCells l)) (h2 : Reads w B 2 A2 m (prCells l)) (hB : B ≤ w.heap.size) (hn : n ≤ 1000000) (hm : m ≤ 1000000) :
    Calls Try.prog 44 #[.agg #[.int .i64 r, .int .i64 s, .slice A n c], .agg #[.int .i64 r, .int .i64 s, .slice A2 m c2]] w fun e w' => e = .returned (.bool true) ∧ Below w.heap.size w w' := by
  have H1 := Lib.hid h1
  have H2 := Lib.hid h2
  clear h1 h2
  go_enter Try.func44, Try.ntmps44
  go_wp2_with fail
  refine (sameps_any (B := B) (b := true) (l1 := l) (l2 := l) _ ((H1.out.alloc hB _).alloc (by simp; omega) _) ((H2.out.alloc hB _).alloc (by simp; omega) _) (by simp) hn hm).mono ?_
  rintro e w1 ⟨rfl, q, rfl⟩
  go_wp2_with fail
  go_ret
  exact ⟨rfl, below_drewN (((Below.refl _ _).alloc (Nat.le_refl _) _).alloc (by simp) _) _⟩
end Go.Proofs.Ytejijghghbicdaa
