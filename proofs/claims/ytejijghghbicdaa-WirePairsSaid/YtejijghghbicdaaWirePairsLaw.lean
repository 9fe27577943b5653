/-
  WirePairs: which pairs a reply and a batch may have: those that rise, of vertices that there are; the call returns true and changes nothing that was in memory.
-/
import Derived.Test.YtejijghghbicdaaWireReply
import Derived.Test.YtejijghghbicdaaWireOpen
import Derived.BigQuiet
import Derived.Outline
namespace Go.Proofs.Ytejijghghbicdaa
open Go.ChangeShapes Go.WideShapes Go.ChangeAt Go.RowKit Go.Joins
set_option linter.unusedSimpArgs false
set_option linter.unusedVariables false

/-- Whether the first k pairs rise. -/
def riseK (l : List Pr) (k : Nat) : Bool := (List.range k).all (okAt l)
theorem riseK_zero (l : List Pr) : riseK l 0 = true := rfl
theorem riseK_succ (l : List Pr) (k : Nat) : riseK l (k + 1) = (riseK l k && okAt l k) := by unfold riseK; rw [List.range_succ, List.all_append]; simp
theorem riseK_all {l : List Pr} {n : Nat} (h : l.length = n) : riseK l n = riseB l := by unfold riseK riseB; rw [h]
theorem repB_zero {id : Int} {l : List Pr} (h : 0 ≤ id) : repB id 0 false l = riseB l := by unfold repB; simp [h]
theorem batB_same {id : Int} {l : List Pr} (h : 0 ≤ id) : batB id id l = riseB l := by unfold batB; simp [h]

set_option maxHeartbeats 400000 in
theorem wirepairs_early {A : Option Addr} {m c : Nat} {id : Int} (w : World) (hm : m ≤ maxLen) (h : 100 < m ∨ id < 0) : Calls Try.prog 11 #[.slice A m c, .int .i64 id] w fun e w' => e = .returned (.bool true) ∧ Below w.heap.size w w' := by
  unfold maxLen at hm
  by_cases h1 : 100 < m
  · clear h
    go_enter Try.func11, Try.ntmps11
    go_wp2_with fail
    refine (alive2_any _).mono ?_
    rintro e w1 ⟨rfl, hb⟩
    go_wp2_with fail
    go_ret
    exact ⟨rfl, hb⟩
  · have h2 : id < 0 := by omega
    clear h
    go_enter Try.func11, Try.ntmps11
    go_wp2_with fail
    refine (alive2_any _).mono ?_
    rintro e w1 ⟨rfl, hb⟩
    go_wp2_with fail
    go_ret
    exact ⟨rfl, hb⟩

set_option maxRecDepth 100000 in
set_option maxHeartbeats 4000000 in
theorem wirepairs_main {A : Option Addr} {n c : Nat} {l : List Pr} {id : Int} (w : World) (h : Reads w w.heap.size 2 A n (prCells l)) (hok : ∀ p ∈ l, p.ok) (hid : IN64 id) (h100 : ¬ 100 < n) (hid0 : ¬ id < 0) :
    Calls Try.prog 11 #[.slice A n c, .int .i64 id] w fun e w' => e = .returned (.bool true) ∧ Below w.heap.size w w' := by
  have HL := Lib.hid (reads_plen h)
  have HOK := Lib.hid hok
  have HID := Lib.hid hid
  clear hok hid
  go_enter Try.func11, Try.ntmps11
  go_wp2_with fail
  refine (alive2_any _).mono ?_
  rintro e w1 ⟨rfl, HB⟩
  have h1 := h.below HB
  have HR := Lib.hid h1
  have H0 := Lib.hid h
  go_wp2_with fail
  go_loopw [6, 7] (fun v i wr => ∃ (k q : Nat), k ≤ n ∧ i = .int .i64 k ∧ v = .bool (riseK l k) ∧ wr = w1.drewN q) (fun _ i _ => n - (intOf i).toNat)
  case atStart => exact ⟨0, 0, Nat.zero_le _, rfl, rfl, rfl⟩
  case round =>
    obtain ⟨k, q, hk, rfl, rfl, rfl⟩ := hrel
    by_cases hlt : k < n
    · obtain ⟨ad, p, rfl, hab, hp, hc0, hc1⟩ := h1.pair hlt
      have hkl : k < l.length := by have := HL.out; omega
      obtain ⟨pv, px⟩ := p
      simp only at hc0 hc1
      have hat := at_some hp
      simp only at hat
      have hsk := riseK_succ l k
      cases hr : riseK l k
      · rw [hr, Bool.false_and] at hsk
        have HRK := Lib.hid hsk
        clear hsk hr hat hp hkl h h1
        go_wp2_with fail
        go_quiet (fail)
        go_wp2_with fail
        go_roundw
        case rel => exact ⟨k + 1, _, by omega, by go_num, by rw [HRK.out], rfl⟩
        case measure => first | (simp [intOf]; done) | (simp [intOf]; omega)
      · rw [hr, Bool.true_and] at hsk
        by_cases h0 : pv < 0
        · have hd0 : decide (0 ≤ pv) = false := by simpa using h0
          have HRK := Lib.hid (hsk.trans (show okAt l k = false by unfold okAt; rw [hat]; simp; omega))
          clear hsk hr hat hp hkl h h1
          go_wp2_with fail
          go_quiet (fail)
          go_wp2_with fail
          go_roundw
          case rel => exact ⟨k + 1, _, by omega, by go_num, by rw [HRK.out], rfl⟩
          case measure => first | (simp [intOf]; done) | (simp [intOf]; omega)
        · have hd0 : decide (0 ≤ pv) = true := by simpa using h0
          by_cases h6 : 65536 ≤ pv
          · have hd1 : decide (pv < 65536) = false := by simpa using h6
            have HRK := Lib.hid (hsk.trans (show okAt l k = false by unfold okAt; rw [hat]; simp; omega))
            clear hsk hr hat hp hkl h h1
            go_wp2_with fail
            go_quiet (fail)
            go_wp2_with fail
            go_roundw
            case rel => exact ⟨k + 1, _, by omega, by go_num, by rw [HRK.out], rfl⟩
            case measure => first | (simp [intOf]; done) | (simp [intOf]; omega)
          · have hd1 : decide (pv < 65536) = true := by simpa using h6
            cases k with
            | zero =>
              have ea : ad.add (0 * 2) = ad := by simp [Addr.add]
              rw [ea] at hc0 hc1
              clear ea
              have HRK := Lib.hid (hsk.trans (show okAt l 0 = true by unfold okAt; rw [hat]; first | (simp; done) | (simp; omega)))
              have hkz : (((0 : Nat) : Int) == 0) = true := by simp
              clear hsk hr hat hp hkl h h1
              go_wp2_with fail
              go_quiet (fail)
              go_wp2_with fail
              go_roundw
              case rel => exact ⟨0 + 1, _, by omega, by go_num, by rw [HRK.out], rfl⟩
              case measure => first | (simp [intOf]; done) | (simp [intOf]; omega)
            | succ m =>
              obtain ⟨ad', p', e', _, hq, hq0, _⟩ := h1.pair (k := m) (by omega)
              injection e' with e'
              subst e'
              obtain ⟨qv, qx⟩ := p'
              simp only at hq0
              have hat2 := at_some hq
              simp only at hat2
              have hkz : ((m : Int) + 1 == 0) = false := by simp; omega
              have es : IntKind.i64.wrap ((m : Int) + 1 - 1) = (m : Int) := by rw [IntWalk.i64_in _ (by omega)]; omega
              have es2 : IntKind.i64.wrap (m : Int) = (m : Int) := IntWalk.i64_in _ (by omega)
              have hmn : (m : Int) < (n : Int) := by omega
              have hm0 : 0 ≤ (m : Int) := by omega
              by_cases h2 : pv ≤ qv
              · have hd2 : decide (qv < pv) = false := by simpa using h2
                have HRK := Lib.hid (hsk.trans (show okAt l (m + 1) = false by unfold okAt; rw [hat, Nat.add_sub_cancel, hat2]; first | (simp; done) | (simp; omega)))
                clear hsk hr hat hp hkl h h1 hq hat2
                go_wp2_with fail
                go_quiet (fail)
                go_wp2_with fail
                go_roundw
                case rel => exact ⟨m + 1 + 1, _, by omega, by go_num, by rw [HRK.out], rfl⟩
                case measure => first | (simp [intOf]; done) | (simp [intOf]; omega)
              · have hd2 : decide (qv < pv) = true := by simpa using h2
                have HRK := Lib.hid (hsk.trans (show okAt l (m + 1) = true by unfold okAt; rw [hat, Nat.add_sub_cancel, hat2]; first | (simp; done) | (simp; omega)))
                clear hsk hr hat hp hkl h h1 hq hat2
                go_wp2_with fail
                go_quiet (fail)
                go_wp2_with fail
                go_roundw
                case rel => exact ⟨m + 1 + 1, _, by omega, by go_num, by rw [HRK.out], rfl⟩
                case measure => first | (simp [intOf]; done) | (simp [intOf]; omega)
    · obtain rfl : n = k := by omega
      have hz : 0 ≤ id := by omega
      have HR2 := Lib.hid (HR.out.drewN q)
      have HBq := below_drewN HB q
      have hsz : w.heap.size ≤ w1.heap.size := HB.size
      rw [riseK_all HL.out]
      cases hri : riseB l
      · have HM := Lib.hid ((repB_zero (l := l) hz).trans hri)
        have HM2 := Lib.hid ((batB_same (l := l) hz).trans hri)
        clear hri h h1
        go_wp2_with fail
        refine (rep_no (B := w.heap.size) (l := l) id 0 false _ HR2.out hsz (by omega) HM.out).mono ?_
        rintro e w2 ⟨rfl, hb⟩
        have HB2 := below_after HBq hb HBq.size
        clear hb
        go_wp2_with fail
        refine (bat_no (B := w.heap.size) (l := l) id id _ (H0.out.below HB2) HB2.size (by omega) HM2.out).mono ?_
        rintro e w3 ⟨rfl, hb⟩
        have HB3 := below_after HB2 hb HB2.size
        clear hb
        go_wp2_with fail
        refine (wnum_any _ _).mono ?_
        rintro e w4 ⟨rfl, rfl⟩
        go_wp2_with fail
        refine (wnum_any _ _).mono ?_
        rintro e w4 ⟨rfl, rfl⟩
        go_wp2_with fail
        go_ret
        exact ⟨rfl, HB3⟩
      · have HM := Lib.hid ((repB_zero (l := l) hz).trans hri)
        have HM2 := Lib.hid ((batB_same (l := l) hz).trans hri)
        clear hri h h1
        go_wp2_with fail
        refine (rep_yes (B := w.heap.size) (l := l) id 0 false _ HR2.out hsz (by omega) HID.out HOK.out HM.out).mono ?_
        rintro e w2 ⟨v2, rfl, _, hb⟩
        have HB2 := below_after HBq hb HBq.size
        clear hb
        go_wp2_with fail
        refine (bat_yes' (B := w.heap.size) (l := l) id id _ (H0.out.below HB2) HB2.size (by omega) HID.out HID.out HOK.out HM2.out).mono ?_
        rintro e w3 ⟨v3, rfl, _, hb⟩
        have HB3 := below_after HB2 hb HB2.size
        clear hb
        go_wp2_with fail
        refine (wnum_any _ _).mono ?_
        rintro e w4 ⟨rfl, rfl⟩
        go_wp2_with fail
        refine (wnum_any _ _).mono ?_
        rintro e w4 ⟨rfl, rfl⟩
        go_wp2_with fail
        go_ret
        exact ⟨rfl, HB3⟩

theorem wirePairs_walk (id : Int) {A : Option Addr} {n c : Nat} {l : List Pr} (w : World) (h : Reads w w.heap.size 2 A n (prCells l)) (hok : ∀ p ∈ l, p.ok) (hn : n ≤ maxLen) (hi : (Lit.int .i64 id).wf = true) :
    Calls Try.prog 11 #[.slice A n c, .int .i64 id] w fun e w' => e = .returned (.bool true) ∧ Below w.heap.size w w' := by
  have b := bounds_i64 hi
  by_cases h1 : 100 < n ∨ id < 0
  · exact wirepairs_early w hn h1
  · exact wirepairs_main w h hok ⟨b.2, b.1⟩ (by omega) (by omega)


namespace wirePairs
set_option maxRecDepth 100000 in
theorem contract (H : Type) (enc : TypeId × Value → H) (W : World) (base : Nat) (args : Array Value) (ds gs : List (DataW H)) (before : List MemPlace)
    (hval : ∀ (j : Nat) t v, Try.f11.params[j]? = some t → args[j]? = some v → Value.okWide Try.prog W .any base t v)
    (hW : DataW.Whole enc Try.prog Try.f11.params.toList Rows.wirePairsSpec.vars false W args.toList ds gs before) :
    Calls Try.prog 11 args W fun e W' => ∃ v, e = .returned v ∧ Rows.wirePairsSpec.post enc Try.prog Try.f11 false true false false W args v W' := by
  have hWc := hW
  obtain ⟨p, q, hA0, hV, _, _, _⟩ := hW
  have hA : DataW.TrodAll enc Try.prog W 0 (fun _ => true) true Try.f11.params.toList args.toList ds p := hA0
  clear hA0
  rw [Try.params11] at hA hval
  obtain ⟨v0, vs0, d0, ds0, p0, q0, hargs, rfl, rfl, h0, r0⟩ := trodAll_cons hA
  obtain ⟨v1, vs1, d1, ds1, p1, q1, rfl, rfl, rfl, h1, r1⟩ := trodAll_cons r0
  obtain ⟨rfl, rfl, rfl⟩ := trodAll_nil r1
  obtain rfl : args = #[v0, v1] := by cases args; simp_all
  obtain ⟨A0, n0, c0, l0, rfl, hr0, ok0, hn0, hc0⟩ := open_prs (hval 0 57 v0 rfl rfl) h0
  obtain ⟨a1, rfl, rfl, rfl, wa1⟩ := open_int Try.underlying3 (hval 1 3 v1 rfl rfl) h1
  refine (wirePairs_walk a1 W hr0 ok0 (Nat.le_trans hn0 hc0) wa1).mono fun e W' ⟨he, hb⟩ => ⟨_, he, ?_⟩
  exact post_true hWc rfl hb laidOut (readables (by kernel_rfl)) rfl Try.underlying4 (fun h => by subst h; rfl)

set_option maxRecDepth 100000 in
theorem lifted (os : Os) (started : os.Started) (H : Type) (enc : TypeId × Value → H) :
    ReturnsInHanded {} Try.checked os 11 .any (Rows.wirePairsSpec.pre6 enc Try.prog Try.f11 Rows.wirePairsRow.domain false) (Rows.wirePairsSpec.post enc Try.prog Try.f11 false true false false) := by
  refine returnsInHanded_of_change (C := Try.checked) own started (by kernel_rfl) Try.func11
    (ChangeSpec.witness6 (enc := enc) (C := Try.checked) false ⟨#[], #[.slice none 0 0, .int .i64 0], []⟩ 8 (by kernel_rfl) (by kernel_rfl) (by kernel_rfl) (by kernel_rfl)) ?_
  intro W base args ds gs before hval hW _ _
  exact contract H enc W base args ds gs before hval hW

theorem proved : Rows.WirePairsSaid :=
  OpenClaim.holds_of_wide 11 Try.f11 rfl rfl rfl rfl rfl rfl rfl ⟨rfl, rfl, rfl, rfl, rfl⟩ rfl rfl rfl rfl rfl (by kernel_rfl) Try.func11 (by kernel_rfl)
    (of_decide_eq_true (by kernel_rfl)) (by unfold Func.isWrapper; first | (rw [if_pos (by decide +kernel)]; kernel_rfl) | (rw [if_neg (by decide +kernel)]; exact ⟨rfl, rfl⟩))
    (fun os started H enc _ => lifted os started H enc)
end wirePairs
end Go.Proofs.Ytejijghghbicdaa
