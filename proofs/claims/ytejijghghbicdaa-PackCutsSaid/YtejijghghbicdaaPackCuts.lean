/-
  PackCuts: of what was put nothing is read that is cut off; the call returns true and changes nothing that was in memory.
-/
import Derived.Test.YtejijghghbicdaaCursor2
import Derived.Test.YtejijghghbicdaaOpen
import Derived.Outline
namespace Go.Proofs.Ytejijghghbicdaa
open Go.ChangeShapes Go.WideShapes Go.ChangeAt Go.RowKit Go.Joins
set_option linter.unusedSimpArgs false
set_option linter.unusedVariables false

theorem scan_nil (k x : Nat) : scan k x [] = none := rfl
theorem rd_enc_ {n : Nat} (h : W64 n) (rest : List Nat) : rd topW (enc n ++ rest) = some (n, rest) := by
  have := rd_of (top := topW) (scan_of_enc h rest) (by unfold W64 at h; unfold topW; omega)
  rw [this, List.drop_left]
theorem rd_cut {n j : Nat} (h : j < (enc n).length) : rd topW ((enc n).take j) = none := by
  refine rd_none fun y i hs => ?_
  rw [scan_cut n 0 0 j h] at hs
  cases hs
/-- What is left of the first k bytes of numbers' bytes when those of the first i numbers are read. -/
def rest (ys : List Nat) (k i : Nat) : List Nat := ((encs ys).take k).drop (encs (ys.take i)).length
theorem encs_take_drop (ys : List Nat) (i : Nat) : encs ys = encs (ys.take i) ++ encs (ys.drop i) := by
  rw [← encs_append, List.take_append_drop]
theorem encs_drop {ys : List Nat} {i : Nat} (h : i < ys.length) : encs (ys.drop i) = enc ys[i] ++ encs (ys.drop (i + 1)) := by
  rw [List.drop_eq_getElem_cons h, encs_cons]
theorem encs_take_succ {ys : List Nat} {i : Nat} (h : i < ys.length) : (encs (ys.take (i + 1))).length = (encs (ys.take i)).length + (enc ys[i]).length := by
  rw [take_snoc_ ys i h, encs_snoc, List.length_append]
theorem rest_eq (ys : List Nat) (k i : Nat) : rest ys k i = (encs (ys.drop i)).take (k - (encs (ys.take i)).length) := by
  unfold rest
  rw [List.drop_take]
  congr 1
  rw [encs_take_drop ys i, List.drop_left]
theorem rest_in {ys : List Nat} {k i : Nat} (h : i < ys.length) (hk : (encs (ys.take (i + 1))).length ≤ k) : rest ys k i = enc ys[i] ++ rest ys k (i + 1) := by
  have e := encs_take_succ h
  rw [rest_eq, rest_eq, encs_drop h, List.take_append, List.take_of_length_le (by omega)]
  congr 2
  omega
theorem rest_cut {ys : List Nat} {k i : Nat} (h : i < ys.length) (hk : k < (encs (ys.take (i + 1))).length) : ∃ j, j < (enc ys[i]).length ∧ rest ys k i = (enc ys[i]).take j := by
  have e := encs_take_succ h
  have hp := enc_pos ys[i]
  refine ⟨k - (encs (ys.take i)).length, by omega, ?_⟩
  rw [rest_eq, encs_drop h, List.take_append_of_le_length (by omega)]
theorem rest_byte (ys : List Nat) (k i : Nat) : ∀ d ∈ rest ys k i, d < 256 := fun d hd => encs_byte ys d (List.mem_of_mem_take (List.mem_of_mem_drop hd))
/-- How the cursor stands when the first i numbers were wanted: good while all of them lay within the first k bytes; else spoiled. -/
def stL (ys : List Nat) (k i : Nat) : List Nat := if (encs (ys.take i)).length ≤ k then rest ys k i else []
def stB (ys : List Nat) (k i : Nat) : Bool := decide (k < (encs (ys.take i)).length)
theorem st_zero (ys : List Nat) (k : Nat) : stL ys k 0 = (encs ys).take k ∧ stB ys k 0 = false := by
  simp [stL, stB, rest, encs]
theorem st_in {ys : List Nat} {k i : Nat} (h : i < ys.length) (hy : W64 ys[i]) (hk : (encs (ys.take (i + 1))).length ≤ k) :
    rdV topW (stL ys k i) = ys[i] ∧ rdL topW (stL ys k i) = stL ys k (i + 1) ∧ rdB topW (stL ys k i) (stB ys k i) = stB ys k (i + 1) := by
  have e := encs_take_succ h
  have e1 : stL ys k i = enc ys[i] ++ stL ys k (i + 1) := by
    unfold stL; rw [if_pos (by omega), if_pos hk]; exact rest_in h hk
  have e2 := rd_enc_ hy (stL ys k (i + 1))
  rw [← e1] at e2
  simp only [rdV, rdL, rdB, e2, Option.map_some, Option.getD_some, Option.isSome_some, if_true]
  simp only [true_and, stB]
  rw [decide_eq_decide]
  omega
theorem st_out {ys : List Nat} {k i : Nat} (h : i < ys.length) (hk : k < (encs (ys.take (i + 1))).length) :
    rdV topW (stL ys k i) = 0 ∧ rdL topW (stL ys k i) = stL ys k (i + 1) ∧ rdB topW (stL ys k i) (stB ys k i) = stB ys k (i + 1) ∧ stB ys k (i + 1) = true := by
  have e1 : rd topW (stL ys k i) = none := by
    unfold stL
    split
    · obtain ⟨j, hj, e⟩ := rest_cut h hk
      rw [e]; exact rd_cut hj
    · rfl
  have e2 : stB ys k (i + 1) = true := by simp [stB]; omega
  have e3 : stL ys k (i + 1) = [] := by unfold stL; rw [if_neg (by omega)]
  rw [e2, e3]
  simp [rdV, rdL, rdB, e1]
theorem st_byte (ys : List Nat) (k i : Nat) : ∀ d ∈ stL ys k i, d < 256 := by
  intro d hd
  unfold stL at hd
  split at hd
  · exact rest_byte ys k i d hd
  · cases hd
theorem st_end (ys : List Nat) (k : Nat) (hk : k ≤ (encs ys).length) : (!stB ys k ys.length && (stL ys k ys.length).isEmpty) = decide (k = (encs ys).length) := by
  unfold stB stL rest
  rw [List.take_length]
  by_cases h : (encs ys).length ≤ k
  · have e : k = (encs ys).length := by omega
    subst e
    simp
  · rw [if_neg h]
    have h1 : decide (k < (encs ys).length) = true := by simp; omega
    have h2 : decide (k = (encs ys).length) = false := by simp; omega
    rw [h1, h2]; rfl

theorem PC.on_ {w w' : World} {g : Nat} {l : List Nat} {bad : Bool} (h : PC w g l bad) (hb : Below w.heap.size w w') : PC w' g l bad := by
  obtain ⟨A, n, c, hB, hR, hn, hc⟩ := h
  exact ⟨A, n, c, hB.on hb, hR.below (hb.mono (Nat.le_of_lt hB.lt)), hn, hc⟩
theorem own_cap {w : World} {b e n c : Nat} {A : Option Addr} {xs : List Value} (h : w.ownsRow b e 1 (.slice A n c) n xs) : n ≤ c ∧ c ≤ maxLen := by
  rcases h.2 with ⟨e, h0⟩ | ⟨g, cap, cur, e, _, _, h1, h2, _⟩
  · injection e with _ _ e3; subst h0 e3; exact ⟨Nat.le_refl _, Nat.zero_le _⟩
  · injection e with _ _ e3; subst e3; exact ⟨h1, h2⟩
theorem Reads.take_ {w : World} {B n k : Nat} {A : Option Addr} {xs : List Nat} (h : Reads w B 1 A n (u8s xs)) (hk : k ≤ n) : Reads w B 1 A k (u8s (xs.take k)) := by
  refine ⟨by have := h.1; simp at this ⊢; omega, fun h0 => ?_⟩
  obtain ⟨ad, e, hb, hc⟩ := h.2 (by omega)
  refine ⟨ad, e, hb, fun j u hu => hc j u ?_⟩
  have hj : j < k := by
    have := (List.getElem?_eq_some_iff.1 hu).1; simp at this; omega
  rw [← hu]; simp [u8s, List.getElem?_take, hj]
theorem Reads.one {w : World} {B n k : Nat} {ad : Addr} {xs : List Value} (h : Reads w B 1 (some ad) n xs) (hk : k < xs.length) : Reads w B 1 (some (ad.add k)) 1 [xs[k]] := by
  refine ⟨rfl, fun _ => ⟨_, rfl, ?_, fun j u hu => ?_⟩⟩
  · obtain ⟨ad', e, hb, hc⟩ := h.2 (by have := h.1; omega)
    injection e with e; subst e; rw [block_of_add]; exact hb
  · obtain ⟨ad', e, hb, hc⟩ := h.2 (by have := h.1; omega)
    injection e with e; subst e
    cases j with
    | zero => simp at hu; subst hu; rw [add_of_add]; exact hc k _ (List.getElem?_eq_getElem hk)
    | succ j => simp at hu

set_option maxHeartbeats 400000 in
theorem cuts_early {A : Option Addr} {m c : Nat} {cut : Int} (w : World) (hm : m ≤ maxLen) (hc : IN64 cut) (h : 60 < m ∨ cut < 0) :
    Calls Try.prog 5 #[.slice A m c, .int .i64 cut] w fun e w' => e = .returned (.bool true) ∧ Below w.heap.size w w' := by
  unfold maxLen at hm
  by_cases h1 : 60 < m
  · clear h
    go_enter Try.func5, Try.ntmps5
    go_wp2_with fail
    refine (alive1_any _).mono ?_
    rintro e w1 ⟨rfl, hb⟩
    go_wp2_with fail
    go_ret
    exact ⟨rfl, hb⟩
  · have h2 : cut < 0 := by omega
    clear h
    go_enter Try.func5, Try.ntmps5
    go_wp2_with fail
    refine (alive1_any _).mono ?_
    rintro e w1 ⟨rfl, hb⟩
    go_wp2_with fail
    go_ret
    exact ⟨rfl, hb⟩

set_option maxRecDepth 100000 in
set_option maxHeartbeats 1000000 in
theorem cuts_main {A : Option Addr} {m c cut : Nat} {ys : List Nat} (w : World) (hy : Reads w w.heap.size 1 A m (u64s ys)) (hys : ∀ y ∈ ys, W64 y) (hmc : m ≤ c) (hcm : c ≤ maxLen) (hcut : (cut : Int) ≤ 9223372036854775807) (h : ¬ 60 < m) :
    Calls Try.prog 5 #[.slice A m c, .int .i64 cut] w fun e w' => e = .returned (.bool true) ∧ Below w.heap.size w w' := by
  have hyl : ys.length = m := by simpa using hy.1
  have HY := Lib.hid hyl
  have HS := Lib.hid hys
  have hln := encs_len ys hys
  have HN := Lib.hid (show (encs ys).length ≤ 600 by omega)
  have hc0 : 0 ≤ (cut : Int) := by omega
  unfold maxLen at hcm
  clear hyl hys hln
  go_enter Try.func5, Try.ntmps5
  go_wp2_with fail
  refine (alive1_any _).mono ?_
  rintro e w1 ⟨rfl, hb1⟩
  go_wp2_with fail
  refine (rword_any (B := w1.heap.size) (xs := []) _ (reads_nil _ _ _) ((hy.below hb1).more hb1.size) (Nat.le_refl _) HS.out (by omega) (by omega)).mono ?_
  rintro e w2 ⟨v, rfl, hown, hb2⟩
  rw [List.nil_append] at hown
  obtain ⟨t, ht⟩ : ∃ t, t = (encs ys).length := ⟨_, rfl⟩
  rw [← ht] at hown
  obtain ⟨D, u, rfl⟩ := own_form hown
  have hcap := own_cap hown
  unfold maxLen at hcap
  obtain ⟨htu, hum⟩ := hcap
  have hD := Reads.of_own hown
  have HT := Lib.hid ht
  have ht6 : t ≤ 600 := by have := HN.out; omega
  obtain ⟨k, hk⟩ : ∃ k : Nat, (k : Int) = (cut : Int) % ((t : Int) + 1) := ⟨cut % (t + 1), by simp⟩
  have hkt : k ≤ t := by have := Int.emod_lt_of_pos (cut : Int) (show 0 < (t : Int) + 1 by omega); omega
  have hk2 := hk.symm
  have hbe : Below w.heap.size w w2 := below_after hb1 hb2 hb1.size
  have hDk := hD.take_ hkt
  clear ht hown hk hD hb1 hb2
  go_wp2_with fail
  simp only [hk2]
  clear hk2
  refine (new_any (B := w2.heap.size) _ hDk (Nat.le_refl _) (by omega)).mono ?_
  rintro e w3 ⟨g, rfl, hg, hp, hb3⟩
  have hB3 : Below w.heap.size w w3 := below_after hbe hb3 hbe.size
  have hwg : w.heap.size ≤ g := Nat.le_trans hbe.size hg
  have hp0 : PC w3 g (stL ys k 0) (stB ys k 0) := by rw [(st_zero ys k).1, (st_zero ys k).2]; exact hp
  have HP := Lib.hid hp0
  clear hDk hb3 hp hp0 hbe
  go_wp2_with fail
  go_loopw [9, 10] (fun a i wr => ∃ j : Nat, j ≤ m ∧ i = .int .i64 j ∧ a = .int .i64 ((encs (ys.take j)).length : Nat) ∧ PC wr g (stL ys k j) (stB ys k j) ∧ Below w.heap.size w wr) (fun _ i _ => m - (intOf i).toNat)
  case atStart => exact ⟨0, Nat.zero_le _, rfl, by simp [encs], HP.out, hB3⟩
  case round =>
    obtain ⟨j, hj, rfl, rfl, hpj, hBj⟩ := hrel
    by_cases hlt : j < m
    · have hyw := hy.below hBj
      obtain ⟨ad, v, rfl, hadb, hu, hc⟩ := hyw.at_ hlt
      have hjl : j < ys.length := by have := HY.out; omega
      have eu : v = .int .u64 (ys[j] : Nat) := by
        simp [u64s, hjl] at hu; exact hu.symm
      subst eu
      clear hu
      have h1 : Reads wr w.heap.size 1 (some (ad.add j)) 1 (u64s [ys[j]]) := by
        have := hyw.one (k := j) (by simpa using hjl)
        simpa [u64s] using this
      have hw64 : W64 ys[j] := HS.out _ (List.getElem_mem hjl)
      have hst := HT.out
      have hlen : (encs (ys.take (j + 1))).length ≤ t := by have := encs_take_drop ys (j + 1); have := congrArg List.length this; simp at this; omega
      have hsc := encs_take_succ hjl
      have HIN := Lib.hid (fun h => st_in (k := k) hjl hw64 h)
      have HOUT := Lib.hid (fun h => st_out (k := k) hjl h)
      obtain ⟨yj, hyj⟩ : ∃ y, y = ys[j] := ⟨_, rfl⟩
      rw [← hyj] at hc h1 hw64 hsc HIN
      obtain ⟨a, ha⟩ : ∃ a, a = (encs (ys.take j)).length := ⟨_, rfl⟩
      obtain ⟨a2, ha2⟩ : ∃ a2, a2 = (encs (ys.take (j + 1))).length := ⟨_, rfl⟩
      rw [← ha, ← ha2] at hsc
      rw [← ha2] at hlen
      rw [← ha]
      have HA2 := Lib.hid ha2
      have HSC := Lib.hid hsc
      have hale : a ≤ 600 := by omega
      have hc1 : c - j ≥ 1 := by omega
      have HPJ := Lib.hid hpj
      have HW := Lib.hid hw64
      have H1 := Lib.hid h1
      have hab : (ad.add j).block < w.heap.size := by rw [block_of_add]; exact hadb
      have HC := Lib.hid ((hBj.cell hab).symm.trans hc)
      clear hyw hjl hst hsc ha ha2 hyj hpj hw64 h1 hc
      go_wp2_with fail
      refine (gets (rword_any (B := w.heap.size) (xs := []) (ys := [yj]) _ (reads_nil _ _ _) H1.out hBj.size (by intro y hy; simp at hy; subst hy; exact HW.out) (by omega) (by omega))).mono ?_
      rintro e w4 ⟨E, s, q, rfl, hE, hb4⟩
      have hs : s = (enc yj).length := by have := hE.1; simp [encs_cons, encs_nil] at this; omega
      have HB4 : Below w.heap.size w w4 := below_after hBj hb4 hBj.size
      have HP4 := Lib.hid (HPJ.out.on_ hb4)
      have hsum : (a : Int) + (s : Int) = (a2 : Int) := by have := HSC.out; omega
      have hs6 : s ≤ 600 := by omega
      clear hE hs hb4
      by_cases hin : a2 ≤ k
      · obtain ⟨e1, e2, e3⟩ := HIN.out (by rw [← HA2.out]; exact hin)
        have HE := Lib.hid (And.intro e2 e3)
        have hne : ((yj : Int) != (yj : Int)) = false := by simp
        have hle : (a2 : Int) ≤ (k : Int) := by omega
        go_wp2_with fail
        refine (cword_any _ HP4.out (st_byte _ _ _)).mono ?_
        rw [e1]
        rintro e w5 ⟨rfl, hp5, hg5⟩
        have HB5 := HB4.grown hg5 HB4.size (fun g' e => by injection e with e; omega)
        have hc5 := (HB5.cell hab).trans HC.out
        rw [HE.out.1, HE.out.2] at hp5
        clear e1 e2 e3 hg5
        go_wp2_with fail
        refine ⟨⟨j + 1, by omega, by go_num, by rw [HA2.out], hp5, HB5⟩, ?_⟩
        simp [intOf]; omega
      · obtain ⟨e1, e2, e3, e4⟩ := HOUT.out (by rw [← HA2.out]; omega)
        have HE := Lib.hid (And.intro e2 (And.intro e3 e4))
        have hgt : (k : Int) < (a2 : Int) := by omega
        go_wp2_with fail
        refine (cword_any _ HP4.out (st_byte _ _ _)).mono ?_
        rw [e1]
        rintro e w5 ⟨rfl, hp5, hg5⟩
        have HB5 := HB4.grown hg5 HB4.size (fun g' e => by injection e with e; omega)
        rw [HE.out.1, HE.out.2.1] at hp5
        have HP5 := Lib.hid (show PC w5 g (stL ys k (j + 1)) true by have := hp5; rw [HE.out.2.2] at this; exact this)
        clear e1 e2 e3 e4 hg5
        go_wp2_with fail
        refine (cbad_any _ HP5.out).mono ?_
        rintro e w6 ⟨rfl, rfl⟩
        go_wp2_with fail
        refine ⟨⟨j + 1, by omega, by go_num, by rw [HA2.out], hp5, HB5⟩, ?_⟩
        simp [intOf]; omega
    · have hjm : j = ys.length := by have := HY.out; omega
      subst hjm
      have he := st_end ys k (by have := HT.out; omega)
      rw [← HT.out] at he
      have HPJ := Lib.hid hpj
      clear hpj
      by_cases hkt2 : k = t
      · have HE := Lib.hid (he.trans (show decide (k = t) = true by simp [hkt2]))
        have hb1 : ((k : Int) == (t : Int)) = true := by simp [hkt2]
        clear he hkt2
        go_wp2_with fail
        refine (cend_any _ HPJ.out).mono ?_
        rw [HE.out]
        rintro e w6 ⟨rfl, rfl⟩
        go_wp2_with fail
        go_ret
        exact ⟨rfl, hBj⟩
      · have HE := Lib.hid (he.trans (show decide (k = t) = false by simp [hkt2]))
        have hb1 : ((k : Int) == (t : Int)) = false := by simp; omega
        clear he hkt2
        go_wp2_with fail
        refine (cend_any _ HPJ.out).mono ?_
        rw [HE.out]
        rintro e w6 ⟨rfl, rfl⟩
        go_wp2_with fail
        go_ret
        exact ⟨rfl, hBj⟩

theorem packCuts_walk {A : Option Addr} {m c : Nat} {ys : List Nat} (cut : Int) (w : World) (hy : Reads w w.heap.size 1 A m (u64s ys)) (hys : ∀ y ∈ ys, W64 y) (hmc : m ≤ c) (hcm : c ≤ maxLen) (hc : (Lit.int .i64 cut).wf = true) :
    Calls Try.prog 5 #[.slice A m c, .int .i64 cut] w fun e w' => e = .returned (.bool true) ∧ Below w.heap.size w w' := by
  have hb := bounds_i64 hc
  by_cases h : 60 < m ∨ cut < 0
  · exact cuts_early w (Nat.le_trans hmc hcm) ⟨hb.2, hb.1⟩ h
  · obtain ⟨k, rfl⟩ : ∃ k : Nat, cut = k := ⟨cut.toNat, by omega⟩
    exact cuts_main w hy hys hmc hcm hb.2 (by omega)


namespace packCuts
set_option maxRecDepth 100000 in
theorem contract (H : Type) (enc : TypeId × Value → H) (W : World) (base : Nat) (args : Array Value) (ds gs : List (DataW H)) (before : List MemPlace)
    (hval : ∀ (j : Nat) t v, Try.f5.params[j]? = some t → args[j]? = some v → Value.okWide Try.prog W .any base t v)
    (hW : DataW.Whole enc Try.prog Try.f5.params.toList Rows.packCutsSpec.vars false W args.toList ds gs before) :
    Calls Try.prog 5 args W fun e W' => ∃ v, e = .returned v ∧ Rows.packCutsSpec.post enc Try.prog Try.f5 false true false false W args v W' := by
  have hWc := hW
  obtain ⟨p, q, hA0, hV, _, _, _⟩ := hW
  have hA : DataW.TrodAll enc Try.prog W 0 (fun _ => true) true Try.f5.params.toList args.toList ds p := hA0
  clear hA0
  rw [Try.params5] at hA hval
  obtain ⟨v0, vs0, d0, ds0, p0, q0, hargs, rfl, rfl, h0, r0⟩ := trodAll_cons hA
  obtain ⟨v1, vs1, d1, ds1, p1, q1, rfl, rfl, rfl, h1, r1⟩ := trodAll_cons r0
  obtain ⟨rfl, rfl, rfl⟩ := trodAll_nil r1
  obtain rfl : args = #[v0, v1] := by cases args; simp_all
  obtain ⟨A0, n0, c0, l0, rfl, hr0, hw0, hn0, hc0⟩ := open_u64s Try.underlying24 Try.underlying33 (by kernel_rfl) (hval 0 24 v0 rfl rfl) h0
  obtain ⟨a1, rfl, rfl, rfl, wa1⟩ := open_int Try.underlying3 (hval 1 3 v1 rfl rfl) h1
  refine (packCuts_walk a1 W hr0 hw0 hn0 hc0 wa1).mono fun e W' ⟨he, hb⟩ => ⟨_, he, ?_⟩
  exact post_true hWc rfl hb laidOut (readables (by kernel_rfl)) rfl Try.underlying4 (fun h => by subst h; rfl)

set_option maxRecDepth 100000 in
theorem lifted (os : Os) (started : os.Started) (H : Type) (enc : TypeId × Value → H) :
    ReturnsInHanded {} Try.checked os 5 .any (Rows.packCutsSpec.pre6 enc Try.prog Try.f5 Rows.packCutsRow.domain false) (Rows.packCutsSpec.post enc Try.prog Try.f5 false true false false) := by
  refine returnsInHanded_of_change (C := Try.checked) own started (by kernel_rfl) Try.func5
    (ChangeSpec.witness6 (enc := enc) (C := Try.checked) false ⟨#[], #[.slice none 0 0, .int .i64 0], []⟩ 8 (by kernel_rfl) (by kernel_rfl) (by kernel_rfl) (by kernel_rfl)) ?_
  intro W base args ds gs before hval hW _ _
  exact contract H enc W base args ds gs before hval hW

theorem proved : Rows.PackCutsSaid :=
  OpenClaim.holds_of_wide 5 Try.f5 rfl rfl rfl rfl rfl rfl rfl ⟨rfl, rfl, rfl, rfl, rfl⟩ rfl rfl rfl rfl rfl (by kernel_rfl) Try.func5 (by kernel_rfl)
    (of_decide_eq_true (by kernel_rfl)) (by unfold Func.isWrapper; first | (rw [if_pos (by decide +kernel)]; kernel_rfl) | (rw [if_neg (by decide +kernel)]; exact ⟨rfl, rfl⟩))
    (fun os started H enc _ => lifted os started H enc)
end packCuts
end Go.Proofs.Ytejijghghbicdaa
