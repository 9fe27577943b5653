/-
  Min: the least ones, by contract.
-/
import Derived.Test.YtifoonjhcjmehaaDel
namespace Go.Proofs.Ytifoonjhcjmehaa
open Go.RowKit
set_option linter.unusedSimpArgs false
set_option linter.unusedVariables false

theorem pm_any (gs : List Nat) (w : World) : PredT 39 #[] gs (fun x => !x.may) w := fun W x _ => by
  obtain ⟨a, b⟩ := x
  show Calls Try.prog 39 #[tmv ⟨a, b⟩] W _
  go_enter Try.func39, Try.ntmps39
  go_wp2_with fail
  refine (may_t ⟨a, b⟩ _).mono ?_
  rintro e w1 ⟨rfl, hb⟩
  have hb' := ((Below.refl W.heap.size W).alloc (Nat.le_refl _) (.cells #[.int .i64 a, .int .i64 b] 33)).trans (hb.mono (by simp))
  go_wp2_with fail
  go_ret
  exact ⟨rfl, hb'⟩
theorem pm_enters (args : Array Value) (w : World) : (callFunc 39 args).run Try.prog w = .ok (.enter 39 args) w := by kernel_rfl

theorem own_touch {gs : List Nat} {w w' : World} {base e size n : Nat} {v : Value} {xs : List Value} (h : w.ownsRow base e size v n xs) (ht : Touch gs w w') (hg : ∀ x ∈ gs, x < base) : w'.ownsRow base e size v n xs := by
  refine ⟨h.1, h.2.elim Or.inl fun ⟨r, cap, cur, hv, hr, hh, rest⟩ => Or.inr ⟨r, cap, cur, hv, hr, ?_, rest⟩⟩
  have hlt := (h.lt r (by subst hv; rfl)).2
  rw [ht.block r hlt (fun hx => by have := hg r hx; omega)]; exact hh
theorem own_base {w : World} {base base' e size n : Nat} {v : Value} {xs : List Value} (h : w.ownsRow base e size v n xs) (hb : base' ≤ base) : w.ownsRow base' e size v n xs :=
  ⟨h.1, h.2.elim Or.inl fun ⟨r, cap, cur, hv, hr, rest⟩ => Or.inr ⟨r, cap, cur, hv, Nat.le_trans hb hr, rest⟩⟩
theorem own_tm {w : World} {B m : Nat} {v : Value} {l : List Tm} {t : Tm} (h : w.ownsRow B 33 2 v m (tmCells l ++ [.int .i64 t.e, .int .i64 t.l])) (hm : m = l.length + 1) : w.ownsRow B 33 2 v (l ++ [t]).length (tmCells (l ++ [t])) := by
  subst hm
  rw [tmCells_append]
  simpa [tmCells] using h
theorem Touch.grown {w w' : World} {row : Option Nat} (h : w.grownBy w' row) : Touch row.toList w w' := Touch.of_grown h fun g hg => .inl (by simp [hg])
theorem own_slice {w : World} {B e size n : Nat} {v : Value} {xs : List Value} (h : w.ownsRow B e size v n xs) : ∃ A c, v = .slice A n c := by
  rcases h.2 with ⟨rfl, rfl⟩ | ⟨g, cap, cur, rfl, _⟩
  · exact ⟨none, 0, rfl⟩
  · exact ⟨_, _, rfl⟩
theorem del_zero {A : Option Addr} {c f : Nat} {lb : Array Value} {p : Tm → Bool} (w : World) (hp : PredT f lb [] p w) (ef : ∀ args w, (callFunc f args).run Try.prog w = .ok (.enter f args) w) :
    Calls Try.prog 30 #[.slice A 0 c, .func (.func f) #[] lb] w fun e w' => e = .returned (.slice A 0 c) ∧ Below w.heap.size w w' := by
  have hT : Tms w w.heap.size A 0 [] := ⟨by simp [tmCells], fun h => absurd h (by omega)⟩
  have HIX := Lib.hid (idxf_any (c := c) w hT (Nat.le_refl _) (by omega) hp ef)
  clear hT
  go_enter Try.func30, Try.ntmps30
  go_wp2_with fail
  refine HIX.out.mono ?_
  rintro e w1 ⟨r, rfl, hb, hi⟩
  have hr : r = -1 := by
    rcases hi with ⟨h, _⟩ | ⟨j, _, h, _⟩
    · exact h
    · omega
  subst hr
  go_wp2_with fail
  go_ret
  exact ⟨rfl, hb⟩
theorem init_zero {A : Option Addr} {b c : Nat} (w : World) (KB : Blk w b 60 #[.slice A 0 c]) :
    Calls Try.prog 40 #[.iface 62 (.pointer (some ⟨b, 0, none⟩))] w fun e w' => e = .returned (.tuple #[]) ∧ w' = w := by
  have hm := m_len KB
  go_enter Try.func40, Try.ntmps40
  go_wp2_with fail
  refine (hlen_any _).mono ?_
  rintro e w1 ⟨rfl, rfl⟩
  go_wp2_with fail
  refine wp_loop_rounds 1 ?_
  rw [rounds_succ]
  go_wp2_with fail
  go_end0
  exact ⟨rfl, rfl⟩

set_option maxRecDepth 100000 in
set_option maxHeartbeats 4000000 in
theorem min_nil {B c : Nat} {A : Option Addr} (w : World) (h : Tms w B A 0 []) (hB : B ≤ w.heap.size) :
    Calls Try.prog 22 #[.slice A 0 c] w fun e w' => e = .returned (.slice none 0 0) ∧ Below w.heap.size w w' := by
  have hcl : Calls Try.prog 38 #[.slice A 0 c] w fun e w' => ∃ A' c', e = .returned (.slice A' 0 c') ∧ Below w.heap.size w w' := by
    cases A with
    | none => exact (clone_nil w).mono fun e w' ⟨he, hw⟩ => ⟨none, 0, he, hw ▸ Below.refl _ _⟩
    | some ad =>
      refine (clone_some w h hB (by omega)).mono ?_
      rintro e w' ⟨v, he, ho, hb⟩
      obtain ⟨A', c', rfl⟩ := own_slice ho
      exact ⟨A', c', he, hb⟩
  have HCL := Lib.hid hcl
  clear hcl h
  go_enter Try.func22, Try.ntmps22
  go_wp2_with fail
  refine HCL.out.mono ?_
  rintro e w1 ⟨A1, c1, rfl, hb1⟩
  go_wp2_with fail
  refine (del_zero _ (pm_any _ _) pm_enters).mono ?_
  rintro e w2 ⟨rfl, hb2⟩
  have HB2 := below_after hb1 hb2 hb1.size
  have KB : Blk (w2.alloc (.cells #[.slice A1 0 c1] 60)) w2.heap.size 60 #[.slice A1 0 c1] := Blk.new _ _ _
  go_wp2_with fail
  refine (init_zero _ KB).mono ?_
  rintro e w3 ⟨rfl, hw3⟩
  have c3 := KB.c
  rw [← hw3] at c3
  have HB3 : Below w.heap.size w w3 := by rw [hw3]; exact HB2.alloc HB2.size _
  clear hw3
  go_wp2_with fail
  refine wp_loop_rounds 1 ?_
  rw [rounds_succ]
  go_wp2_with fail
  refine (hlen_any _).mono ?_
  rintro e w4 ⟨rfl, rfl⟩
  go_wp2_with fail
  go_ret
  exact ⟨rfl, HB3⟩

theorem own_last {w : World} {B n : Nat} {v : Value} {l : List Tm} (h : w.ownsRow B 33 2 v n (tmCells l)) (hn : 0 < n) : ∃ g c, v = .slice (some ⟨g, 0, none⟩) n c ∧ l.getLast? = some (Tm.at_ l (n - 1)) ∧
    w.cell? ⟨g, (n - 1) * 2, none⟩ = some (.int .i64 (Tm.at_ l (n - 1)).e) ∧ w.cell? ⟨g, (n - 1) * 2 + 1, none⟩ = some (.int .i64 (Tm.at_ l (n - 1)).l) := by
  obtain ⟨g, c, rfl, _, _, K⟩ := tblk_of_own h hn
  have hl : l.length = n := by have := h.1; simp at this; omega
  refine ⟨g, c, rfl, ?_, K.tm (by omega)⟩
  rw [List.getLast?_eq_getElem?, hl]
  exact Tm.some_at (by omega)
theorem two_lt {g b B : Nat} (h : g < B) (k : b < B) : ∀ x ∈ [g, b], x < B := by simp [h, k]
theorem two_not {g b a : Nat} (h : a ≠ g) (k : a ≠ b) : a ∉ [g, b] := by simp [h, k]
theorem two_le {g b B : Nat} (h : B ≤ g) (k : B ≤ b) : ∀ x ∈ [g, b], B ≤ x := by simp [h, k]
theorem news_two (w : World) (x : Tm) (t : TypeId) : ∀ j u, ([.int .i64 x.e, .int .i64 x.l] : List Value)[j]? = some u → (w.alloc (.cells #[.int .i64 x.e, .int .i64 x.l] t)).cell? ((⟨w.heap.size, 0, none⟩ : Addr).add j) = some u := by
  intro j u hu
  rw [Addr.add_lit, (Blk.new w t _).c]
  simpa using hu
/-- The heap's loop, so far: P has been taken off, O are the least ones of P. -/
structure MinLoop (F : List Tm) (N : Nat) (L P O : List Tm) : Prop where
  len : N ≤ L.length
  short : L.length = F.length
  heap : HeapFrom L N 0
  perm : (P ++ L.take N).Perm F
  low : ∀ x ∈ P, ∀ y ∈ L.take N, x.lo y
  least : IsMin P O
theorem MinLoop.out_le {F L P O : List Tm} {N : Nat} (h : MinLoop F N L P O) (hO : O.length ≤ P.length) : O.length ≤ F.length := by
  have := h.perm.length_eq
  simp at this; omega
theorem MinLoop.start {F L : List Tm} (hp : L.Perm F) (hh : HeapFrom L F.length 0) : MinLoop F F.length L [] [] := by
  have hl := hp.length_eq
  exact ⟨by omega, hl, hh, by rw [List.take_of_length_le (by omega)]; simpa using hp, fun x hx => (by cases hx), IsMin.nil⟩
theorem MinLoop.top {F L P O : List Tm} {N : Nat} (h : MinLoop F (N + 1) L P O) : Tm.at_ L 0 ∈ F := by
  have : Tm.at_ L 0 ∈ L.take (N + 1) := by
    have h0 : Tm.at_ (L.take (N + 1)) 0 = Tm.at_ L 0 := at_take (by omega)
    rw [← h0]
    exact Tm.at_mem (by have := h.len; simp; omega)
  exact h.perm.mem_iff.1 (List.mem_append_right _ this)
theorem MinLoop.next {F L L' P O O' : List Tm} {N : Nat} (h : MinLoop F (N + 1) L P O) (hp : (L'.take N ++ [Tm.at_ L 0]).Perm (L.take (N + 1))) (hl : L'.length = L.length) (hh : HeapFrom L' N 0) (hO : IsMin (P ++ [Tm.at_ L 0]) O') :
    MinLoop F N L' (P ++ [Tm.at_ L 0]) O' := by
  have hlen := h.len
  have mem : ∀ y ∈ L'.take N, y ∈ L.take (N + 1) := fun y hy => hp.mem_iff.1 (List.mem_append_left _ hy)
  refine ⟨by omega, hl.trans h.short, hh, ?_, ?_, hO⟩
  · refine List.Perm.trans ?_ h.perm
    rw [List.append_assoc]
    refine List.Perm.append_left _ (List.Perm.trans ?_ hp)
    exact List.perm_append_comm
  · intro x hx y hy
    rcases List.mem_append.1 hx with hx | hx
    · exact h.low x hx y (mem y hy)
    · obtain rfl : x = Tm.at_ L 0 := by simpa using hx
      have hy2 := mem y hy
      obtain ⟨k, hk, rfl⟩ := List.mem_iff_getElem.1 hy2
      simp at hk
      have := h.heap.least k (by omega)
      have e : Tm.at_ L k = (L.take (N + 1))[k] := Tm.at_some (k := k) (by rw [List.getElem_take]; exact List.getElem?_eq_getElem (by omega))
      rw [e] at this
      exact this
theorem MinLoop.low_top {F L P O : List Tm} {N : Nat} (h : MinLoop F (N + 1) L P O) : ∀ x ∈ P, x.lo (Tm.at_ L 0) := fun x hx => h.low x hx _ (by
  have h0 : Tm.at_ (L.take (N + 1)) 0 = Tm.at_ L 0 := at_take (by omega)
  rw [← h0]
  exact Tm.at_mem (by have := h.len; simp; omega))
theorem MinLoop.put {F L L' P O : List Tm} {N : Nat} (h : MinLoop F (N + 1) L P O) (hp : (L'.take N ++ [Tm.at_ L 0]).Perm (L.take (N + 1))) (hl : L'.length = L.length) (hh : HeapFrom L' N 0)
    (hF : ∀ x ∈ F, x.may = true) (hlast : ∀ x, O.getLast? = some x → (Tm.at_ L 0).l < x.l) : MinLoop F N L' (P ++ [Tm.at_ L 0]) (O ++ [Tm.at_ L 0]) :=
  h.next hp hl hh (h.least.put h.low_top (hF _ h.top) hlast)
theorem MinLoop.leave {F L L' P O : List Tm} {N : Nat} {z : Tm} (h : MinLoop F (N + 1) L P O) (hp : (L'.take N ++ [Tm.at_ L 0]).Perm (L.take (N + 1))) (hl : L'.length = L.length) (hh : HeapFrom L' N 0)
    (hz : O.getLast? = some z) (hle : z.l ≤ (Tm.at_ L 0).l) : MinLoop F N L' (P ++ [Tm.at_ L 0]) O :=
  h.next hp hl hh (h.least.leave h.low_top hz hle)
theorem MinLoop.end_ {F L P O : List Tm} (h : MinLoop F 0 L P O) : IsMin F O := by
  have hp := h.perm
  rw [List.take_zero, List.append_nil] at hp
  exact h.least.of_mem fun x => hp.mem_iff
theorem not_not_may (l : List Tm) : (l.filter fun x => !!x.may) = l.filter Tm.may := by simp

set_option maxRecDepth 100000 in
set_option maxHeartbeats 4000000 in
theorem min_some {B n c : Nat} {ad : Addr} {l : List Tm} (w : World) (h : Tms w B (some ad) n l) (hB : B ≤ w.heap.size) (hn : 0 < n) (hbig : n ≤ 1000) :
    Calls Try.prog 22 #[.slice (some ad) n c] w fun e w' => ∃ v m, e = .returned v ∧ IsMin l m ∧ m.length ≤ n ∧ w'.ownsRow w.heap.size 33 2 v m.length (tmCells m) ∧ Below w.heap.size w w' := by
  obtain ⟨i0, hi0, hz0, hz1, hz2⟩ := info_parts infoTime
  have HLEN := Lib.hid (Tms.len h)
  have HCL := Lib.hid (clone_some (c := c) w h hB (by omega))
  clear h
  go_enter Try.func22, Try.ntmps22
  go_wp2_with fail
  refine HCL.out.mono ?_
  rintro e w1 ⟨v1, rfl, hown, hb1⟩
  obtain ⟨g, c1, rfl, hg, hc1, K1⟩ := tblk_of_own hown hn
  clear hown
  go_wp2_with fail
  refine (del_any _ K1 HLEN.out hc1 (by omega) (pm_any _ _) pm_enters).mono ?_
  rintro e w2 ⟨k, rfl, hk, hkn, K2, T2⟩
  rw [not_not_may] at hk K2
  obtain ⟨F, hF⟩ : ∃ F, l.filter Tm.may = F := ⟨_, rfl⟩
  rw [hF] at hk K2
  have HF := Lib.hid hF
  have HK := Lib.hid hk
  have HB2 : Below w.heap.size w w2 := hb1.trans (T2.below (by simpa using hg) hb1.size)
  have hg2 := K2.lt
  have KB : Blk (w2.alloc (.cells #[.slice (some ⟨g, 0, none⟩) k c1] 60)) w2.heap.size 60 #[.slice (some ⟨g, 0, none⟩) k c1] := Blk.new _ _ _
  clear hF K1 T2
  go_wp2_with fail
  refine (init_any _ (K2.alloc _) KB (by omega) (by have := HK.out; omega) (by omega)).mono ?_
  rintro e w3 ⟨rfl, L0, hp0, hh0, _, K3, T3⟩
  have KB3 := KB.touch T3 (by simp; omega)
  have HB3 : Below w.heap.size w w3 := (HB2.alloc HB2.size _).trans (T3.below (by simpa using hg) (by have := HB2.size; simp; omega))
  have HM0 := Lib.hid (MinLoop.start hp0 (HK.out ▸ hh0))
  clear hp0 hh0 hk
  have hbz := KB3.lt
  go_wp2_with fail
  go_loopw [4] (fun vo wr => ∃ (N M : Nat) (L P O : List Tm), N ≤ n ∧ Hid (wr.ownsRow w3.heap.size 33 2 vo M (tmCells O)) ∧ Hid (O.length = M) ∧ Hid (MinLoop F N L P O) ∧ Hid (O.length ≤ P.length) ∧ Hid (TBlk wr g L) ∧ Hid (Blk wr w2.heap.size 60 #[.slice (some ⟨g, 0, none⟩) N c1]) ∧ Hid (Below w.heap.size w wr) ∧ Hid (w3.heap.size ≤ wr.heap.size)) (fun _ wr => match wr.cell? ⟨w2.heap.size, 0, none⟩ with | some (.slice _ N _) => N | _ => 0)
  case atStart => exact ⟨k, 0, L0, [], [], hkn, Lib.hid (World.ownsRow_nil _ _ _ _), Lib.hid rfl, (by have := HK.out; subst this; exact HM0), Lib.hid (Nat.le_refl _), Lib.hid K3, Lib.hid KB3, Lib.hid HB3, Lib.hid (Nat.le_refl _)⟩
  case round =>
    obtain ⟨N, M, L, P, O, hN, hown, HOM, HM, HO, K, KB, HB, HS⟩ := hrel
    obtain ⟨A4, c4, rfl⟩ := own_slice hown.out
    have cb := KB.out.c
    rcases N with _ | N
    · go_wp2_with fail
      refine (hlen_any _).mono ?_
      rintro e w4 ⟨rfl, rfl⟩
      go_wp2_with fail
      go_ret
      have h1 := HOM.out
      subst h1
      exact ⟨_, O, rfl, IsMin.of_filter (by rw [HF.out]; exact HM.out.end_), Nat.le_trans (HM.out.out_le HO.out) (by have := HK.out; omega), own_base hown.out HB3.size, HB.out⟩
    · obtain ⟨x, hx⟩ : ∃ x, Tm.at_ L 0 = x := ⟨_, rfl⟩
      obtain ⟨hc0, hc1'⟩ := K.out.tm (k := 0) (by have := HM.out.len; omega)
      rw [hx] at hc0 hc1'
      have HX := Lib.hid hx
      clear hx
      have hML : M ≤ n := by have := HM.out.out_le HO.out; have := HK.out; have := HOM.out; omega
      go_wp2_with fail
      refine (hlen_any _).mono ?_
      rintro e w4 ⟨rfl, rfl⟩
      go_wp2_with fail
      refine (pop_any _ (K.out.alloc (.cells #[.int .i64 x.e, .int .i64 x.l] 33)) (KB.out.alloc (.cells #[.int .i64 x.e, .int .i64 x.l] 33)) (by omega) HM.out.len (by omega) (by omega) HM.out.heap).mono ?_
      rintro e w5 ⟨rfl, L', hp, hl, hh, K5, KB5, T5⟩
      have hs4 := K.out.lt
      have hs4b := KB.out.lt
      have KX : Blk w5 w4.heap.size 33 #[.int .i64 x.e, .int .i64 x.l] := (Blk.new w4 _ _).touch T5 (two_not (by omega) (by omega))
      have hown5 := own_touch (hown.out.alloc (.cells #[.int .i64 x.e, .int .i64 x.l] 33)) T5 (two_lt (by omega) hbz)
      have HB5 : Below w.heap.size w w5 := (HB.out.alloc HB.out.size (.cells #[.int .i64 x.e, .int .i64 x.l] 33)).trans (T5.below (two_le hg HB2.size) (by have := HB.out.size; simp; omega))
      have hz5 : w3.heap.size ≤ w5.heap.size := by have := HS.out; have := T5.size; simp at this; omega
      have cx := KX.c
      have hb5 := hp
      clear hb5
      rw [HX.out] at hp
      rcases M with _ | M
      · have hO0 : O = [] := List.eq_nil_of_length_eq_zero HOM.out
        subst hO0
        have HM5 := HM.out.put (HX.out ▸ hp) hl hh (by rw [← HF.out]; intro y hy; exact (List.mem_filter.1 hy).2) (fun y hy => by simp at hy)
        rw [HX.out] at HM5
        clear hp hl hh T5
        have HK5 := Lib.hid K5
        have HKB5 := Lib.hid KB5
        have HBB5 := Lib.hid HB5
        have HMM := Lib.hid HM5
        have HOWN5 := Lib.hid hown5
        have HKX := Lib.hid KX
        clear K5 KB5 HB5 HM5 KX hown5
        go_wp2_with fail
        go_quiet (fail)
        generalize hW : World.drewN w5 _ = w6
        have cx6 : ∀ i, w6.cell? ⟨w4.heap.size, i, none⟩ = (#[.int .i64 x.e, .int .i64 x.l] : Array Value)[i]? := by rw [← hW]; exact HKX.out.c
        have hown6 := Lib.hid (by rw [← hW]; exact HOWN5.out : w6.ownsRow w3.heap.size 33 2 _ _ _)
        have K6 := Lib.hid (by rw [← hW]; exact HK5.out : TBlk w6 g L')
        have KB6 := Lib.hid (by rw [← hW]; exact HKB5.out : Blk w6 w2.heap.size 60 #[.slice (some ⟨g, 0, none⟩) N c1])
        have HB6 := Lib.hid (by rw [← hW]; exact below_drewN HBB5.out _ : Below w.heap.size w w6)
        have hz6 : w3.heap.size ≤ w6.heap.size := by rw [← hW]; exact hz5
        clear hW
        go_wp2_with (at_builtin; refine wpList_append_own _ rfl _ _ 38 rfl w3.heap.size 33 i0 (.agg #[.int .i64 0, .int .i64 0]) 2 16 Try.underlying38 hi0 hz0 hz1 hz2 rfl (by decide) _ _ _ rfl (hown6.out.alloc _) ⟨w6.heap.size, 0, none⟩ 1 1 [.int .i64 x.e, .int .i64 x.l] rfl rfl ?c1 ?c2 ?c3 ?c4 ?c5 ?_)
        case c1 => exact news_two w6 x 33
        case c2 => intro u hu; simp at hu; rcases hu with rfl | rfl <;> rfl
        case c3 => unfold maxLen; omega
        case c4 => omega
        case c5 => simp; omega
        intro v7 w7 hown7 hg7 _
        have T7 := Touch.grown hg7
        have hr : ∀ y ∈ (Value.slice A4 0 c4).ownBlock.toList, w3.heap.size ≤ y := fun y hy => (hown6.out.lt y (by simpa using hy)).1
        have hown8 := Lib.hid (own_tm (l := ([] : List Tm)) (t := x) hown7 (by have := HOM.out; omega))
        have K8 := Lib.hid ((K6.out.alloc (.cells #[.int .i64 x.e, .int .i64 x.l] 33)).touch T7 (fun hy => by have := hr _ hy; omega))
        have KB8 := Lib.hid ((KB6.out.alloc (.cells #[.int .i64 x.e, .int .i64 x.l] 33)).touch T7 (fun hy => by have := hr _ hy; omega))
        have HB8 := Lib.hid ((HB6.out.alloc HB6.out.size (.cells #[.int .i64 x.e, .int .i64 x.l] 33)).trans (T7.below (fun y hy => Nat.le_trans HB3.size (hr y hy)) (by have := HB6.out.size; simp; omega)))
        have HS8 := Lib.hid (show w3.heap.size ≤ w7.heap.size by have := T7.size; simp at this; omega)
        clear hown7 hg7 T7
        go_wp2_with fail
        go_roundw
        case rel => exact ⟨N, _, L', P ++ [x], ([] : List Tm) ++ [x], by omega, hown8, Lib.hid rfl, HMM, Lib.hid (by have := HO.out; simp at this ⊢; try omega), K8, KB8, HB8, HS8⟩
        case measure => rw [KB8.out.c 0, KB.out.c 0]; simp
      · obtain ⟨go, c5, e4, hlast, cz0, cz1⟩ := own_last hown5 (by omega)
        simp only [Nat.add_sub_cancel] at hlast cz0 cz1
        cases e4
        obtain ⟨z, hz⟩ : ∃ z, Tm.at_ O M = z := ⟨_, rfl⟩
        rw [hz] at hlast cz0 cz1
        have hM1 : M ≤ 1000 := by omega
        have hM2 : (M : Int) ≤ 1000 := by omega
        have hne : ((M : Int) + 1 == 0) = false := by simp; omega
        have hwr : IntKind.i64.wrap (M : Int) = (M : Int) := by rw [IntKind.wrap_i64]; omega
        by_cases hlt : x.l < z.l
        · have HM5 := HM.out.put (HX.out ▸ hp) hl hh (by rw [← HF.out]; intro y hy; exact (List.mem_filter.1 hy).2) (fun y hy => by rw [hlast] at hy; cases hy; rw [HX.out]; exact hlt)
          rw [HX.out] at HM5
          clear hp hl hh T5 hz hlast
          have HK5 := Lib.hid K5
          have HKB5 := Lib.hid KB5
          have HBB5 := Lib.hid HB5
          have HMM := Lib.hid HM5
          have HOWN5 := Lib.hid hown5
          have HKX := Lib.hid KX
          clear K5 KB5 HB5 HM5 KX hown5
          go_wp2_with fail
          go_quiet (fail)
          generalize hW : World.drewN w5 _ = w6
          have cx6 : ∀ i, w6.cell? ⟨w4.heap.size, i, none⟩ = (#[.int .i64 x.e, .int .i64 x.l] : Array Value)[i]? := by rw [← hW]; exact HKX.out.c
          have hown6 := Lib.hid (by rw [← hW]; exact HOWN5.out : w6.ownsRow w3.heap.size 33 2 _ _ _)
          have K6 := Lib.hid (by rw [← hW]; exact HK5.out : TBlk w6 g L')
          have KB6 := Lib.hid (by rw [← hW]; exact HKB5.out : Blk w6 w2.heap.size 60 #[.slice (some ⟨g, 0, none⟩) N c1])
          have HB6 := Lib.hid (by rw [← hW]; exact below_drewN HBB5.out _ : Below w.heap.size w w6)
          have hz6 : w3.heap.size ≤ w6.heap.size := by rw [← hW]; exact hz5
          clear hW
          go_wp2_with (at_builtin; refine wpList_append_own _ rfl _ _ 38 rfl w3.heap.size 33 i0 (.agg #[.int .i64 0, .int .i64 0]) 2 16 Try.underlying38 hi0 hz0 hz1 hz2 rfl (by decide) _ _ _ rfl (hown6.out.alloc _) ⟨w6.heap.size, 0, none⟩ 1 1 [.int .i64 x.e, .int .i64 x.l] rfl rfl ?c1 ?c2 ?c3 ?c4 ?c5 ?_)
          case c1 => exact news_two w6 x 33
          case c2 => intro u hu; simp at hu; rcases hu with rfl | rfl <;> rfl
          case c3 => unfold maxLen; omega
          case c4 => omega
          case c5 => simp; omega
          intro v7 w7 hown7 hg7 _
          have T7 := Touch.grown hg7
          have hr : ∀ y ∈ (Value.slice (some ⟨go, 0, none⟩) (M + 1) c4).ownBlock.toList, w3.heap.size ≤ y := fun y hy => (hown6.out.lt y (by simpa using hy)).1
          have hown8 := Lib.hid (own_tm (l := O) (t := x) hown7 (by have := HOM.out; omega))
          have K8 := Lib.hid ((K6.out.alloc (.cells #[.int .i64 x.e, .int .i64 x.l] 33)).touch T7 (fun hy => by have := hr _ hy; omega))
          have KB8 := Lib.hid ((KB6.out.alloc (.cells #[.int .i64 x.e, .int .i64 x.l] 33)).touch T7 (fun hy => by have := hr _ hy; omega))
          have HB8 := Lib.hid ((HB6.out.alloc HB6.out.size (.cells #[.int .i64 x.e, .int .i64 x.l] 33)).trans (T7.below (fun y hy => Nat.le_trans HB3.size (hr y hy)) (by have := HB6.out.size; simp; omega)))
          have HS8 := Lib.hid (show w3.heap.size ≤ w7.heap.size by have := T7.size; simp at this; omega)
          clear hown7 hg7 T7
          go_wp2_with fail
          go_roundw
          case rel => exact ⟨N, _, L', P ++ [x], O ++ [x], by omega, hown8, Lib.hid rfl, HMM, Lib.hid (by have := HO.out; simp at this ⊢; try omega), K8, KB8, HB8, HS8⟩
          case measure => rw [KB8.out.c 0, KB.out.c 0]; simp
        · have HM5 := HM.out.leave (HX.out ▸ hp) hl hh hlast (by rw [HX.out]; omega)
          rw [HX.out] at HM5
          have hd : decide (x.l < z.l) = false := by simp; omega
          clear hp hl hh T5 hz hlast hlt
          have HK5 := Lib.hid K5
          have HKB5 := Lib.hid KB5
          have HBB5 := Lib.hid HB5
          have HMM := Lib.hid HM5
          have HOWN5 := Lib.hid hown5
          have HKX := Lib.hid KX
          clear K5 KB5 HB5 HM5 KX hown5
          go_wp2_with fail
          go_quiet (fail)
          generalize hW : World.drewN w5 _ = w6
          have cx6 : ∀ i, w6.cell? ⟨w4.heap.size, i, none⟩ = (#[.int .i64 x.e, .int .i64 x.l] : Array Value)[i]? := by rw [← hW]; exact HKX.out.c
          have hown6 := Lib.hid (by rw [← hW]; exact HOWN5.out : w6.ownsRow w3.heap.size 33 2 _ _ _)
          have K6 := Lib.hid (by rw [← hW]; exact HK5.out : TBlk w6 g L')
          have KB6 := Lib.hid (by rw [← hW]; exact HKB5.out : Blk w6 w2.heap.size 60 #[.slice (some ⟨g, 0, none⟩) N c1])
          have HB6 := Lib.hid (by rw [← hW]; exact below_drewN HBB5.out _ : Below w.heap.size w w6)
          have hz6 : w3.heap.size ≤ w6.heap.size := by rw [← hW]; exact hz5
          clear hW
          go_wp2_with fail
          go_roundw
          case rel => exact ⟨N, M + 1, L', P ++ [x], O, by omega, hown6, HOM, HMM, Lib.hid (by have := HO.out; simp; omega), K6, KB6, HB6, Lib.hid hz6⟩
          case measure => rw [KB6.out.c 0, KB.out.c 0]; simp

theorem min_any {B n c : Nat} {A : Option Addr} {l : List Tm} (w : World) (h : Tms w B A n l) (hB : B ≤ w.heap.size) (hbig : n ≤ 1000) :
    Calls Try.prog 22 #[.slice A n c] w fun e w' => ∃ v m, e = .returned v ∧ IsMin l m ∧ m.length ≤ n ∧ w'.ownsRow w.heap.size 33 2 v m.length (tmCells m) ∧ Below w.heap.size w w' := by
  rcases Nat.eq_zero_or_pos n with h0 | h0
  · subst h0
    obtain rfl : l = [] := List.eq_nil_of_length_eq_zero (Tms.len h)
    refine (min_nil w h hB).mono ?_
    rintro e w' ⟨rfl, hb⟩
    exact ⟨_, [], rfl, IsMin.nil, Nat.le_refl _, World.ownsRow_nil _ _ _ _, hb⟩
  · cases A with
    | none => obtain ⟨rfl, _⟩ := Tms.nil h; omega
    | some ad => exact min_some w h hB h0 hbig
end Go.Proofs.Ytifoonjhcjmehaa
