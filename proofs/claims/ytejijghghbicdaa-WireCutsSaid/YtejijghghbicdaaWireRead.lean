/-
  wire.ReadRequest, by contract: the request of bytes.
-/
import Derived.Test.YtejijghghbicdaaWireParse
import Derived.Outline
namespace Go.Proofs.Ytejijghghbicdaa
open Go.RowKit Go.MapKept
set_option linter.unusedSimpArgs false
set_option linter.unusedVariables false

theorem below_cur {B g : Nat} {w W w1 : World} (h : Below B w W) (hg : W.grownBy w1 (some g)) (hB : B ≤ W.heap.size) (hb : B ≤ g) : Below B w w1 := h.grown hg hB (fun k hk => by injection hk with e; omega)
theorem map_at (w : World) {n : Nat} (h : w.heap.size = n) (o : Obj) : (w.alloc o).heap[n]? = some o := by subst h; exact (heap_alloc w o).1
theorem look_none {x : Nat} (h : x ≠ 1 ∧ x ≠ 2 ∧ x ≠ 3 ∧ x ≠ 4) : Instr.findNow (.int .i64) (.int .i64 (x : Nat)) rdsEntries.toList 0 = some none := by
  have h1 : (((x : Nat) : Int) == 1) = false := by simp; omega
  have h2 : (((x : Nat) : Int) == 2) = false := by simp; omega
  have h3 : (((x : Nat) : Int) == 3) = false := by simp; omega
  have h4 : (((x : Nat) : Int) == 4) = false := by simp; omega
  simp [rdsEntries, Instr.findNow, Instr.sameNow, h1, h2, h3, h4]
set_option maxHeartbeats 400000 in
theorem readreq_long {A : Option Addr} {n c : Nat} {xs : List Nat} (w : World) (hn : n ≤ maxLen) (hl : xs.length = n) (h : 64 < n) :
    Calls Try.prog 40 #[.slice A n c] w fun e w' => e = .returned (.tuple #[(readReq xs).1.V, .int .i64 (readReq xs).2]) ∧ Below w.heap.size w w' := by
  unfold maxLen at hn
  have HR := Lib.hid (readReq_long (l := xs) (by omega))
  clear hl
  go_enter Try.func40, Try.ntmps40
  go_wp2_with fail
  exact bodyPost_ret (v := .tuple #[.agg #[.int .i64 0, .int .i64 0, .int .i64 0, .int .i64 0, .int .i64 0, .int .i64 0], .int .i64 3]) (by simp [results, Try.results40, go_sem]) rfl ⟨by rw [HR.out]; rfl, by repeat (first | exact Below.refl _ _ | refine Below.setCell ?_ (by first | omega | (simp; done) | (simp; omega)) _ | refine Below.alloc ?_ (by first | omega | (simp; done) | (simp; omega)) _ | refine Below.drew ?_ | refine below_drewN ?_ _ | refine below_after ?_ (by assumption) (by first | omega | (simp; done) | (simp; omega)))⟩

set_option maxRecDepth 100000 in
set_option maxHeartbeats 2000000 in
theorem readreq_1 {A : Option Addr} {n c : Nat} {xs : List Nat} (w : World) (hx : Reads w w.heap.size 1 A n (u8s xs)) (hxs : ∀ x ∈ xs, x < 256) (h : ¬ 64 < n) (hk : rdV topI xs = 1) :
    Calls Try.prog 40 #[.slice A n c] w fun e w' => e = .returned (.tuple #[(readReq xs).1.V, .int .i64 (readReq xs).2]) ∧ Below w.heap.size w w' := by
  have HX := Lib.hid hxs
  have hl : xs.length = n := by simpa using hx.1
  have HN := Lib.hid hl
  have HK := Lib.hid hk
  clear hl hxs hk
  go_enter Try.func40, Try.ntmps40
  go_wp2_with fail
  refine (read_any (B := w.heap.size) _ (hx.alloc (Nat.le_refl _) _) (by simp) (by omega)).mono ?_
  rintro e w1 ⟨g, rfl, hg, hp, hb⟩
  have K0 := Blk.on (g := w.heap.size) (t := 50) (cs := #[.int .i64 0, .int .i64 0, .int .i64 0, .int .i64 0, .int .i64 0, .int .i64 0]) (Blk.at_ _ _ _ (by simp)) hb
  have HB := below_after ((Below.refl w.heap.size w).alloc (Nat.le_refl _) _) hb (by simp)
  have hg1 : w.heap.size < g := by have := hg; simp at this; omega
  have hgl := hp.lt
  have HP := Lib.hid (hp.alloc (.cells #[.pointer (some ⟨g, 0, none⟩), .func (Fn.func 28) #[.pointer (some ⟨g, 0, none⟩)] #[]] 103))
  clear hb hg hp
  unfold rdr
  go_wp2_with fail
  refine (cint_any _ HP.out HX.out).mono ?_
  rw [HK.out]
  rintro e w2 ⟨rfl, hp, hg2⟩
  have K0 := (K0.alloc (.cells #[.pointer (some ⟨g, 0, none⟩), .func (Fn.func 28) #[.pointer (some ⟨g, 0, none⟩)] #[]] 103)).grown hg2 (by simp; omega)
  have K1 := (Blk.new w1 103 #[.pointer (some ⟨g, 0, none⟩), .func (Fn.func 28) #[.pointer (some ⟨g, 0, none⟩)] #[]]).grown hg2 (by simp; omega)
  have HB := below_cur (HB.alloc HB.size (.cells #[.pointer (some ⟨g, 0, none⟩), .func (Fn.func 28) #[.pointer (some ⟨g, 0, none⟩)] #[]] 103)) hg2 (by have := HB.size; simp; omega) (by omega)
  have hz1 : w.heap.size < w1.heap.size := by omega
  have hgl2 := hp.lt
  have HP2 := Lib.hid (hp.alloc (.cells #[.int .i64 1, .int .i64 0, .int .i64 0, .int .i64 0, .int .i64 0, .int .i64 0] 50))
  have c0 := K0.c
  have c1 := K1.c
  have z0 := K0.lt
  have z1 := K1.lt
  have HL1 := Lib.hid (rdL_byte (top := topI) HX.out)
  clear hg2 hp
  go_wp2_with fail
  refine (cint_any _ HP2.out HL1.out).mono ?_
  rintro e w3 ⟨rfl, hp, hg3⟩
  obtain ⟨id, hid⟩ : ∃ id, id = rdV topI (rdL topI xs) := ⟨_, rfl⟩
  rw [← hid]
  have HID := Lib.hid hid
  clear hid
  have K2 := (Blk.new w2 50 #[.int .i64 1, .int .i64 0, .int .i64 0, .int .i64 0, .int .i64 0, .int .i64 0]).grown hg3 (by simp; omega)
  have K0 := (K0.alloc (.cells #[.int .i64 1, .int .i64 0, .int .i64 0, .int .i64 0, .int .i64 0, .int .i64 0] 50)).grown hg3 (by simp; omega)
  have K1 := (K1.alloc (.cells #[.int .i64 1, .int .i64 0, .int .i64 0, .int .i64 0, .int .i64 0, .int .i64 0] 50)).grown hg3 (by simp; omega)
  have HB := below_cur (HB.alloc HB.size (.cells #[.int .i64 1, .int .i64 0, .int .i64 0, .int .i64 0, .int .i64 0, .int .i64 0] 50)) hg3 (by have := HB.size; simp; omega) (by omega)
  have hne : g ≠ w2.heap.size := by omega
  have hz2 : w1.heap.size < w2.heap.size := by omega
  have hp' := hp.apart K2 (NoU8.of (by simp)) (grown_set (i := 1) (grown_self w3 (some w2.heap.size)) (.int .i64 (id : Nat))) hne
  have K2' : Blk (w3.setCell ⟨w2.heap.size, 1, none⟩ (.int .i64 (id : Nat))) w2.heap.size 50 #[.int .i64 1, .int .i64 (id : Nat), .int .i64 0, .int .i64 0, .int .i64 0, .int .i64 0] := by have := K2.set_ 1 (.int .i64 (id : Nat)); simpa using this
  have K0' := K0.far (p := ⟨w2.heap.size, 1, none⟩) (by simp; omega) (.int .i64 (id : Nat))
  have K1' := K1.far (p := ⟨w2.heap.size, 1, none⟩) (by simp; omega) (.int .i64 (id : Nat))
  have HB' := HB.setCell (p := ⟨w2.heap.size, 1, none⟩) (by show _ ≤ w2.heap.size; omega) (.int .i64 (id : Nat))
  have HS := Lib.hid (And.intro HB' (And.intro hp' (And.intro K0' (And.intro K1' K2'))))
  have HL2 := Lib.hid (rdL_byte (top := topI) HL1.out)
  have c0 := K0.c
  have c1 := K1.c
  have c2 := K2.c
  have f2 := K2.f
  have z2 := K2.lt
  clear hg3 hp hp' HB' K0' K1' K2' K0 K1 K2
  go_wp2_with fail
  clear c0 c1 c2 f2
  refine wp_region_held_drew (S := (fun W => Below w.heap.size w W ∧ PC W g (rdL topI (rdL topI xs)) (rdB topI (rdL topI xs) (rdB topI xs false)) ∧ Blk W w.heap.size 50 #[.int .i64 0, .int .i64 0, .int .i64 0, .int .i64 0, .int .i64 0, .int .i64 0] ∧ Blk W w1.heap.size 103 #[.pointer (some ⟨g, 0, none⟩), .func (Fn.func 28) #[.pointer (some ⟨g, 0, none⟩)] #[]] ∧ Blk W w2.heap.size 50 #[.int .i64 1, .int .i64 (id : Nat), .int .i64 0, .int .i64 0, .int .i64 0, .int .i64 0] ∧ (∀ i, W.cell? ⟨w2.heap.size, i, none⟩ = #[.int .i64 1, .int .i64 (id : Nat), .int .i64 0, .int .i64 0, .int .i64 0, .int .i64 0][i]?))) (by kernel_rfl) (⟨HS.out.1.drew, HS.out.2.1, HS.out.2.2.1, HS.out.2.2.2.1, HS.out.2.2.2.2, HS.out.2.2.2.2.c⟩) (fun hHeld => ?_)
  refine wpAnyH_take (i := 1) (v := ?_) rfl (by kernel_rfl) (by kernel_rfl) (by kernel_rfl) (fun _ _ _ h => h) (Or.inl ⟨by rfl, ?_⟩) hHeld ?_
  rotate_left
  · intro W hS
    try dsimp only at hS
    go_simp
    try with_reducible rfl
  try simp only [List.getElem_toArray, List.getElem_cons_succ, List.getElem_cons_zero, Act.put, List.setIfInBounds_toArray, List.set_cons_zero, List.set_cons_succ]
  refine wpAnyH_take (i := 2) (v := ?_) rfl (by kernel_rfl) (by kernel_rfl) (by kernel_rfl) (fun _ _ _ h => h) (Or.inl ⟨by rfl, ?_⟩) hHeld ?_
  rotate_left
  · intro W hS
    try dsimp only at hS
    go_simp
    try with_reducible rfl
  try simp only [List.getElem_toArray, List.getElem_cons_succ, List.getElem_cons_zero, Act.put, List.setIfInBounds_toArray, List.set_cons_zero, List.set_cons_succ]
  refine wpAnyH_ready (rs := [0]) (by kernel_rfl) (by simp) ?_
  refine AllReadyH.cons rfl (fun K hK => ?_) AllReadyH.nil
  go_simp
  refine (readers_any _).mono ?_
  rintro e w5 ⟨rfl, rfl⟩
  refine hK.out _ _ (⟨hHeld.1.alloc hHeld.1.size _, hHeld.2.1.alloc _, hHeld.2.2.1.alloc _, hHeld.2.2.2.1.alloc _, hHeld.2.2.2.2.1.alloc _, (hHeld.2.2.2.2.1.alloc _).c⟩) (fun hHeld => ?_)
  clear hK K
  try simp only [List.getElem_toArray, List.getElem_cons_succ, List.getElem_cons_zero, Act.put, List.setIfInBounds_toArray, List.set_cons_zero, List.set_cons_succ]
  refine wpAnyH_ready (rs := [3]) (by kernel_rfl) (by simp) ?_
  refine AllReadyH.cons rfl (fun K hK => ?_) AllReadyH.nil
  have hlk := run_look (P := Try.prog) (w := ((w3.setCell ⟨w2.heap.size, 1, none⟩ (.int .i64 (id : Nat))).alloc (.map rdsEntries 4)).drew) (g := w3.heap.size) (x := 1) Try.underlying107 Try.underlying3 (map_at (w3.setCell ⟨w2.heap.size, 1, none⟩ (.int .i64 (id : Nat))) (by simp) _) (by rfl)
  go_simp
  refine hK.out _ _ (hHeld) (fun hHeld => ?_)
  clear hK K
  try simp only [List.getElem_toArray, List.getElem_cons_succ, List.getElem_cons_zero, Act.put, List.setIfInBounds_toArray, List.set_cons_zero, List.set_cons_succ]
  refine wpAnyH_take (i := 4) (v := ?_) rfl (by kernel_rfl) (by kernel_rfl) (by kernel_rfl) (fun _ _ _ h => h) (Or.inl ⟨by rfl, ?_⟩) hHeld ?_
  rotate_left
  · intro W hS
    try dsimp only at hS
    go_simp
    try with_reducible rfl
  try simp only [List.getElem_toArray, List.getElem_cons_succ, List.getElem_cons_zero, Act.put, List.setIfInBounds_toArray, List.set_cons_zero, List.set_cons_succ]
  refine wpAnyH_take (i := 5) (v := ?_) rfl (by kernel_rfl) (by kernel_rfl) (by kernel_rfl) (fun _ _ _ h => h) (Or.inl ⟨by rfl, ?_⟩) hHeld ?_
  rotate_left
  · intro W hS
    try dsimp only at hS
    go_simp
    try with_reducible rfl
  try simp only [List.getElem_toArray, List.getElem_cons_succ, List.getElem_cons_zero, Act.put, List.setIfInBounds_toArray, List.set_cons_zero, List.set_cons_succ]
  refine wpAnyH_take (i := 6) (v := ?_) rfl (by kernel_rfl) (by kernel_rfl) (by kernel_rfl) (fun _ _ _ h => h) (Or.inl ⟨by rfl, ?_⟩) hHeld ?_
  rotate_left
  · intro W hS
    try dsimp only at hS
    go_simp
    try with_reducible rfl
  try simp only [List.getElem_toArray, List.getElem_cons_succ, List.getElem_cons_zero, Act.put, List.setIfInBounds_toArray, List.set_cons_zero, List.set_cons_succ]
  refine wpAnyH_take (i := 7) (v := ?_) rfl (by kernel_rfl) (by kernel_rfl) (by kernel_rfl) (fun _ _ _ h => h) (Or.inl ⟨by rfl, ?_⟩) hHeld ?_
  rotate_left
  · intro W hS
    try dsimp only at hS
    go_simp
    try with_reducible rfl
  try simp only [List.getElem_toArray, List.getElem_cons_succ, List.getElem_cons_zero, Act.put, List.setIfInBounds_toArray, List.set_cons_zero, List.set_cons_succ]
  refine wpAnyH_take (i := 8) (v := ?_) rfl (by kernel_rfl) (by kernel_rfl) (by kernel_rfl) (fun _ _ _ h => h) (Or.inl ⟨by rfl, ?_⟩) hHeld ?_
  rotate_left
  · intro W hS
    try dsimp only at hS
    go_simp
    try with_reducible rfl
  try simp only [List.getElem_toArray, List.getElem_cons_succ, List.getElem_cons_zero, Act.put, List.setIfInBounds_toArray, List.set_cons_zero, List.set_cons_succ]
  refine wpAnyH_done (by kernel_rfl) ?_ _
  clear hlk
  obtain ⟨HB, hp, K0, K1, K2, _⟩ := hHeld
  have HP := Lib.hid hp
  have c0 := K0.c
  have c1 := K1.c
  have c2 := K2.c
  have f0 := K0.f
  have z0 := K0.lt
  have z1 := K1.lt
  have z2 := K2.lt
  clear hp
  have HRQ := Lib.hid (show rq xs = (⟨1, (id : Nat), (rdV topI (rdL topI (rdL topI xs)) : Nat), (rdV topI (rdL topI (rdL topI (rdL topI xs))) : Nat), 0, 0⟩, ⟨(rdL topI (rdL topI (rdL topI (rdL topI xs)))), (rdB topI (rdL topI (rdL topI (rdL topI xs))) (rdB topI (rdL topI (rdL topI xs)) (rdB topI (rdL topI xs) (rdB topI xs false))))⟩) by rw [rq_12 (.inl (by simp [Cur.i, HK.out]))]; simp [Cur.i, Cur.ni, Cur.two, HK.out, HID.out])
  go_wp2_with fail
  refine (edge_any (g := g) (h := w2.heap.size) _ HP.out HL2.out K2 hne).mono ?_
  rintro e w6 ⟨rfl, hp6, K6, hT⟩
  have HB := hT.below HB (by omega) (by omega) (by omega)
  have K0 := K0.two hT (by omega) (by omega)
  have K1 := K1.two hT (by omega) (by omega)
  have HP6 := Lib.hid hp6
  have c0 := K0.c
  have f0 := K0.f
  have z0 := K0.lt
  have c1 := K1.c
  have f1 := K1.f
  have z1 := K1.lt
  have c2 := K6.c
  have f2 := K6.f
  have z2 := K6.lt
  obtain ⟨v0, hv0⟩ : ∃ v0, v0 = rdV topI (rdL topI (rdL topI xs)) := ⟨_, rfl⟩
  rw [← hv0] at c2 HRQ K6
  have HV0 := Lib.hid hv0
  clear hv0
  obtain ⟨v1, hv1⟩ : ∃ v1, v1 = rdV topI (rdL topI (rdL topI (rdL topI xs))) := ⟨_, rfl⟩
  rw [← hv1] at c2 HRQ K6
  have HV1 := Lib.hid hv1
  clear hv1
  obtain ⟨en, hen⟩ : ∃ en, en = (!(rdB topI (rdL topI (rdL topI (rdL topI xs))) (rdB topI (rdL topI (rdL topI xs)) (rdB topI (rdL topI xs) (rdB topI xs false)))) && (rdL topI (rdL topI (rdL topI (rdL topI xs)))).isEmpty) := ⟨_, rfl⟩
  have HE := Lib.hid hen
  clear hen hp6 hT K1 K2
  go_wp2_with fail
  refine (cend_any _ HP6.out).mono ?_
  rw [← HE.out]
  rintro e w7 ⟨rfl, rfl⟩
  cases en
  · go_wp2_with fail
    exact bodyPost_ret (v := .tuple #[.agg #[.int .i64 0, .int .i64 0, .int .i64 0, .int .i64 0, .int .i64 0, .int .i64 0], .int .i64 4]) (by simp [results, Try.results40, go_sem, c0, f0, z0]) rfl ⟨by rw [readReq_end (by have := HN.out; omega) (by rw [HRQ.out]; exact HE.out.symm)]; rfl, (((((HB.setCell (Nat.le_refl _) _).setCell (Nat.le_refl _) _).setCell (Nat.le_refl _) _).setCell (Nat.le_refl _) _).setCell (Nat.le_refl _) _).setCell (Nat.le_refl _) _⟩
  · go_wp2_with fail
    refine (may_any ⟨1, (id : Nat), (v0 : Nat), (v1 : Nat), 0, 0⟩ _).mono ?_
    cases hm : Req.may ⟨1, (id : Nat), (v0 : Nat), (v1 : Nat), 0, 0⟩
    · rintro e w8 ⟨rfl, hb⟩
      have HM := Lib.hid hm
      have K0 := K0.on hb
      have HB := below_after HB hb HB.size
      have c0 := K0.c
      have f0 := K0.f
      have z0 := K0.lt
      clear hm
      go_wp2_with fail
      exact bodyPost_ret (v := .tuple #[.agg #[.int .i64 0, .int .i64 0, .int .i64 0, .int .i64 0, .int .i64 0, .int .i64 0], .int .i64 4]) (by simp [results, Try.results40, go_sem, c0, f0, z0]) rfl ⟨by rw [readReq_may (by have := HN.out; omega) (by rw [HRQ.out]; exact HM.out)]; rfl, (((((HB.setCell (Nat.le_refl _) _).setCell (Nat.le_refl _) _).setCell (Nat.le_refl _) _).setCell (Nat.le_refl _) _).setCell (Nat.le_refl _) _).setCell (Nat.le_refl _) _⟩
    · rintro e w8 ⟨rfl, hb⟩
      have HM := Lib.hid hm
      have K6 := K6.on hb
      have c2 := K6.c
      have f2 := K6.f
      have z2 := K6.lt
      have K0 := K0.on hb
      have HB := below_after HB hb HB.size
      have c0 := K0.c
      have f0 := K0.f
      have z0 := K0.lt
      clear hm
      go_wp2_with fail
      exact bodyPost_ret (v := .tuple #[.agg #[.int .i64 1, .int .i64 (id : Nat), .int .i64 (v0 : Nat), .int .i64 (v1 : Nat), .int .i64 0, .int .i64 0], .int .i64 0]) (by simp [results, Try.results40, go_sem, c0, f0, z0]) rfl ⟨by rw [readReq_yes (by have := HN.out; omega) (by rw [HRQ.out]; exact HE.out.symm) (by rw [HRQ.out]; exact HM.out), HRQ.out]; rfl, (((((HB.setCell (Nat.le_refl _) _).setCell (Nat.le_refl _) _).setCell (Nat.le_refl _) _).setCell (Nat.le_refl _) _).setCell (Nat.le_refl _) _).setCell (Nat.le_refl _) _⟩

set_option maxRecDepth 100000 in
set_option maxHeartbeats 2000000 in
theorem readreq_2 {A : Option Addr} {n c : Nat} {xs : List Nat} (w : World) (hx : Reads w w.heap.size 1 A n (u8s xs)) (hxs : ∀ x ∈ xs, x < 256) (h : ¬ 64 < n) (hk : rdV topI xs = 2) :
    Calls Try.prog 40 #[.slice A n c] w fun e w' => e = .returned (.tuple #[(readReq xs).1.V, .int .i64 (readReq xs).2]) ∧ Below w.heap.size w w' := by
  have HX := Lib.hid hxs
  have hl : xs.length = n := by simpa using hx.1
  have HN := Lib.hid hl
  have HK := Lib.hid hk
  clear hl hxs hk
  go_enter Try.func40, Try.ntmps40
  go_wp2_with fail
  refine (read_any (B := w.heap.size) _ (hx.alloc (Nat.le_refl _) _) (by simp) (by omega)).mono ?_
  rintro e w1 ⟨g, rfl, hg, hp, hb⟩
  have K0 := Blk.on (g := w.heap.size) (t := 50) (cs := #[.int .i64 0, .int .i64 0, .int .i64 0, .int .i64 0, .int .i64 0, .int .i64 0]) (Blk.at_ _ _ _ (by simp)) hb
  have HB := below_after ((Below.refl w.heap.size w).alloc (Nat.le_refl _) _) hb (by simp)
  have hg1 : w.heap.size < g := by have := hg; simp at this; omega
  have hgl := hp.lt
  have HP := Lib.hid (hp.alloc (.cells #[.pointer (some ⟨g, 0, none⟩), .func (Fn.func 28) #[.pointer (some ⟨g, 0, none⟩)] #[]] 103))
  clear hb hg hp
  unfold rdr
  go_wp2_with fail
  refine (cint_any _ HP.out HX.out).mono ?_
  rw [HK.out]
  rintro e w2 ⟨rfl, hp, hg2⟩
  have K0 := (K0.alloc (.cells #[.pointer (some ⟨g, 0, none⟩), .func (Fn.func 28) #[.pointer (some ⟨g, 0, none⟩)] #[]] 103)).grown hg2 (by simp; omega)
  have K1 := (Blk.new w1 103 #[.pointer (some ⟨g, 0, none⟩), .func (Fn.func 28) #[.pointer (some ⟨g, 0, none⟩)] #[]]).grown hg2 (by simp; omega)
  have HB := below_cur (HB.alloc HB.size (.cells #[.pointer (some ⟨g, 0, none⟩), .func (Fn.func 28) #[.pointer (some ⟨g, 0, none⟩)] #[]] 103)) hg2 (by have := HB.size; simp; omega) (by omega)
  have hz1 : w.heap.size < w1.heap.size := by omega
  have hgl2 := hp.lt
  have HP2 := Lib.hid (hp.alloc (.cells #[.int .i64 2, .int .i64 0, .int .i64 0, .int .i64 0, .int .i64 0, .int .i64 0] 50))
  have c0 := K0.c
  have c1 := K1.c
  have z0 := K0.lt
  have z1 := K1.lt
  have HL1 := Lib.hid (rdL_byte (top := topI) HX.out)
  clear hg2 hp
  go_wp2_with fail
  refine (cint_any _ HP2.out HL1.out).mono ?_
  rintro e w3 ⟨rfl, hp, hg3⟩
  obtain ⟨id, hid⟩ : ∃ id, id = rdV topI (rdL topI xs) := ⟨_, rfl⟩
  rw [← hid]
  have HID := Lib.hid hid
  clear hid
  have K2 := (Blk.new w2 50 #[.int .i64 2, .int .i64 0, .int .i64 0, .int .i64 0, .int .i64 0, .int .i64 0]).grown hg3 (by simp; omega)
  have K0 := (K0.alloc (.cells #[.int .i64 2, .int .i64 0, .int .i64 0, .int .i64 0, .int .i64 0, .int .i64 0] 50)).grown hg3 (by simp; omega)
  have K1 := (K1.alloc (.cells #[.int .i64 2, .int .i64 0, .int .i64 0, .int .i64 0, .int .i64 0, .int .i64 0] 50)).grown hg3 (by simp; omega)
  have HB := below_cur (HB.alloc HB.size (.cells #[.int .i64 2, .int .i64 0, .int .i64 0, .int .i64 0, .int .i64 0, .int .i64 0] 50)) hg3 (by have := HB.size; simp; omega) (by omega)
  have hne : g ≠ w2.heap.size := by omega
  have hz2 : w1.heap.size < w2.heap.size := by omega
  have hp' := hp.apart K2 (NoU8.of (by simp)) (grown_set (i := 1) (grown_self w3 (some w2.heap.size)) (.int .i64 (id : Nat))) hne
  have K2' : Blk (w3.setCell ⟨w2.heap.size, 1, none⟩ (.int .i64 (id : Nat))) w2.heap.size 50 #[.int .i64 2, .int .i64 (id : Nat), .int .i64 0, .int .i64 0, .int .i64 0, .int .i64 0] := by have := K2.set_ 1 (.int .i64 (id : Nat)); simpa using this
  have K0' := K0.far (p := ⟨w2.heap.size, 1, none⟩) (by simp; omega) (.int .i64 (id : Nat))
  have K1' := K1.far (p := ⟨w2.heap.size, 1, none⟩) (by simp; omega) (.int .i64 (id : Nat))
  have HB' := HB.setCell (p := ⟨w2.heap.size, 1, none⟩) (by show _ ≤ w2.heap.size; omega) (.int .i64 (id : Nat))
  have HS := Lib.hid (And.intro HB' (And.intro hp' (And.intro K0' (And.intro K1' K2'))))
  have HL2 := Lib.hid (rdL_byte (top := topI) HL1.out)
  have c0 := K0.c
  have c1 := K1.c
  have c2 := K2.c
  have f2 := K2.f
  have z2 := K2.lt
  clear hg3 hp hp' HB' K0' K1' K2' K0 K1 K2
  go_wp2_with fail
  clear c0 c1 c2 f2
  refine wp_region_held_drew (S := (fun W => Below w.heap.size w W ∧ PC W g (rdL topI (rdL topI xs)) (rdB topI (rdL topI xs) (rdB topI xs false)) ∧ Blk W w.heap.size 50 #[.int .i64 0, .int .i64 0, .int .i64 0, .int .i64 0, .int .i64 0, .int .i64 0] ∧ Blk W w1.heap.size 103 #[.pointer (some ⟨g, 0, none⟩), .func (Fn.func 28) #[.pointer (some ⟨g, 0, none⟩)] #[]] ∧ Blk W w2.heap.size 50 #[.int .i64 2, .int .i64 (id : Nat), .int .i64 0, .int .i64 0, .int .i64 0, .int .i64 0] ∧ (∀ i, W.cell? ⟨w2.heap.size, i, none⟩ = #[.int .i64 2, .int .i64 (id : Nat), .int .i64 0, .int .i64 0, .int .i64 0, .int .i64 0][i]?))) (by kernel_rfl) (⟨HS.out.1.drew, HS.out.2.1, HS.out.2.2.1, HS.out.2.2.2.1, HS.out.2.2.2.2, HS.out.2.2.2.2.c⟩) (fun hHeld => ?_)
  refine wpAnyH_take (i := 1) (v := ?_) rfl (by kernel_rfl) (by kernel_rfl) (by kernel_rfl) (fun _ _ _ h => h) (Or.inl ⟨by rfl, ?_⟩) hHeld ?_
  rotate_left
  · intro W hS
    try dsimp only at hS
    go_simp
    try with_reducible rfl
  try simp only [List.getElem_toArray, List.getElem_cons_succ, List.getElem_cons_zero, Act.put, List.setIfInBounds_toArray, List.set_cons_zero, List.set_cons_succ]
  refine wpAnyH_take (i := 2) (v := ?_) rfl (by kernel_rfl) (by kernel_rfl) (by kernel_rfl) (fun _ _ _ h => h) (Or.inl ⟨by rfl, ?_⟩) hHeld ?_
  rotate_left
  · intro W hS
    try dsimp only at hS
    go_simp
    try with_reducible rfl
  try simp only [List.getElem_toArray, List.getElem_cons_succ, List.getElem_cons_zero, Act.put, List.setIfInBounds_toArray, List.set_cons_zero, List.set_cons_succ]
  refine wpAnyH_ready (rs := [0]) (by kernel_rfl) (by simp) ?_
  refine AllReadyH.cons rfl (fun K hK => ?_) AllReadyH.nil
  go_simp
  refine (readers_any _).mono ?_
  rintro e w5 ⟨rfl, rfl⟩
  refine hK.out _ _ (⟨hHeld.1.alloc hHeld.1.size _, hHeld.2.1.alloc _, hHeld.2.2.1.alloc _, hHeld.2.2.2.1.alloc _, hHeld.2.2.2.2.1.alloc _, (hHeld.2.2.2.2.1.alloc _).c⟩) (fun hHeld => ?_)
  clear hK K
  try simp only [List.getElem_toArray, List.getElem_cons_succ, List.getElem_cons_zero, Act.put, List.setIfInBounds_toArray, List.set_cons_zero, List.set_cons_succ]
  refine wpAnyH_ready (rs := [3]) (by kernel_rfl) (by simp) ?_
  refine AllReadyH.cons rfl (fun K hK => ?_) AllReadyH.nil
  have hlk := run_look (P := Try.prog) (w := ((w3.setCell ⟨w2.heap.size, 1, none⟩ (.int .i64 (id : Nat))).alloc (.map rdsEntries 4)).drew) (g := w3.heap.size) (x := 2) Try.underlying107 Try.underlying3 (map_at (w3.setCell ⟨w2.heap.size, 1, none⟩ (.int .i64 (id : Nat))) (by simp) _) (by rfl)
  go_simp
  refine hK.out _ _ (hHeld) (fun hHeld => ?_)
  clear hK K
  try simp only [List.getElem_toArray, List.getElem_cons_succ, List.getElem_cons_zero, Act.put, List.setIfInBounds_toArray, List.set_cons_zero, List.set_cons_succ]
  refine wpAnyH_take (i := 4) (v := ?_) rfl (by kernel_rfl) (by kernel_rfl) (by kernel_rfl) (fun _ _ _ h => h) (Or.inl ⟨by rfl, ?_⟩) hHeld ?_
  rotate_left
  · intro W hS
    try dsimp only at hS
    go_simp
    try with_reducible rfl
  try simp only [List.getElem_toArray, List.getElem_cons_succ, List.getElem_cons_zero, Act.put, List.setIfInBounds_toArray, List.set_cons_zero, List.set_cons_succ]
  refine wpAnyH_take (i := 5) (v := ?_) rfl (by kernel_rfl) (by kernel_rfl) (by kernel_rfl) (fun _ _ _ h => h) (Or.inl ⟨by rfl, ?_⟩) hHeld ?_
  rotate_left
  · intro W hS
    try dsimp only at hS
    go_simp
    try with_reducible rfl
  try simp only [List.getElem_toArray, List.getElem_cons_succ, List.getElem_cons_zero, Act.put, List.setIfInBounds_toArray, List.set_cons_zero, List.set_cons_succ]
  refine wpAnyH_take (i := 6) (v := ?_) rfl (by kernel_rfl) (by kernel_rfl) (by kernel_rfl) (fun _ _ _ h => h) (Or.inl ⟨by rfl, ?_⟩) hHeld ?_
  rotate_left
  · intro W hS
    try dsimp only at hS
    go_simp
    try with_reducible rfl
  try simp only [List.getElem_toArray, List.getElem_cons_succ, List.getElem_cons_zero, Act.put, List.setIfInBounds_toArray, List.set_cons_zero, List.set_cons_succ]
  refine wpAnyH_take (i := 7) (v := ?_) rfl (by kernel_rfl) (by kernel_rfl) (by kernel_rfl) (fun _ _ _ h => h) (Or.inl ⟨by rfl, ?_⟩) hHeld ?_
  rotate_left
  · intro W hS
    try dsimp only at hS
    go_simp
    try with_reducible rfl
  try simp only [List.getElem_toArray, List.getElem_cons_succ, List.getElem_cons_zero, Act.put, List.setIfInBounds_toArray, List.set_cons_zero, List.set_cons_succ]
  refine wpAnyH_take (i := 8) (v := ?_) rfl (by kernel_rfl) (by kernel_rfl) (by kernel_rfl) (fun _ _ _ h => h) (Or.inl ⟨by rfl, ?_⟩) hHeld ?_
  rotate_left
  · intro W hS
    try dsimp only at hS
    go_simp
    try with_reducible rfl
  try simp only [List.getElem_toArray, List.getElem_cons_succ, List.getElem_cons_zero, Act.put, List.setIfInBounds_toArray, List.set_cons_zero, List.set_cons_succ]
  refine wpAnyH_done (by kernel_rfl) ?_ _
  clear hlk
  obtain ⟨HB, hp, K0, K1, K2, _⟩ := hHeld
  have HP := Lib.hid hp
  have c0 := K0.c
  have c1 := K1.c
  have c2 := K2.c
  have f0 := K0.f
  have z0 := K0.lt
  have z1 := K1.lt
  have z2 := K2.lt
  clear hp
  have HRQ := Lib.hid (show rq xs = (⟨2, (id : Nat), (rdV topI (rdL topI (rdL topI xs)) : Nat), (rdV topI (rdL topI (rdL topI (rdL topI xs))) : Nat), 0, 0⟩, ⟨(rdL topI (rdL topI (rdL topI (rdL topI xs)))), (rdB topI (rdL topI (rdL topI (rdL topI xs))) (rdB topI (rdL topI (rdL topI xs)) (rdB topI (rdL topI xs) (rdB topI xs false))))⟩) by rw [rq_12 (.inr (by simp [Cur.i, HK.out]))]; simp [Cur.i, Cur.ni, Cur.two, HK.out, HID.out])
  go_wp2_with fail
  refine (edge_any (g := g) (h := w2.heap.size) _ HP.out HL2.out K2 hne).mono ?_
  rintro e w6 ⟨rfl, hp6, K6, hT⟩
  have HB := hT.below HB (by omega) (by omega) (by omega)
  have K0 := K0.two hT (by omega) (by omega)
  have K1 := K1.two hT (by omega) (by omega)
  have HP6 := Lib.hid hp6
  have c0 := K0.c
  have f0 := K0.f
  have z0 := K0.lt
  have c1 := K1.c
  have f1 := K1.f
  have z1 := K1.lt
  have c2 := K6.c
  have f2 := K6.f
  have z2 := K6.lt
  obtain ⟨v0, hv0⟩ : ∃ v0, v0 = rdV topI (rdL topI (rdL topI xs)) := ⟨_, rfl⟩
  rw [← hv0] at c2 HRQ K6
  have HV0 := Lib.hid hv0
  clear hv0
  obtain ⟨v1, hv1⟩ : ∃ v1, v1 = rdV topI (rdL topI (rdL topI (rdL topI xs))) := ⟨_, rfl⟩
  rw [← hv1] at c2 HRQ K6
  have HV1 := Lib.hid hv1
  clear hv1
  obtain ⟨en, hen⟩ : ∃ en, en = (!(rdB topI (rdL topI (rdL topI (rdL topI xs))) (rdB topI (rdL topI (rdL topI xs)) (rdB topI (rdL topI xs) (rdB topI xs false)))) && (rdL topI (rdL topI (rdL topI (rdL topI xs)))).isEmpty) := ⟨_, rfl⟩
  have HE := Lib.hid hen
  clear hen hp6 hT K1 K2
  go_wp2_with fail
  refine (cend_any _ HP6.out).mono ?_
  rw [← HE.out]
  rintro e w7 ⟨rfl, rfl⟩
  cases en
  · go_wp2_with fail
    exact bodyPost_ret (v := .tuple #[.agg #[.int .i64 0, .int .i64 0, .int .i64 0, .int .i64 0, .int .i64 0, .int .i64 0], .int .i64 4]) (by simp [results, Try.results40, go_sem, c0, f0, z0]) rfl ⟨by rw [readReq_end (by have := HN.out; omega) (by rw [HRQ.out]; exact HE.out.symm)]; rfl, (((((HB.setCell (Nat.le_refl _) _).setCell (Nat.le_refl _) _).setCell (Nat.le_refl _) _).setCell (Nat.le_refl _) _).setCell (Nat.le_refl _) _).setCell (Nat.le_refl _) _⟩
  · go_wp2_with fail
    refine (may_any ⟨2, (id : Nat), (v0 : Nat), (v1 : Nat), 0, 0⟩ _).mono ?_
    cases hm : Req.may ⟨2, (id : Nat), (v0 : Nat), (v1 : Nat), 0, 0⟩
    · rintro e w8 ⟨rfl, hb⟩
      have HM := Lib.hid hm
      have K0 := K0.on hb
      have HB := below_after HB hb HB.size
      have c0 := K0.c
      have f0 := K0.f
      have z0 := K0.lt
      clear hm
      go_wp2_with fail
      exact bodyPost_ret (v := .tuple #[.agg #[.int .i64 0, .int .i64 0, .int .i64 0, .int .i64 0, .int .i64 0, .int .i64 0], .int .i64 4]) (by simp [results, Try.results40, go_sem, c0, f0, z0]) rfl ⟨by rw [readReq_may (by have := HN.out; omega) (by rw [HRQ.out]; exact HM.out)]; rfl, (((((HB.setCell (Nat.le_refl _) _).setCell (Nat.le_refl _) _).setCell (Nat.le_refl _) _).setCell (Nat.le_refl _) _).setCell (Nat.le_refl _) _).setCell (Nat.le_refl _) _⟩
    · rintro e w8 ⟨rfl, hb⟩
      have HM := Lib.hid hm
      have K6 := K6.on hb
      have c2 := K6.c
      have f2 := K6.f
      have z2 := K6.lt
      have K0 := K0.on hb
      have HB := below_after HB hb HB.size
      have c0 := K0.c
      have f0 := K0.f
      have z0 := K0.lt
      clear hm
      go_wp2_with fail
      exact bodyPost_ret (v := .tuple #[.agg #[.int .i64 2, .int .i64 (id : Nat), .int .i64 (v0 : Nat), .int .i64 (v1 : Nat), .int .i64 0, .int .i64 0], .int .i64 0]) (by simp [results, Try.results40, go_sem, c0, f0, z0]) rfl ⟨by rw [readReq_yes (by have := HN.out; omega) (by rw [HRQ.out]; exact HE.out.symm) (by rw [HRQ.out]; exact HM.out), HRQ.out]; rfl, (((((HB.setCell (Nat.le_refl _) _).setCell (Nat.le_refl _) _).setCell (Nat.le_refl _) _).setCell (Nat.le_refl _) _).setCell (Nat.le_refl _) _).setCell (Nat.le_refl _) _⟩

set_option maxRecDepth 100000 in
set_option maxHeartbeats 2000000 in
theorem readreq_3 {A : Option Addr} {n c : Nat} {xs : List Nat} (w : World) (hx : Reads w w.heap.size 1 A n (u8s xs)) (hxs : ∀ x ∈ xs, x < 256) (h : ¬ 64 < n) (hk : rdV topI xs = 3) :
    Calls Try.prog 40 #[.slice A n c] w fun e w' => e = .returned (.tuple #[(readReq xs).1.V, .int .i64 (readReq xs).2]) ∧ Below w.heap.size w w' := by
  have HX := Lib.hid hxs
  have hl : xs.length = n := by simpa using hx.1
  have HN := Lib.hid hl
  have HK := Lib.hid hk
  clear hl hxs hk
  go_enter Try.func40, Try.ntmps40
  go_wp2_with fail
  refine (read_any (B := w.heap.size) _ (hx.alloc (Nat.le_refl _) _) (by simp) (by omega)).mono ?_
  rintro e w1 ⟨g, rfl, hg, hp, hb⟩
  have K0 := Blk.on (g := w.heap.size) (t := 50) (cs := #[.int .i64 0, .int .i64 0, .int .i64 0, .int .i64 0, .int .i64 0, .int .i64 0]) (Blk.at_ _ _ _ (by simp)) hb
  have HB := below_after ((Below.refl w.heap.size w).alloc (Nat.le_refl _) _) hb (by simp)
  have hg1 : w.heap.size < g := by have := hg; simp at this; omega
  have hgl := hp.lt
  have HP := Lib.hid (hp.alloc (.cells #[.pointer (some ⟨g, 0, none⟩), .func (Fn.func 28) #[.pointer (some ⟨g, 0, none⟩)] #[]] 103))
  clear hb hg hp
  unfold rdr
  go_wp2_with fail
  refine (cint_any _ HP.out HX.out).mono ?_
  rw [HK.out]
  rintro e w2 ⟨rfl, hp, hg2⟩
  have K0 := (K0.alloc (.cells #[.pointer (some ⟨g, 0, none⟩), .func (Fn.func 28) #[.pointer (some ⟨g, 0, none⟩)] #[]] 103)).grown hg2 (by simp; omega)
  have K1 := (Blk.new w1 103 #[.pointer (some ⟨g, 0, none⟩), .func (Fn.func 28) #[.pointer (some ⟨g, 0, none⟩)] #[]]).grown hg2 (by simp; omega)
  have HB := below_cur (HB.alloc HB.size (.cells #[.pointer (some ⟨g, 0, none⟩), .func (Fn.func 28) #[.pointer (some ⟨g, 0, none⟩)] #[]] 103)) hg2 (by have := HB.size; simp; omega) (by omega)
  have hz1 : w.heap.size < w1.heap.size := by omega
  have hgl2 := hp.lt
  have HP2 := Lib.hid (hp.alloc (.cells #[.int .i64 3, .int .i64 0, .int .i64 0, .int .i64 0, .int .i64 0, .int .i64 0] 50))
  have c0 := K0.c
  have c1 := K1.c
  have z0 := K0.lt
  have z1 := K1.lt
  have HL1 := Lib.hid (rdL_byte (top := topI) HX.out)
  clear hg2 hp
  go_wp2_with fail
  refine (cint_any _ HP2.out HL1.out).mono ?_
  rintro e w3 ⟨rfl, hp, hg3⟩
  obtain ⟨id, hid⟩ : ∃ id, id = rdV topI (rdL topI xs) := ⟨_, rfl⟩
  rw [← hid]
  have HID := Lib.hid hid
  clear hid
  have K2 := (Blk.new w2 50 #[.int .i64 3, .int .i64 0, .int .i64 0, .int .i64 0, .int .i64 0, .int .i64 0]).grown hg3 (by simp; omega)
  have K0 := (K0.alloc (.cells #[.int .i64 3, .int .i64 0, .int .i64 0, .int .i64 0, .int .i64 0, .int .i64 0] 50)).grown hg3 (by simp; omega)
  have K1 := (K1.alloc (.cells #[.int .i64 3, .int .i64 0, .int .i64 0, .int .i64 0, .int .i64 0, .int .i64 0] 50)).grown hg3 (by simp; omega)
  have HB := below_cur (HB.alloc HB.size (.cells #[.int .i64 3, .int .i64 0, .int .i64 0, .int .i64 0, .int .i64 0, .int .i64 0] 50)) hg3 (by have := HB.size; simp; omega) (by omega)
  have hne : g ≠ w2.heap.size := by omega
  have hz2 : w1.heap.size < w2.heap.size := by omega
  have hp' := hp.apart K2 (NoU8.of (by simp)) (grown_set (i := 1) (grown_self w3 (some w2.heap.size)) (.int .i64 (id : Nat))) hne
  have K2' : Blk (w3.setCell ⟨w2.heap.size, 1, none⟩ (.int .i64 (id : Nat))) w2.heap.size 50 #[.int .i64 3, .int .i64 (id : Nat), .int .i64 0, .int .i64 0, .int .i64 0, .int .i64 0] := by have := K2.set_ 1 (.int .i64 (id : Nat)); simpa using this
  have K0' := K0.far (p := ⟨w2.heap.size, 1, none⟩) (by simp; omega) (.int .i64 (id : Nat))
  have K1' := K1.far (p := ⟨w2.heap.size, 1, none⟩) (by simp; omega) (.int .i64 (id : Nat))
  have HB' := HB.setCell (p := ⟨w2.heap.size, 1, none⟩) (by show _ ≤ w2.heap.size; omega) (.int .i64 (id : Nat))
  have HS := Lib.hid (And.intro HB' (And.intro hp' (And.intro K0' (And.intro K1' K2'))))
  have HL2 := Lib.hid (rdL_byte (top := topI) HL1.out)
  have c0 := K0.c
  have c1 := K1.c
  have c2 := K2.c
  have f2 := K2.f
  have z2 := K2.lt
  clear hg3 hp hp' HB' K0' K1' K2' K0 K1 K2
  go_wp2_with fail
  clear c0 c1 c2 f2
  refine wp_region_held_drew (S := (fun W => Below w.heap.size w W ∧ PC W g (rdL topI (rdL topI xs)) (rdB topI (rdL topI xs) (rdB topI xs false)) ∧ Blk W w.heap.size 50 #[.int .i64 0, .int .i64 0, .int .i64 0, .int .i64 0, .int .i64 0, .int .i64 0] ∧ Blk W w1.heap.size 103 #[.pointer (some ⟨g, 0, none⟩), .func (Fn.func 28) #[.pointer (some ⟨g, 0, none⟩)] #[]] ∧ Blk W w2.heap.size 50 #[.int .i64 3, .int .i64 (id : Nat), .int .i64 0, .int .i64 0, .int .i64 0, .int .i64 0] ∧ (∀ i, W.cell? ⟨w2.heap.size, i, none⟩ = #[.int .i64 3, .int .i64 (id : Nat), .int .i64 0, .int .i64 0, .int .i64 0, .int .i64 0][i]?))) (by kernel_rfl) (⟨HS.out.1.drew, HS.out.2.1, HS.out.2.2.1, HS.out.2.2.2.1, HS.out.2.2.2.2, HS.out.2.2.2.2.c⟩) (fun hHeld => ?_)
  refine wpAnyH_take (i := 1) (v := ?_) rfl (by kernel_rfl) (by kernel_rfl) (by kernel_rfl) (fun _ _ _ h => h) (Or.inl ⟨by rfl, ?_⟩) hHeld ?_
  rotate_left
  · intro W hS
    try dsimp only at hS
    go_simp
    try with_reducible rfl
  try simp only [List.getElem_toArray, List.getElem_cons_succ, List.getElem_cons_zero, Act.put, List.setIfInBounds_toArray, List.set_cons_zero, List.set_cons_succ]
  refine wpAnyH_take (i := 2) (v := ?_) rfl (by kernel_rfl) (by kernel_rfl) (by kernel_rfl) (fun _ _ _ h => h) (Or.inl ⟨by rfl, ?_⟩) hHeld ?_
  rotate_left
  · intro W hS
    try dsimp only at hS
    go_simp
    try with_reducible rfl
  try simp only [List.getElem_toArray, List.getElem_cons_succ, List.getElem_cons_zero, Act.put, List.setIfInBounds_toArray, List.set_cons_zero, List.set_cons_succ]
  refine wpAnyH_ready (rs := [0]) (by kernel_rfl) (by simp) ?_
  refine AllReadyH.cons rfl (fun K hK => ?_) AllReadyH.nil
  go_simp
  refine (readers_any _).mono ?_
  rintro e w5 ⟨rfl, rfl⟩
  refine hK.out _ _ (⟨hHeld.1.alloc hHeld.1.size _, hHeld.2.1.alloc _, hHeld.2.2.1.alloc _, hHeld.2.2.2.1.alloc _, hHeld.2.2.2.2.1.alloc _, (hHeld.2.2.2.2.1.alloc _).c⟩) (fun hHeld => ?_)
  clear hK K
  try simp only [List.getElem_toArray, List.getElem_cons_succ, List.getElem_cons_zero, Act.put, List.setIfInBounds_toArray, List.set_cons_zero, List.set_cons_succ]
  refine wpAnyH_ready (rs := [3]) (by kernel_rfl) (by simp) ?_
  refine AllReadyH.cons rfl (fun K hK => ?_) AllReadyH.nil
  have hlk := run_look (P := Try.prog) (w := ((w3.setCell ⟨w2.heap.size, 1, none⟩ (.int .i64 (id : Nat))).alloc (.map rdsEntries 4)).drew) (g := w3.heap.size) (x := 3) Try.underlying107 Try.underlying3 (map_at (w3.setCell ⟨w2.heap.size, 1, none⟩ (.int .i64 (id : Nat))) (by simp) _) (by rfl)
  go_simp
  refine hK.out _ _ (hHeld) (fun hHeld => ?_)
  clear hK K
  try simp only [List.getElem_toArray, List.getElem_cons_succ, List.getElem_cons_zero, Act.put, List.setIfInBounds_toArray, List.set_cons_zero, List.set_cons_succ]
  refine wpAnyH_take (i := 4) (v := ?_) rfl (by kernel_rfl) (by kernel_rfl) (by kernel_rfl) (fun _ _ _ h => h) (Or.inl ⟨by rfl, ?_⟩) hHeld ?_
  rotate_left
  · intro W hS
    try dsimp only at hS
    go_simp
    try with_reducible rfl
  try simp only [List.getElem_toArray, List.getElem_cons_succ, List.getElem_cons_zero, Act.put, List.setIfInBounds_toArray, List.set_cons_zero, List.set_cons_succ]
  refine wpAnyH_take (i := 5) (v := ?_) rfl (by kernel_rfl) (by kernel_rfl) (by kernel_rfl) (fun _ _ _ h => h) (Or.inl ⟨by rfl, ?_⟩) hHeld ?_
  rotate_left
  · intro W hS
    try dsimp only at hS
    go_simp
    try with_reducible rfl
  try simp only [List.getElem_toArray, List.getElem_cons_succ, List.getElem_cons_zero, Act.put, List.setIfInBounds_toArray, List.set_cons_zero, List.set_cons_succ]
  refine wpAnyH_take (i := 6) (v := ?_) rfl (by kernel_rfl) (by kernel_rfl) (by kernel_rfl) (fun _ _ _ h => h) (Or.inl ⟨by rfl, ?_⟩) hHeld ?_
  rotate_left
  · intro W hS
    try dsimp only at hS
    go_simp
    try with_reducible rfl
  try simp only [List.getElem_toArray, List.getElem_cons_succ, List.getElem_cons_zero, Act.put, List.setIfInBounds_toArray, List.set_cons_zero, List.set_cons_succ]
  refine wpAnyH_take (i := 7) (v := ?_) rfl (by kernel_rfl) (by kernel_rfl) (by kernel_rfl) (fun _ _ _ h => h) (Or.inl ⟨by rfl, ?_⟩) hHeld ?_
  rotate_left
  · intro W hS
    try dsimp only at hS
    go_simp
    try with_reducible rfl
  try simp only [List.getElem_toArray, List.getElem_cons_succ, List.getElem_cons_zero, Act.put, List.setIfInBounds_toArray, List.set_cons_zero, List.set_cons_succ]
  refine wpAnyH_take (i := 8) (v := ?_) rfl (by kernel_rfl) (by kernel_rfl) (by kernel_rfl) (fun _ _ _ h => h) (Or.inl ⟨by rfl, ?_⟩) hHeld ?_
  rotate_left
  · intro W hS
    try dsimp only at hS
    go_simp
    try with_reducible rfl
  try simp only [List.getElem_toArray, List.getElem_cons_succ, List.getElem_cons_zero, Act.put, List.setIfInBounds_toArray, List.set_cons_zero, List.set_cons_succ]
  refine wpAnyH_done (by kernel_rfl) ?_ _
  clear hlk
  obtain ⟨HB, hp, K0, K1, K2, _⟩ := hHeld
  have HP := Lib.hid hp
  have c0 := K0.c
  have c1 := K1.c
  have c2 := K2.c
  have f0 := K0.f
  have z0 := K0.lt
  have z1 := K1.lt
  have z2 := K2.lt
  clear hp
  have HRQ := Lib.hid (show rq xs = (⟨3, (id : Nat), 0, 0, (rdV topI (rdL topI (rdL topI xs)) : Nat), (rdV topI (rdL topI (rdL topI (rdL topI xs))) : Nat)⟩, ⟨(rdL topI (rdL topI (rdL topI (rdL topI xs)))), (rdB topI (rdL topI (rdL topI (rdL topI xs))) (rdB topI (rdL topI (rdL topI xs)) (rdB topI (rdL topI xs) (rdB topI xs false))))⟩) by rw [rq_3 (by simp [Cur.i, HK.out])]; simp [Cur.i, Cur.ni, Cur.two, HK.out, HID.out])
  go_wp2_with fail
  refine (rquery_any (g := g) (h := w2.heap.size) _ HP.out HL2.out K2 hne).mono ?_
  rintro e w6 ⟨rfl, hp6, K6, hT⟩
  have HB := hT.below HB (by omega) (by omega) (by omega)
  have K0 := K0.two hT (by omega) (by omega)
  have K1 := K1.two hT (by omega) (by omega)
  have HP6 := Lib.hid hp6
  have c0 := K0.c
  have f0 := K0.f
  have z0 := K0.lt
  have c1 := K1.c
  have f1 := K1.f
  have z1 := K1.lt
  have c2 := K6.c
  have f2 := K6.f
  have z2 := K6.lt
  obtain ⟨v2, hv2⟩ : ∃ v2, v2 = rdV topI (rdL topI (rdL topI xs)) := ⟨_, rfl⟩
  rw [← hv2] at c2 HRQ K6
  have HV2 := Lib.hid hv2
  clear hv2
  obtain ⟨v3, hv3⟩ : ∃ v3, v3 = rdV topI (rdL topI (rdL topI (rdL topI xs))) := ⟨_, rfl⟩
  rw [← hv3] at c2 HRQ K6
  have HV3 := Lib.hid hv3
  clear hv3
  obtain ⟨en, hen⟩ : ∃ en, en = (!(rdB topI (rdL topI (rdL topI (rdL topI xs))) (rdB topI (rdL topI (rdL topI xs)) (rdB topI (rdL topI xs) (rdB topI xs false)))) && (rdL topI (rdL topI (rdL topI (rdL topI xs)))).isEmpty) := ⟨_, rfl⟩
  have HE := Lib.hid hen
  clear hen hp6 hT K1 K2
  go_wp2_with fail
  refine (cend_any _ HP6.out).mono ?_
  rw [← HE.out]
  rintro e w7 ⟨rfl, rfl⟩
  cases en
  · go_wp2_with fail
    exact bodyPost_ret (v := .tuple #[.agg #[.int .i64 0, .int .i64 0, .int .i64 0, .int .i64 0, .int .i64 0, .int .i64 0], .int .i64 4]) (by simp [results, Try.results40, go_sem, c0, f0, z0]) rfl ⟨by rw [readReq_end (by have := HN.out; omega) (by rw [HRQ.out]; exact HE.out.symm)]; rfl, (((((HB.setCell (Nat.le_refl _) _).setCell (Nat.le_refl _) _).setCell (Nat.le_refl _) _).setCell (Nat.le_refl _) _).setCell (Nat.le_refl _) _).setCell (Nat.le_refl _) _⟩
  · go_wp2_with fail
    refine (may_any ⟨3, (id : Nat), 0, 0, (v2 : Nat), (v3 : Nat)⟩ _).mono ?_
    cases hm : Req.may ⟨3, (id : Nat), 0, 0, (v2 : Nat), (v3 : Nat)⟩
    · rintro e w8 ⟨rfl, hb⟩
      have HM := Lib.hid hm
      have K0 := K0.on hb
      have HB := below_after HB hb HB.size
      have c0 := K0.c
      have f0 := K0.f
      have z0 := K0.lt
      clear hm
      go_wp2_with fail
      exact bodyPost_ret (v := .tuple #[.agg #[.int .i64 0, .int .i64 0, .int .i64 0, .int .i64 0, .int .i64 0, .int .i64 0], .int .i64 4]) (by simp [results, Try.results40, go_sem, c0, f0, z0]) rfl ⟨by rw [readReq_may (by have := HN.out; omega) (by rw [HRQ.out]; exact HM.out)]; rfl, (((((HB.setCell (Nat.le_refl _) _).setCell (Nat.le_refl _) _).setCell (Nat.le_refl _) _).setCell (Nat.le_refl _) _).setCell (Nat.le_refl _) _).setCell (Nat.le_refl _) _⟩
    · rintro e w8 ⟨rfl, hb⟩
      have HM := Lib.hid hm
      have K6 := K6.on hb
      have c2 := K6.c
      have f2 := K6.f
      have z2 := K6.lt
      have K0 := K0.on hb
      have HB := below_after HB hb HB.size
      have c0 := K0.c
      have f0 := K0.f
      have z0 := K0.lt
      clear hm
      go_wp2_with fail
      exact bodyPost_ret (v := .tuple #[.agg #[.int .i64 3, .int .i64 (id : Nat), .int .i64 0, .int .i64 0, .int .i64 (v2 : Nat), .int .i64 (v3 : Nat)], .int .i64 0]) (by simp [results, Try.results40, go_sem, c0, f0, z0]) rfl ⟨by rw [readReq_yes (by have := HN.out; omega) (by rw [HRQ.out]; exact HE.out.symm) (by rw [HRQ.out]; exact HM.out), HRQ.out]; rfl, (((((HB.setCell (Nat.le_refl _) _).setCell (Nat.le_refl _) _).setCell (Nat.le_refl _) _).setCell (Nat.le_refl _) _).setCell (Nat.le_refl _) _).setCell (Nat.le_refl _) _⟩

set_option maxRecDepth 100000 in
set_option maxHeartbeats 2000000 in
theorem readreq_4 {A : Option Addr} {n c : Nat} {xs : List Nat} (w : World) (hx : Reads w w.heap.size 1 A n (u8s xs)) (hxs : ∀ x ∈ xs, x < 256) (h : ¬ 64 < n) (hk : rdV topI xs = 4) :
    Calls Try.prog 40 #[.slice A n c] w fun e w' => e = .returned (.tuple #[(readReq xs).1.V, .int .i64 (readReq xs).2]) ∧ Below w.heap.size w w' := by
  have HX := Lib.hid hxs
  have hl : xs.length = n := by simpa using hx.1
  have HN := Lib.hid hl
  have HK := Lib.hid hk
  clear hl hxs hk
  go_enter Try.func40, Try.ntmps40
  go_wp2_with fail
  refine (read_any (B := w.heap.size) _ (hx.alloc (Nat.le_refl _) _) (by simp) (by omega)).mono ?_
  rintro e w1 ⟨g, rfl, hg, hp, hb⟩
  have K0 := Blk.on (g := w.heap.size) (t := 50) (cs := #[.int .i64 0, .int .i64 0, .int .i64 0, .int .i64 0, .int .i64 0, .int .i64 0]) (Blk.at_ _ _ _ (by simp)) hb
  have HB := below_after ((Below.refl w.heap.size w).alloc (Nat.le_refl _) _) hb (by simp)
  have hg1 : w.heap.size < g := by have := hg; simp at this; omega
  have hgl := hp.lt
  have HP := Lib.hid (hp.alloc (.cells #[.pointer (some ⟨g, 0, none⟩), .func (Fn.func 28) #[.pointer (some ⟨g, 0, none⟩)] #[]] 103))
  clear hb hg hp
  unfold rdr
  go_wp2_with fail
  refine (cint_any _ HP.out HX.out).mono ?_
  rw [HK.out]
  rintro e w2 ⟨rfl, hp, hg2⟩
  have K0 := (K0.alloc (.cells #[.pointer (some ⟨g, 0, none⟩), .func (Fn.func 28) #[.pointer (some ⟨g, 0, none⟩)] #[]] 103)).grown hg2 (by simp; omega)
  have K1 := (Blk.new w1 103 #[.pointer (some ⟨g, 0, none⟩), .func (Fn.func 28) #[.pointer (some ⟨g, 0, none⟩)] #[]]).grown hg2 (by simp; omega)
  have HB := below_cur (HB.alloc HB.size (.cells #[.pointer (some ⟨g, 0, none⟩), .func (Fn.func 28) #[.pointer (some ⟨g, 0, none⟩)] #[]] 103)) hg2 (by have := HB.size; simp; omega) (by omega)
  have hz1 : w.heap.size < w1.heap.size := by omega
  have hgl2 := hp.lt
  have HP2 := Lib.hid (hp.alloc (.cells #[.int .i64 4, .int .i64 0, .int .i64 0, .int .i64 0, .int .i64 0, .int .i64 0] 50))
  have c0 := K0.c
  have c1 := K1.c
  have z0 := K0.lt
  have z1 := K1.lt
  have HL1 := Lib.hid (rdL_byte (top := topI) HX.out)
  clear hg2 hp
  go_wp2_with fail
  refine (cint_any _ HP2.out HL1.out).mono ?_
  rintro e w3 ⟨rfl, hp, hg3⟩
  obtain ⟨id, hid⟩ : ∃ id, id = rdV topI (rdL topI xs) := ⟨_, rfl⟩
  rw [← hid]
  have HID := Lib.hid hid
  clear hid
  have K2 := (Blk.new w2 50 #[.int .i64 4, .int .i64 0, .int .i64 0, .int .i64 0, .int .i64 0, .int .i64 0]).grown hg3 (by simp; omega)
  have K0 := (K0.alloc (.cells #[.int .i64 4, .int .i64 0, .int .i64 0, .int .i64 0, .int .i64 0, .int .i64 0] 50)).grown hg3 (by simp; omega)
  have K1 := (K1.alloc (.cells #[.int .i64 4, .int .i64 0, .int .i64 0, .int .i64 0, .int .i64 0, .int .i64 0] 50)).grown hg3 (by simp; omega)
  have HB := below_cur (HB.alloc HB.size (.cells #[.int .i64 4, .int .i64 0, .int .i64 0, .int .i64 0, .int .i64 0, .int .i64 0] 50)) hg3 (by have := HB.size; simp; omega) (by omega)
  have hne : g ≠ w2.heap.size := by omega
  have hz2 : w1.heap.size < w2.heap.size := by omega
  have hp' := hp.apart K2 (NoU8.of (by simp)) (grown_set (i := 1) (grown_self w3 (some w2.heap.size)) (.int .i64 (id : Nat))) hne
  have K2' : Blk (w3.setCell ⟨w2.heap.size, 1, none⟩ (.int .i64 (id : Nat))) w2.heap.size 50 #[.int .i64 4, .int .i64 (id : Nat), .int .i64 0, .int .i64 0, .int .i64 0, .int .i64 0] := by have := K2.set_ 1 (.int .i64 (id : Nat)); simpa using this
  have K0' := K0.far (p := ⟨w2.heap.size, 1, none⟩) (by simp; omega) (.int .i64 (id : Nat))
  have K1' := K1.far (p := ⟨w2.heap.size, 1, none⟩) (by simp; omega) (.int .i64 (id : Nat))
  have HB' := HB.setCell (p := ⟨w2.heap.size, 1, none⟩) (by show _ ≤ w2.heap.size; omega) (.int .i64 (id : Nat))
  have HS := Lib.hid (And.intro HB' (And.intro hp' (And.intro K0' (And.intro K1' K2'))))
  have HL2 := Lib.hid (rdL_byte (top := topI) HL1.out)
  have c0 := K0.c
  have c1 := K1.c
  have c2 := K2.c
  have f2 := K2.f
  have z2 := K2.lt
  clear hg3 hp hp' HB' K0' K1' K2' K0 K1 K2
  go_wp2_with fail
  clear c0 c1 c2 f2
  refine wp_region_held_drew (S := (fun W => Below w.heap.size w W ∧ PC W g (rdL topI (rdL topI xs)) (rdB topI (rdL topI xs) (rdB topI xs false)) ∧ Blk W w.heap.size 50 #[.int .i64 0, .int .i64 0, .int .i64 0, .int .i64 0, .int .i64 0, .int .i64 0] ∧ Blk W w1.heap.size 103 #[.pointer (some ⟨g, 0, none⟩), .func (Fn.func 28) #[.pointer (some ⟨g, 0, none⟩)] #[]] ∧ Blk W w2.heap.size 50 #[.int .i64 4, .int .i64 (id : Nat), .int .i64 0, .int .i64 0, .int .i64 0, .int .i64 0] ∧ (∀ i, W.cell? ⟨w2.heap.size, i, none⟩ = #[.int .i64 4, .int .i64 (id : Nat), .int .i64 0, .int .i64 0, .int .i64 0, .int .i64 0][i]?))) (by kernel_rfl) (⟨HS.out.1.drew, HS.out.2.1, HS.out.2.2.1, HS.out.2.2.2.1, HS.out.2.2.2.2, HS.out.2.2.2.2.c⟩) (fun hHeld => ?_)
  refine wpAnyH_take (i := 1) (v := ?_) rfl (by kernel_rfl) (by kernel_rfl) (by kernel_rfl) (fun _ _ _ h => h) (Or.inl ⟨by rfl, ?_⟩) hHeld ?_
  rotate_left
  · intro W hS
    try dsimp only at hS
    go_simp
    try with_reducible rfl
  try simp only [List.getElem_toArray, List.getElem_cons_succ, List.getElem_cons_zero, Act.put, List.setIfInBounds_toArray, List.set_cons_zero, List.set_cons_succ]
  refine wpAnyH_take (i := 2) (v := ?_) rfl (by kernel_rfl) (by kernel_rfl) (by kernel_rfl) (fun _ _ _ h => h) (Or.inl ⟨by rfl, ?_⟩) hHeld ?_
  rotate_left
  · intro W hS
    try dsimp only at hS
    go_simp
    try with_reducible rfl
  try simp only [List.getElem_toArray, List.getElem_cons_succ, List.getElem_cons_zero, Act.put, List.setIfInBounds_toArray, List.set_cons_zero, List.set_cons_succ]
  refine wpAnyH_ready (rs := [0]) (by kernel_rfl) (by simp) ?_
  refine AllReadyH.cons rfl (fun K hK => ?_) AllReadyH.nil
  go_simp
  refine (readers_any _).mono ?_
  rintro e w5 ⟨rfl, rfl⟩
  refine hK.out _ _ (⟨hHeld.1.alloc hHeld.1.size _, hHeld.2.1.alloc _, hHeld.2.2.1.alloc _, hHeld.2.2.2.1.alloc _, hHeld.2.2.2.2.1.alloc _, (hHeld.2.2.2.2.1.alloc _).c⟩) (fun hHeld => ?_)
  clear hK K
  try simp only [List.getElem_toArray, List.getElem_cons_succ, List.getElem_cons_zero, Act.put, List.setIfInBounds_toArray, List.set_cons_zero, List.set_cons_succ]
  refine wpAnyH_ready (rs := [3]) (by kernel_rfl) (by simp) ?_
  refine AllReadyH.cons rfl (fun K hK => ?_) AllReadyH.nil
  have hlk := run_look (P := Try.prog) (w := ((w3.setCell ⟨w2.heap.size, 1, none⟩ (.int .i64 (id : Nat))).alloc (.map rdsEntries 4)).drew) (g := w3.heap.size) (x := 4) Try.underlying107 Try.underlying3 (map_at (w3.setCell ⟨w2.heap.size, 1, none⟩ (.int .i64 (id : Nat))) (by simp) _) (by rfl)
  go_simp
  refine hK.out _ _ (hHeld) (fun hHeld => ?_)
  clear hK K
  try simp only [List.getElem_toArray, List.getElem_cons_succ, List.getElem_cons_zero, Act.put, List.setIfInBounds_toArray, List.set_cons_zero, List.set_cons_succ]
  refine wpAnyH_take (i := 4) (v := ?_) rfl (by kernel_rfl) (by kernel_rfl) (by kernel_rfl) (fun _ _ _ h => h) (Or.inl ⟨by rfl, ?_⟩) hHeld ?_
  rotate_left
  · intro W hS
    try dsimp only at hS
    go_simp
    try with_reducible rfl
  try simp only [List.getElem_toArray, List.getElem_cons_succ, List.getElem_cons_zero, Act.put, List.setIfInBounds_toArray, List.set_cons_zero, List.set_cons_succ]
  refine wpAnyH_take (i := 5) (v := ?_) rfl (by kernel_rfl) (by kernel_rfl) (by kernel_rfl) (fun _ _ _ h => h) (Or.inl ⟨by rfl, ?_⟩) hHeld ?_
  rotate_left
  · intro W hS
    try dsimp only at hS
    go_simp
    try with_reducible rfl
  try simp only [List.getElem_toArray, List.getElem_cons_succ, List.getElem_cons_zero, Act.put, List.setIfInBounds_toArray, List.set_cons_zero, List.set_cons_succ]
  refine wpAnyH_take (i := 6) (v := ?_) rfl (by kernel_rfl) (by kernel_rfl) (by kernel_rfl) (fun _ _ _ h => h) (Or.inl ⟨by rfl, ?_⟩) hHeld ?_
  rotate_left
  · intro W hS
    try dsimp only at hS
    go_simp
    try with_reducible rfl
  try simp only [List.getElem_toArray, List.getElem_cons_succ, List.getElem_cons_zero, Act.put, List.setIfInBounds_toArray, List.set_cons_zero, List.set_cons_succ]
  refine wpAnyH_take (i := 7) (v := ?_) rfl (by kernel_rfl) (by kernel_rfl) (by kernel_rfl) (fun _ _ _ h => h) (Or.inl ⟨by rfl, ?_⟩) hHeld ?_
  rotate_left
  · intro W hS
    try dsimp only at hS
    go_simp
    try with_reducible rfl
  try simp only [List.getElem_toArray, List.getElem_cons_succ, List.getElem_cons_zero, Act.put, List.setIfInBounds_toArray, List.set_cons_zero, List.set_cons_succ]
  refine wpAnyH_take (i := 8) (v := ?_) rfl (by kernel_rfl) (by kernel_rfl) (by kernel_rfl) (fun _ _ _ h => h) (Or.inl ⟨by rfl, ?_⟩) hHeld ?_
  rotate_left
  · intro W hS
    try dsimp only at hS
    go_simp
    try with_reducible rfl
  try simp only [List.getElem_toArray, List.getElem_cons_succ, List.getElem_cons_zero, Act.put, List.setIfInBounds_toArray, List.set_cons_zero, List.set_cons_succ]
  refine wpAnyH_done (by kernel_rfl) ?_ _
  clear hlk
  obtain ⟨HB, hp, K0, K1, K2, _⟩ := hHeld
  have HP := Lib.hid hp
  have c0 := K0.c
  have c1 := K1.c
  have c2 := K2.c
  have f0 := K0.f
  have z0 := K0.lt
  have z1 := K1.lt
  have z2 := K2.lt
  clear hp
  have HRQ := Lib.hid (show rq xs = (⟨4, (id : Nat), 0, 0, 0, (rdV topI (rdL topI (rdL topI xs)) : Nat)⟩, ⟨(rdL topI (rdL topI (rdL topI xs))), (rdB topI (rdL topI (rdL topI xs)) (rdB topI (rdL topI xs) (rdB topI xs false)))⟩) by rw [rq_4 (by simp [Cur.i, HK.out])]; simp [Cur.i, Cur.ni, Cur.two, HK.out, HID.out])
  go_wp2_with fail
  refine (cancel_any (g := g) (h := w2.heap.size) _ HP.out HL2.out K2 hne).mono ?_
  rintro e w6 ⟨rfl, hp6, K6, hT⟩
  have HB := hT.below HB (by omega) (by omega) (by omega)
  have K0 := K0.two hT (by omega) (by omega)
  have K1 := K1.two hT (by omega) (by omega)
  have HP6 := Lib.hid hp6
  have c0 := K0.c
  have f0 := K0.f
  have z0 := K0.lt
  have c1 := K1.c
  have f1 := K1.f
  have z1 := K1.lt
  have c2 := K6.c
  have f2 := K6.f
  have z2 := K6.lt
  obtain ⟨v3, hv3⟩ : ∃ v3, v3 = rdV topI (rdL topI (rdL topI xs)) := ⟨_, rfl⟩
  rw [← hv3] at c2 HRQ K6
  have HV3 := Lib.hid hv3
  clear hv3
  obtain ⟨en, hen⟩ : ∃ en, en = (!(rdB topI (rdL topI (rdL topI xs)) (rdB topI (rdL topI xs) (rdB topI xs false))) && (rdL topI (rdL topI (rdL topI xs))).isEmpty) := ⟨_, rfl⟩
  have HE := Lib.hid hen
  clear hen hp6 hT K1 K2
  go_wp2_with fail
  refine (cend_any _ HP6.out).mono ?_
  rw [← HE.out]
  rintro e w7 ⟨rfl, rfl⟩
  cases en
  · go_wp2_with fail
    exact bodyPost_ret (v := .tuple #[.agg #[.int .i64 0, .int .i64 0, .int .i64 0, .int .i64 0, .int .i64 0, .int .i64 0], .int .i64 4]) (by simp [results, Try.results40, go_sem, c0, f0, z0]) rfl ⟨by rw [readReq_end (by have := HN.out; omega) (by rw [HRQ.out]; exact HE.out.symm)]; rfl, (((((HB.setCell (Nat.le_refl _) _).setCell (Nat.le_refl _) _).setCell (Nat.le_refl _) _).setCell (Nat.le_refl _) _).setCell (Nat.le_refl _) _).setCell (Nat.le_refl _) _⟩
  · go_wp2_with fail
    refine (may_any ⟨4, (id : Nat), 0, 0, 0, (v3 : Nat)⟩ _).mono ?_
    cases hm : Req.may ⟨4, (id : Nat), 0, 0, 0, (v3 : Nat)⟩
    · rintro e w8 ⟨rfl, hb⟩
      have HM := Lib.hid hm
      have K0 := K0.on hb
      have HB := below_after HB hb HB.size
      have c0 := K0.c
      have f0 := K0.f
      have z0 := K0.lt
      clear hm
      go_wp2_with fail
      exact bodyPost_ret (v := .tuple #[.agg #[.int .i64 0, .int .i64 0, .int .i64 0, .int .i64 0, .int .i64 0, .int .i64 0], .int .i64 4]) (by simp [results, Try.results40, go_sem, c0, f0, z0]) rfl ⟨by rw [readReq_may (by have := HN.out; omega) (by rw [HRQ.out]; exact HM.out)]; rfl, (((((HB.setCell (Nat.le_refl _) _).setCell (Nat.le_refl _) _).setCell (Nat.le_refl _) _).setCell (Nat.le_refl _) _).setCell (Nat.le_refl _) _).setCell (Nat.le_refl _) _⟩
    · rintro e w8 ⟨rfl, hb⟩
      have HM := Lib.hid hm
      have K6 := K6.on hb
      have c2 := K6.c
      have f2 := K6.f
      have z2 := K6.lt
      have K0 := K0.on hb
      have HB := below_after HB hb HB.size
      have c0 := K0.c
      have f0 := K0.f
      have z0 := K0.lt
      clear hm
      go_wp2_with fail
      exact bodyPost_ret (v := .tuple #[.agg #[.int .i64 4, .int .i64 (id : Nat), .int .i64 0, .int .i64 0, .int .i64 0, .int .i64 (v3 : Nat)], .int .i64 0]) (by simp [results, Try.results40, go_sem, c0, f0, z0]) rfl ⟨by rw [readReq_yes (by have := HN.out; omega) (by rw [HRQ.out]; exact HE.out.symm) (by rw [HRQ.out]; exact HM.out), HRQ.out]; rfl, (((((HB.setCell (Nat.le_refl _) _).setCell (Nat.le_refl _) _).setCell (Nat.le_refl _) _).setCell (Nat.le_refl _) _).setCell (Nat.le_refl _) _).setCell (Nat.le_refl _) _⟩

set_option maxRecDepth 100000 in
set_option maxHeartbeats 2000000 in
theorem readreq_none {A : Option Addr} {n c : Nat} {xs : List Nat} (w : World) (hx : Reads w w.heap.size 1 A n (u8s xs)) (hxs : ∀ x ∈ xs, x < 256) (h : ¬ 64 < n) (h1 : rdV topI xs ≠ 1) (h2 : rdV topI xs ≠ 2) (h3 : rdV topI xs ≠ 3) (h4 : rdV topI xs ≠ 4) :
    Calls Try.prog 40 #[.slice A n c] w fun e w' => e = .returned (.tuple #[(readReq xs).1.V, .int .i64 (readReq xs).2]) ∧ Below w.heap.size w w' := by
  have HX := Lib.hid hxs
  have hl : xs.length = n := by simpa using hx.1
  have HN := Lib.hid hl
  have HK := Lib.hid (And.intro h1 (And.intro h2 (And.intro h3 h4)))
  clear hl hxs h1 h2 h3 h4
  go_enter Try.func40, Try.ntmps40
  go_wp2_with fail
  refine (read_any (B := w.heap.size) _ (hx.alloc (Nat.le_refl _) _) (by simp) (by omega)).mono ?_
  rintro e w1 ⟨g, rfl, hg, hp, hb⟩
  have K0 := Blk.on (g := w.heap.size) (t := 50) (cs := #[.int .i64 0, .int .i64 0, .int .i64 0, .int .i64 0, .int .i64 0, .int .i64 0]) (Blk.at_ _ _ _ (by simp)) hb
  have HB := below_after ((Below.refl w.heap.size w).alloc (Nat.le_refl _) _) hb (by simp)
  have hg1 : w.heap.size < g := by have := hg; simp at this; omega
  have hgl := hp.lt
  have HP := Lib.hid (hp.alloc (.cells #[.pointer (some ⟨g, 0, none⟩), .func (Fn.func 28) #[.pointer (some ⟨g, 0, none⟩)] #[]] 103))
  clear hb hg hp
  unfold rdr
  go_wp2_with fail
  refine (cint_any _ HP.out HX.out).mono ?_
  rintro e w2 ⟨rfl, hp, hg2⟩
  have K0 := (K0.alloc (.cells #[.pointer (some ⟨g, 0, none⟩), .func (Fn.func 28) #[.pointer (some ⟨g, 0, none⟩)] #[]] 103)).grown hg2 (by simp; omega)
  have K1 := (Blk.new w1 103 #[.pointer (some ⟨g, 0, none⟩), .func (Fn.func 28) #[.pointer (some ⟨g, 0, none⟩)] #[]]).grown hg2 (by simp; omega)
  have HB := below_cur (HB.alloc HB.size (.cells #[.pointer (some ⟨g, 0, none⟩), .func (Fn.func 28) #[.pointer (some ⟨g, 0, none⟩)] #[]] 103)) hg2 (by have := HB.size; simp; omega) (by omega)
  have hz1 : w.heap.size < w1.heap.size := by omega
  have hgl2 := hp.lt
  obtain ⟨kk, hkk⟩ : ∃ kk, kk = rdV topI xs := ⟨_, rfl⟩
  rw [← hkk]
  have HKK := Lib.hid hkk
  clear hkk
  have HP2 := Lib.hid (hp.alloc (.cells #[.int .i64 (kk : Nat), .int .i64 0, .int .i64 0, .int .i64 0, .int .i64 0, .int .i64 0] 50))
  have c0 := K0.c
  have c1 := K1.c
  have z0 := K0.lt
  have z1 := K1.lt
  have HL1 := Lib.hid (rdL_byte (top := topI) HX.out)
  clear hg2 hp
  go_wp2_with fail
  refine (cint_any _ HP2.out HL1.out).mono ?_
  rintro e w3 ⟨rfl, hp, hg3⟩
  obtain ⟨id, hid⟩ : ∃ id, id = rdV topI (rdL topI xs) := ⟨_, rfl⟩
  rw [← hid]
  have HID := Lib.hid hid
  clear hid
  have K2 := (Blk.new w2 50 #[.int .i64 (kk : Nat), .int .i64 0, .int .i64 0, .int .i64 0, .int .i64 0, .int .i64 0]).grown hg3 (by simp; omega)
  have K0 := (K0.alloc (.cells #[.int .i64 (kk : Nat), .int .i64 0, .int .i64 0, .int .i64 0, .int .i64 0, .int .i64 0] 50)).grown hg3 (by simp; omega)
  have K1 := (K1.alloc (.cells #[.int .i64 (kk : Nat), .int .i64 0, .int .i64 0, .int .i64 0, .int .i64 0, .int .i64 0] 50)).grown hg3 (by simp; omega)
  have HB := below_cur (HB.alloc HB.size (.cells #[.int .i64 (kk : Nat), .int .i64 0, .int .i64 0, .int .i64 0, .int .i64 0, .int .i64 0] 50)) hg3 (by have := HB.size; simp; omega) (by omega)
  have hne : g ≠ w2.heap.size := by omega
  have hz2 : w1.heap.size < w2.heap.size := by omega
  have hp' := hp.apart K2 (NoU8.of (by simp)) (grown_set (i := 1) (grown_self w3 (some w2.heap.size)) (.int .i64 (id : Nat))) hne
  have K2' : Blk (w3.setCell ⟨w2.heap.size, 1, none⟩ (.int .i64 (id : Nat))) w2.heap.size 50 #[.int .i64 (kk : Nat), .int .i64 (id : Nat), .int .i64 0, .int .i64 0, .int .i64 0, .int .i64 0] := by have := K2.set_ 1 (.int .i64 (id : Nat)); simpa using this
  have K0' := K0.far (p := ⟨w2.heap.size, 1, none⟩) (by simp; omega) (.int .i64 (id : Nat))
  have K1' := K1.far (p := ⟨w2.heap.size, 1, none⟩) (by simp; omega) (.int .i64 (id : Nat))
  have HB' := HB.setCell (p := ⟨w2.heap.size, 1, none⟩) (by show _ ≤ w2.heap.size; omega) (.int .i64 (id : Nat))
  have HS := Lib.hid (And.intro HB' (And.intro hp' (And.intro K0' (And.intro K1' K2'))))
  have HL2 := Lib.hid (rdL_byte (top := topI) HL1.out)
  have c0 := K0.c
  have c1 := K1.c
  have c2 := K2.c
  have f2 := K2.f
  have z2 := K2.lt
  clear hg3 hp hp' HB' K0' K1' K2' K0 K1 K2
  go_wp2_with fail
  clear c0 c1 c2 f2
  refine wp_region_held_drew (S := (fun W => Below w.heap.size w W ∧ PC W g (rdL topI (rdL topI xs)) (rdB topI (rdL topI xs) (rdB topI xs false)) ∧ Blk W w.heap.size 50 #[.int .i64 0, .int .i64 0, .int .i64 0, .int .i64 0, .int .i64 0, .int .i64 0] ∧ Blk W w1.heap.size 103 #[.pointer (some ⟨g, 0, none⟩), .func (Fn.func 28) #[.pointer (some ⟨g, 0, none⟩)] #[]] ∧ Blk W w2.heap.size 50 #[.int .i64 (kk : Nat), .int .i64 (id : Nat), .int .i64 0, .int .i64 0, .int .i64 0, .int .i64 0] ∧ (∀ i, W.cell? ⟨w2.heap.size, i, none⟩ = #[.int .i64 (kk : Nat), .int .i64 (id : Nat), .int .i64 0, .int .i64 0, .int .i64 0, .int .i64 0][i]?))) (by kernel_rfl) (⟨HS.out.1.drew, HS.out.2.1, HS.out.2.2.1, HS.out.2.2.2.1, HS.out.2.2.2.2, HS.out.2.2.2.2.c⟩) (fun hHeld => ?_)
  refine wpAnyH_take (i := 1) (v := ?_) rfl (by kernel_rfl) (by kernel_rfl) (by kernel_rfl) (fun _ _ _ h => h) (Or.inl ⟨by rfl, ?_⟩) hHeld ?_
  rotate_left
  · intro W hS
    try dsimp only at hS
    go_simp
    try with_reducible rfl
  try simp only [List.getElem_toArray, List.getElem_cons_succ, List.getElem_cons_zero, Act.put, List.setIfInBounds_toArray, List.set_cons_zero, List.set_cons_succ]
  refine wpAnyH_take (i := 2) (v := ?_) rfl (by kernel_rfl) (by kernel_rfl) (by kernel_rfl) (fun _ _ _ h => h) (Or.inl ⟨by rfl, ?_⟩) hHeld ?_
  rotate_left
  · intro W hS
    try dsimp only at hS
    go_simp
    try with_reducible rfl
  try simp only [List.getElem_toArray, List.getElem_cons_succ, List.getElem_cons_zero, Act.put, List.setIfInBounds_toArray, List.set_cons_zero, List.set_cons_succ]
  refine wpAnyH_ready (rs := [0]) (by kernel_rfl) (by simp) ?_
  refine AllReadyH.cons rfl (fun K hK => ?_) AllReadyH.nil
  go_simp
  refine (readers_any _).mono ?_
  rintro e w5 ⟨rfl, rfl⟩
  refine hK.out _ _ (⟨hHeld.1.alloc hHeld.1.size _, hHeld.2.1.alloc _, hHeld.2.2.1.alloc _, hHeld.2.2.2.1.alloc _, hHeld.2.2.2.2.1.alloc _, (hHeld.2.2.2.2.1.alloc _).c⟩) (fun hHeld => ?_)
  clear hK K
  try simp only [List.getElem_toArray, List.getElem_cons_succ, List.getElem_cons_zero, Act.put, List.setIfInBounds_toArray, List.set_cons_zero, List.set_cons_succ]
  refine wpAnyH_ready (rs := [3]) (by kernel_rfl) (by simp) ?_
  refine AllReadyH.cons rfl (fun K hK => ?_) AllReadyH.nil
  have hlk := run_look_none (P := Try.prog) (w := ((w3.setCell ⟨w2.heap.size, 1, none⟩ (.int .i64 (id : Nat))).alloc (.map rdsEntries 4)).drew) (g := w3.heap.size) (x := (kk : Nat)) (z := .nilFunc) Try.underlying107 Try.underlying3 (by kernel_rfl) (map_at (w3.setCell ⟨w2.heap.size, 1, none⟩ (.int .i64 (id : Nat))) (by simp) _) (by exact look_none (by rw [HKK.out]; exact HK.out))
  go_simp
  refine hK.out _ _ (hHeld) (fun hHeld => ?_)
  clear hK K
  try simp only [List.getElem_toArray, List.getElem_cons_succ, List.getElem_cons_zero, Act.put, List.setIfInBounds_toArray, List.set_cons_zero, List.set_cons_succ]
  refine wpAnyH_take (i := 4) (v := ?_) rfl (by kernel_rfl) (by kernel_rfl) (by kernel_rfl) (fun _ _ _ h => h) (Or.inl ⟨by rfl, ?_⟩) hHeld ?_
  rotate_left
  · intro W hS
    try dsimp only at hS
    go_simp
    try with_reducible rfl
  try simp only [List.getElem_toArray, List.getElem_cons_succ, List.getElem_cons_zero, Act.put, List.setIfInBounds_toArray, List.set_cons_zero, List.set_cons_succ]
  refine wpAnyH_take (i := 5) (v := ?_) rfl (by kernel_rfl) (by kernel_rfl) (by kernel_rfl) (fun _ _ _ h => h) (Or.inl ⟨by rfl, ?_⟩) hHeld ?_
  rotate_left
  · intro W hS
    try dsimp only at hS
    go_simp
    try with_reducible rfl
  try simp only [List.getElem_toArray, List.getElem_cons_succ, List.getElem_cons_zero, Act.put, List.setIfInBounds_toArray, List.set_cons_zero, List.set_cons_succ]
  refine wpAnyH_take (i := 6) (v := ?_) rfl (by kernel_rfl) (by kernel_rfl) (by kernel_rfl) (fun _ _ _ h => h) (Or.inl ⟨by rfl, ?_⟩) hHeld ?_
  rotate_left
  · intro W hS
    try dsimp only at hS
    go_simp
    try with_reducible rfl
  try simp only [List.getElem_toArray, List.getElem_cons_succ, List.getElem_cons_zero, Act.put, List.setIfInBounds_toArray, List.set_cons_zero, List.set_cons_succ]
  refine wpAnyH_take (i := 7) (v := ?_) rfl (by kernel_rfl) (by kernel_rfl) (by kernel_rfl) (fun _ _ _ h => h) (Or.inl ⟨by rfl, ?_⟩) hHeld ?_
  rotate_left
  · intro W hS
    try dsimp only at hS
    go_simp
    try with_reducible rfl
  try simp only [List.getElem_toArray, List.getElem_cons_succ, List.getElem_cons_zero, Act.put, List.setIfInBounds_toArray, List.set_cons_zero, List.set_cons_succ]
  refine wpAnyH_take (i := 8) (v := ?_) rfl (by kernel_rfl) (by kernel_rfl) (by kernel_rfl) (fun _ _ _ h => h) (Or.inl ⟨by rfl, ?_⟩) hHeld ?_
  rotate_left
  · intro W hS
    try dsimp only at hS
    go_simp
    try with_reducible rfl
  try simp only [List.getElem_toArray, List.getElem_cons_succ, List.getElem_cons_zero, Act.put, List.setIfInBounds_toArray, List.set_cons_zero, List.set_cons_succ]
  refine wpAnyH_done (by kernel_rfl) ?_ _
  clear hlk
  have hHeld : (fun W => Below w.heap.size w W ∧ PC W g (rdL topI (rdL topI xs)) (rdB topI (rdL topI xs) (rdB topI xs false)) ∧ Blk W w.heap.size 50 #[.int .i64 0, .int .i64 0, .int .i64 0, .int .i64 0, .int .i64 0, .int .i64 0] ∧ Blk W w1.heap.size 103 #[.pointer (some ⟨g, 0, none⟩), .func (Fn.func 28) #[.pointer (some ⟨g, 0, none⟩)] #[]] ∧ Blk W w2.heap.size 50 #[.int .i64 (kk : Nat), .int .i64 (id : Nat), .int .i64 0, .int .i64 0, .int .i64 0, .int .i64 0] ∧ (∀ i, W.cell? ⟨w2.heap.size, i, none⟩ = #[.int .i64 (kk : Nat), .int .i64 (id : Nat), .int .i64 0, .int .i64 0, .int .i64 0, .int .i64 0][i]?)) (((w3.setCell ⟨w2.heap.size, 1, none⟩ (.int .i64 (id : Nat))).alloc (.map rdsEntries 4)).drew) := hHeld
  obtain ⟨W5, hW5⟩ : ∃ W5 : World, W5 = ((w3.setCell ⟨w2.heap.size, 1, none⟩ (.int .i64 (id : Nat))).alloc (.map rdsEntries 4)).drew := ⟨_, rfl⟩
  rw [← hW5] at hHeld ⊢
  clear hW5
  obtain ⟨HB, hp, K0, K1, K2, _⟩ := hHeld
  have HP := Lib.hid hp
  have c0 := K0.c
  have c1 := K1.c
  have c2 := K2.c
  have f0 := K0.f
  have z0 := K0.lt
  have z1 := K1.lt
  have z2 := K2.lt
  clear hp
  go_wp2_with fail
  exact bodyPost_ret (v := .tuple #[.agg #[.int .i64 0, .int .i64 0, .int .i64 0, .int .i64 0, .int .i64 0, .int .i64 0], .int .i64 4]) (by simp [results, Try.results40, go_sem, c0, f0, z0]) rfl ⟨by rw [readReq_may (by have := HN.out; omega) (by have e := rq_5 (l := xs) (by unfold Cur.i; have := HK.out.1; simp only; omega) (by unfold Cur.i; have := HK.out.2.1; simp only; omega) (by unfold Cur.i; have := HK.out.2.2.1; simp only; omega) (by unfold Cur.i; have := HK.out.2.2.2; simp only; omega); rw [e]; refine may_5 ?_ ?_ ?_ ?_ <;> (unfold Cur.i; have := HK.out; simp only; omega))]; rfl, (((((HB.setCell (Nat.le_refl _) _).setCell (Nat.le_refl _) _).setCell (Nat.le_refl _) _).setCell (Nat.le_refl _) _).setCell (Nat.le_refl _) _).setCell (Nat.le_refl _) _⟩

theorem readreq_any {B : Nat} {A : Option Addr} {n c : Nat} {xs : List Nat} (w : World) (hx : Reads w B 1 A n (u8s xs)) (hB : B ≤ w.heap.size) (hxs : ∀ x ∈ xs, x < 256) (hn : n ≤ maxLen) :
    Calls Try.prog 40 #[.slice A n c] w fun e w' => e = .returned (.tuple #[(readReq xs).1.V, .int .i64 (readReq xs).2]) ∧ Below w.heap.size w w' := by
  have hx := hx.more hB
  have hl : xs.length = n := by simpa using hx.1
  by_cases h : 64 < n
  · exact readreq_long w hn hl h
  by_cases h1 : rdV topI xs = 1
  · exact readreq_1 w hx hxs h h1
  by_cases h2 : rdV topI xs = 2
  · exact readreq_2 w hx hxs h h2
  by_cases h3 : rdV topI xs = 3
  · exact readreq_3 w hx hxs h h3
  by_cases h4 : rdV topI xs = 4
  · exact readreq_4 w hx hxs h h4
  exact readreq_none w hx hxs h h1 h2 h3 h4
end Go.Proofs.Ytejijghghbicdaa
