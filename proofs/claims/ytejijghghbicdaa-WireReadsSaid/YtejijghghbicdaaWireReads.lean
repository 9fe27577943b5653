/-
  WireReads: what any bytes are as a request, a reply, a batch: what the reference reads; the call returns true and changes nothing that was in memory.
-/
import Derived.Test.YtejijghghbicdaaWireRes
import Derived.Test.YtejijghghbicdaaWireRead
import Derived.Test.YtejijghghbicdaaWireSame
import Derived.Test.YtejijghghbicdaaOpen
import Derived.Outline
namespace Go.Proofs.Ytejijghghbicdaa
open Go.ChangeShapes Go.WideShapes Go.ChangeAt Go.RowKit Go.Joins
set_option linter.unusedSimpArgs false
set_option linter.unusedVariables false

set_option maxHeartbeats 400000 in
theorem wreads_early {A : Option Addr} {n c : Nat} (w : World) (hn : n ≤ maxLen) (h : 1000 < n) :
    Calls Try.prog 17 #[.slice A n c] w fun e w' => e = .returned (.bool true) ∧ Below w.heap.size w w' := by
  unfold maxLen at hn
  go_enter Try.func17, Try.ntmps17
  go_wp2_with fail
  refine (alive2_any _).mono ?_
  rintro e w1 ⟨rfl, hb⟩
  go_wp2_with fail
  go_ret
  exact ⟨rfl, hb⟩

set_option maxRecDepth 100000 in
set_option maxHeartbeats 4000000 in
theorem wreads_main {A : Option Addr} {n c : Nat} {xs : List Nat} (w : World) (hx : Reads w w.heap.size 1 A n (u8s xs)) (hxs : ∀ x ∈ xs, x < 256) (h : ¬ 1000 < n) :
    Calls Try.prog 17 #[.slice A n c] w fun e w' => e = .returned (.bool true) ∧ Below w.heap.size w w' := by
  have HX := Lib.hid hxs
  have hxl : xs.length = n := by simpa using hx.1
  have HXL := Lib.hid hxl
  obtain ⟨⟨⟨k, id, u, v, q, a⟩, z⟩, hq⟩ : ∃ r, readReq xs = r := ⟨_, rfl⟩
  obtain ⟨⟨⟨i, e, d, ps⟩, y⟩, hp⟩ : ∃ r, repRes xs = r := ⟨_, rfl⟩
  obtain ⟨⟨⟨r, s, qs⟩, t⟩, hs⟩ : ∃ r, batRes xs = r := ⟨_, rfl⟩
  have HQ := Lib.hid hq
  have HP := Lib.hid hp
  have HS := Lib.hid hs
  obtain ⟨i0, hi0, hz0, hz1, hz2⟩ := info_parts infoU8
  clear hxs hxl hq hp hs
  go_enter Try.func17, Try.ntmps17
  go_wp2_with fail
  refine (alive2_any _).mono ?_
  rintro en W0 ⟨rfl, HB⟩
  go_wp2_with (at_builtin; refine wpList_append_any _ rfl _ _ 22 rfl w.heap.size 5 i0 (.int .u8 0) 1 1 Try.underlying22 hi0 hz0 hz1 hz2 rfl (by decide) _ _ _ rfl (World.ownsRow_nil _ _ _ _) w.heap.size A n c (u8s xs) rfl (hx.below HB) (u8s_one _) (by unfold maxLen; omega) (by omega) HB.size ?_)
  intro v1 W1 hown hg _
  have hby : Below _ _ _ := (Below.refl _ _).grown hg (Nat.le_refl _) (by simp [Value.ownBlock])
  have HB := below_after HB hby HB.size
  have hown : W1.ownsRow w.heap.size 5 1 v1 n (u8s xs) := by simpa using hown
  obtain ⟨D, dc, rfl⟩ := own_form hown
  have hD := Reads.of_own hown
  clear hg hby hown
  go_wp2_with fail
  refine (readreq_any _ hD (Nat.le_refl _) HX.out (by unfold maxLen; omega)).mono ?_
  rw [HQ.out]
  rintro en W2 ⟨rfl, hb⟩
  unfold Req.V
  have K0 := Blk.new W2 50 #[.int .i64 k, .int .i64 id, .int .i64 u, .int .i64 v, .int .i64 q, .int .i64 a]
  have HB := below_after HB hb HB.size
  have HB := HB.alloc HB.size (.cells #[.int .i64 k, .int .i64 id, .int .i64 u, .int .i64 v, .int .i64 q, .int .i64 a] 50)
  clear hD
  clear hb
  have c0 := K0.c
  have z0 := K0.lt
  go_wp2_with fail
  refine (rreadreq_any _ (hx.below HB) HB.size HX.out (by unfold maxLen; omega)).mono ?_
  rw [HQ.out]
  rintro en W3 ⟨rfl, hb⟩
  unfold Req.V
  clear c0 z0
  have K0 := (K0.on hb).alloc (.cells #[.int .i64 k, .int .i64 id, .int .i64 u, .int .i64 v, .int .i64 q, .int .i64 a] 50)
  have K1 := Blk.new W3 50 #[.int .i64 k, .int .i64 id, .int .i64 u, .int .i64 v, .int .i64 q, .int .i64 a]
  have HB := below_after HB hb HB.size
  have HB := HB.alloc HB.size (.cells #[.int .i64 k, .int .i64 id, .int .i64 u, .int .i64 v, .int .i64 q, .int .i64 a] 50)
  clear hb
  have c0 := K0.c
  have z0 := K0.lt
  have c1 := K1.c
  have z1 := K1.lt
  go_wp2_with (at_builtin; refine wpList_append_any _ rfl _ _ 22 rfl w.heap.size 5 i0 (.int .u8 0) 1 1 Try.underlying22 hi0 hz0 hz1 hz2 rfl (by decide) _ _ _ rfl (World.ownsRow_nil _ _ _ _) w.heap.size A n c (u8s xs) rfl (hx.below HB) (u8s_one _) (by unfold maxLen; omega) (by omega) HB.size ?_)
  intro v4 W4 hown hg _
  have hby : Below _ _ _ := (Below.refl _ _).grown hg (Nat.le_refl _) (by simp [Value.ownBlock])
  clear c0 z0 c1 z1
  have K0 := K0.on hby
  have K1 := K1.on hby
  have HB := below_after HB hby HB.size
  have hown : W4.ownsRow w.heap.size 5 1 v4 n (u8s xs) := by simpa using hown
  obtain ⟨D, dc, rfl⟩ := own_form hown
  have hD := Reads.of_own hown
  clear hg hby hown
  have c0 := K0.c
  have z0 := K0.lt
  have c1 := K1.c
  have z1 := K1.lt
  go_wp2_with fail
  refine (readrep_res _ hD (Nat.le_refl _) HX.out (by omega)).mono ?_
  unfold RepRes
  rw [HP.out]
  rintro en W5 ⟨A5, m5, e5, rfl, hR5, hm5, hb⟩
  have HR5 := Lib.hid hR5
  clear hR5
  clear c0 z0 c1 z1
  have K0 := (K0.on hb).alloc (.cells #[.int .i64 i, .int .i64 e, .bool d, .slice A5 m5 e5] 59)
  have K1 := (K1.on hb).alloc (.cells #[.int .i64 i, .int .i64 e, .bool d, .slice A5 m5 e5] 59)
  have K2 := Blk.new W5 59 #[.int .i64 i, .int .i64 e, .bool d, .slice A5 m5 e5]
  have HB := below_after HB hb HB.size
  have HB := HB.alloc HB.size (.cells #[.int .i64 i, .int .i64 e, .bool d, .slice A5 m5 e5] 59)
  have HB5 := (Below.refl W5.heap.size W5).alloc (Nat.le_refl _) (.cells #[.int .i64 i, .int .i64 e, .bool d, .slice A5 m5 e5] 59)
  clear hD
  clear hb
  have c0 := K0.c
  have z0 := K0.lt
  have c1 := K1.c
  have z1 := K1.lt
  have c2 := K2.c
  have z2 := K2.lt
  go_wp2_with fail
  refine (rreadrep_res _ (hx.below HB) HB.size HX.out (by omega)).mono ?_
  unfold RepRes
  rw [HP.out]
  rintro en W6 ⟨A6, m6, e6, rfl, hR6, hm6, hb⟩
  have HR6 := Lib.hid hR6
  clear hR6
  clear c0 z0 c1 z1 c2 z2
  have K0 := (K0.on hb).alloc (.cells #[.int .i64 i, .int .i64 e, .bool d, .slice A6 m6 e6] 59)
  have K1 := (K1.on hb).alloc (.cells #[.int .i64 i, .int .i64 e, .bool d, .slice A6 m6 e6] 59)
  have K2 := (K2.on hb).alloc (.cells #[.int .i64 i, .int .i64 e, .bool d, .slice A6 m6 e6] 59)
  have K3 := Blk.new W6 59 #[.int .i64 i, .int .i64 e, .bool d, .slice A6 m6 e6]
  have HB := below_after HB hb HB.size
  have HB := HB.alloc HB.size (.cells #[.int .i64 i, .int .i64 e, .bool d, .slice A6 m6 e6] 59)
  have HB5 := below_after HB5 hb HB5.size
  have HAB : W5.heap.size ≤ W6.heap.size := HB5.size
  have HB5 := HB5.alloc HB5.size (.cells #[.int .i64 i, .int .i64 e, .bool d, .slice A6 m6 e6] 59)
  have HB6 := (Below.refl W6.heap.size W6).alloc (Nat.le_refl _) (.cells #[.int .i64 i, .int .i64 e, .bool d, .slice A6 m6 e6] 59)
  clear hb
  have c0 := K0.c
  have z0 := K0.lt
  have c1 := K1.c
  have z1 := K1.lt
  have c2 := K2.c
  have z2 := K2.lt
  have c3 := K3.c
  have z3 := K3.lt
  go_wp2_with (at_builtin; refine wpList_append_any _ rfl _ _ 22 rfl w.heap.size 5 i0 (.int .u8 0) 1 1 Try.underlying22 hi0 hz0 hz1 hz2 rfl (by decide) _ _ _ rfl (World.ownsRow_nil _ _ _ _) w.heap.size A n c (u8s xs) rfl (hx.below HB) (u8s_one _) (by unfold maxLen; omega) (by omega) HB.size ?_)
  intro v7 W7 hown hg _
  have hby : Below _ _ _ := (Below.refl _ _).grown hg (Nat.le_refl _) (by simp [Value.ownBlock])
  clear c0 z0 c1 z1 c2 z2 c3 z3
  have K0 := K0.on hby
  have K1 := K1.on hby
  have K2 := K2.on hby
  have K3 := K3.on hby
  have HB5 := below_after HB5 hby HB5.size
  have HB6 := below_after HB6 hby HB6.size
  have HB := below_after HB hby HB.size
  have hown : W7.ownsRow w.heap.size 5 1 v7 n (u8s xs) := by simpa using hown
  obtain ⟨D, dc, rfl⟩ := own_form hown
  have hD := Reads.of_own hown
  clear hg hby hown
  have c0 := K0.c
  have z0 := K0.lt
  have c1 := K1.c
  have z1 := K1.lt
  have c2 := K2.c
  have z2 := K2.lt
  have c3 := K3.c
  have z3 := K3.lt
  go_wp2_with fail
  refine (readbat_res _ hD (Nat.le_refl _) HX.out (by omega)).mono ?_
  unfold BatRes
  rw [HS.out]
  rintro en W8 ⟨A8, m8, e8, rfl, hR8, hm8, hb⟩
  have HR8 := Lib.hid hR8
  clear hR8
  clear c0 z0 c1 z1 c2 z2 c3 z3
  have K0 := (K0.on hb).alloc (.cells #[.int .i64 r, .int .i64 s, .slice A8 m8 e8] 68)
  have K1 := (K1.on hb).alloc (.cells #[.int .i64 r, .int .i64 s, .slice A8 m8 e8] 68)
  have K2 := (K2.on hb).alloc (.cells #[.int .i64 r, .int .i64 s, .slice A8 m8 e8] 68)
  have K3 := (K3.on hb).alloc (.cells #[.int .i64 r, .int .i64 s, .slice A8 m8 e8] 68)
  have K4 := Blk.new W8 68 #[.int .i64 r, .int .i64 s, .slice A8 m8 e8]
  have HB := below_after HB hb HB.size
  have HB := HB.alloc HB.size (.cells #[.int .i64 r, .int .i64 s, .slice A8 m8 e8] 68)
  have HB5 := below_after HB5 hb HB5.size
  have HB5 := HB5.alloc HB5.size (.cells #[.int .i64 r, .int .i64 s, .slice A8 m8 e8] 68)
  have HB6 := below_after HB6 hb HB6.size
  have HB6 := HB6.alloc HB6.size (.cells #[.int .i64 r, .int .i64 s, .slice A8 m8 e8] 68)
  have HB8 := (Below.refl W8.heap.size W8).alloc (Nat.le_refl _) (.cells #[.int .i64 r, .int .i64 s, .slice A8 m8 e8] 68)
  clear hD
  clear hb
  have c0 := K0.c
  have z0 := K0.lt
  have c1 := K1.c
  have z1 := K1.lt
  have c2 := K2.c
  have z2 := K2.lt
  have c3 := K3.c
  have z3 := K3.lt
  have c4 := K4.c
  have z4 := K4.lt
  go_wp2_with fail
  refine (rreadbat_res _ (hx.below HB) HB.size HX.out (by omega)).mono ?_
  unfold BatRes
  rw [HS.out]
  rintro en W9 ⟨A9, m9, e9, rfl, hR9, hm9, hb⟩
  have HR9 := Lib.hid hR9
  clear hR9
  clear c0 z0 c1 z1 c2 z2 c3 z3 c4 z4
  have K0 := (K0.on hb).alloc (.cells #[.int .i64 r, .int .i64 s, .slice A9 m9 e9] 68)
  have K1 := (K1.on hb).alloc (.cells #[.int .i64 r, .int .i64 s, .slice A9 m9 e9] 68)
  have K2 := (K2.on hb).alloc (.cells #[.int .i64 r, .int .i64 s, .slice A9 m9 e9] 68)
  have K3 := (K3.on hb).alloc (.cells #[.int .i64 r, .int .i64 s, .slice A9 m9 e9] 68)
  have K4 := (K4.on hb).alloc (.cells #[.int .i64 r, .int .i64 s, .slice A9 m9 e9] 68)
  have K5 := Blk.new W9 68 #[.int .i64 r, .int .i64 s, .slice A9 m9 e9]
  have HB := below_after HB hb HB.size
  have HB := HB.alloc HB.size (.cells #[.int .i64 r, .int .i64 s, .slice A9 m9 e9] 68)
  have HB5 := below_after HB5 hb HB5.size
  have HB5 := HB5.alloc HB5.size (.cells #[.int .i64 r, .int .i64 s, .slice A9 m9 e9] 68)
  have HB6 := below_after HB6 hb HB6.size
  have HB6 := HB6.alloc HB6.size (.cells #[.int .i64 r, .int .i64 s, .slice A9 m9 e9] 68)
  have HB8 := below_after HB8 hb HB8.size
  have HCD : W8.heap.size ≤ W9.heap.size := HB8.size
  have HB8 := HB8.alloc HB8.size (.cells #[.int .i64 r, .int .i64 s, .slice A9 m9 e9] 68)
  have HB9 := (Below.refl W9.heap.size W9).alloc (Nat.le_refl _) (.cells #[.int .i64 r, .int .i64 s, .slice A9 m9 e9] 68)
  clear hb
  have c0 := K0.c
  have z0 := K0.lt
  have c1 := K1.c
  have z1 := K1.lt
  have c2 := K2.c
  have z2 := K2.lt
  have c3 := K3.c
  have z3 := K3.lt
  have c4 := K4.c
  have z4 := K4.lt
  have c5 := K5.c
  have z5 := K5.lt
  go_wp2_with fail
  refine (wnum_any _ _).mono ?_
  rintro en W90 ⟨rfl, rfl⟩
  go_wp2_with fail
  refine (wnum_any _ _).mono ?_
  rintro en W90 ⟨rfl, rfl⟩
  go_wp2_with fail
  have hz9 := HB8.size
  have hza := HB5.size
  have hzb := HB6.size
  have hzd := HB9.size
  refine (samerep_any (B := W6.heap.size) (b := true) _ ((HR5.out.below HB5).more ?hab) (HR6.out.below HB6) ?hbc (by simp) (by omega) (by omega)).mono ?_
  case hab => exact HAB
  case hbc => exact hzb
  rintro en Wx ⟨rfl, hb⟩
  clear c0 z0 c1 z1 c2 z2 c3 z3 c4 z4 c5 z5
  have K0 := K0.on hb
  have K1 := K1.on hb
  have K2 := K2.on hb
  have K3 := K3.on hb
  have K4 := K4.on hb
  have K5 := K5.on hb
  have HB := below_after HB hb HB.size
  have HB5 := below_after HB5 hb HB5.size
  have HB6 := below_after HB6 hb HB6.size
  have HB8 := below_after HB8 hb HB8.size
  have HB9 := below_after HB9 hb HB9.size
  clear hb hz9 hza hzb hzd
  have c0 := K0.c
  have z0 := K0.lt
  have c1 := K1.c
  have z1 := K1.lt
  have c2 := K2.c
  have z2 := K2.lt
  have c3 := K3.c
  have z3 := K3.lt
  have c4 := K4.c
  have z4 := K4.lt
  have c5 := K5.c
  have z5 := K5.lt
  go_wp2_with fail
  refine (wnum_any _ _).mono ?_
  rintro en W90 ⟨rfl, rfl⟩
  go_wp2_with fail
  have hzd := HB9.size
  refine (samebat_any (B := W9.heap.size) _ ((HR8.out.below HB8).more HCD) (HR9.out.below HB9) hzd (by omega) (by omega)).mono ?_
  rintro en Wy ⟨rfl, hb⟩
  have HB := below_after HB hb HB.size
  clear c0 z0 c1 z1 c2 z2 c3 z3 c4 z4 c5 z5
  go_wp2_with fail
  go_ret
  exact ⟨rfl, HB⟩
theorem wireReads_walk {A : Option Addr} {n c : Nat} {xs : List Nat} (w : World) (hx : Reads w w.heap.size 1 A n (u8s xs)) (hxs : ∀ x ∈ xs, x < 256) (hn : n ≤ maxLen) :
    Calls Try.prog 17 #[.slice A n c] w fun e w' => e = .returned (.bool true) ∧ Below w.heap.size w w' := by
  by_cases h : 1000 < n
  · exact wreads_early w hn h
  · exact wreads_main w hx hxs h


namespace wireReads
set_option maxRecDepth 100000 in
theorem contract (H : Type) (enc : TypeId × Value → H) (W : World) (base : Nat) (args : Array Value) (ds gs : List (DataW H)) (before : List MemPlace)
    (hval : ∀ (j : Nat) t v, Try.f17.params[j]? = some t → args[j]? = some v → Value.okWide Try.prog W .any base t v)
    (hW : DataW.Whole enc Try.prog Try.f17.params.toList Rows.wireReadsSpec.vars false W args.toList ds gs before) :
    Calls Try.prog 17 args W fun e W' => ∃ v, e = .returned v ∧ Rows.wireReadsSpec.post enc Try.prog Try.f17 false true false false W args v W' := by
  have hWc := hW
  obtain ⟨p, q, hA0, hV, _, _, _⟩ := hW
  have hA : DataW.TrodAll enc Try.prog W 0 (fun _ => true) true Try.f17.params.toList args.toList ds p := hA0
  clear hA0
  rw [Try.params17] at hA hval
  obtain ⟨v0, vs0, d0, ds0, p0, q0, hargs, rfl, rfl, h0, r0⟩ := trodAll_cons hA
  obtain ⟨rfl, rfl, rfl⟩ := trodAll_nil r0
  obtain rfl : args = #[v0] := by cases args; simp_all
  obtain ⟨A0, n0, c0, l0, rfl, hr0, hw0, hn0, hc0⟩ := open_u8s Try.underlying22 Try.underlying5 (by kernel_rfl) (hval 0 22 v0 rfl rfl) h0
  refine (wireReads_walk  W hr0 hw0 (Nat.le_trans hn0 hc0)).mono fun e W' ⟨he, hb⟩ => ⟨_, he, ?_⟩
  exact post_true hWc rfl hb laidOut (readables (by kernel_rfl)) rfl Try.underlying4 (fun h => by subst h; rfl)

set_option maxRecDepth 100000 in
theorem lifted (os : Os) (started : os.Started) (H : Type) (enc : TypeId × Value → H) :
    ReturnsInHanded {} Try.checked os 17 .any (Rows.wireReadsSpec.pre6 enc Try.prog Try.f17 Rows.wireReadsRow.domain false) (Rows.wireReadsSpec.post enc Try.prog Try.f17 false true false false) := by
  refine returnsInHanded_of_change (C := Try.checked) own started (by kernel_rfl) Try.func17
    (ChangeSpec.witness6 (enc := enc) (C := Try.checked) false ⟨#[], #[.slice none 0 0], []⟩ 8 (by kernel_rfl) (by kernel_rfl) (by kernel_rfl) (by kernel_rfl)) ?_
  intro W base args ds gs before hval hW _ _
  exact contract H enc W base args ds gs before hval hW

theorem proved : Rows.WireReadsSaid :=
  OpenClaim.holds_of_wide 17 Try.f17 rfl rfl rfl rfl rfl rfl rfl ⟨rfl, rfl, rfl, rfl, rfl⟩ rfl rfl rfl rfl rfl (by kernel_rfl) Try.func17 (by kernel_rfl)
    (of_decide_eq_true (by kernel_rfl)) (by unfold Func.isWrapper; first | (rw [if_pos (by decide +kernel)]; kernel_rfl) | (rw [if_neg (by decide +kernel)]; exact ⟨rfl, rfl⟩))
    (fun os started H enc _ => lifted os started H enc)
end wireReads
end Go.Proofs.Ytejijghghbicdaa
