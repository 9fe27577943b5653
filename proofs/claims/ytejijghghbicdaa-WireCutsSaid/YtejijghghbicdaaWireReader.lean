/-
  The reader of package wire, by contracts: read, readers (a map of four entries), edge, query, cancel.
-/
import Derived.Test.YtejijghghbicdaaWireAlive
import Derived.Test.YtejijghghbicdaaCursor2
import Derived.MapKept
import Derived.Laws.EntriesVeiled
import Derived.Outline
namespace Go.Proofs.Ytejijghghbicdaa
open Go.RowKit Go.MapKept
set_option linter.unusedSimpArgs false
set_option linter.unusedVariables false

/-! ### Two blocks are written, nothing else below. -/
structure Two (w w' : World) (g h : Nat) : Prop where
  os : w'.os = w.os
  tape : w'.tape = w.tape
  output : w'.output = w.output
  size : w.heap.size ≤ w'.heap.size
  block : ∀ k, k < w.heap.size → k ≠ g → k ≠ h → w'.heap[k]? = w.heap[k]?
section
variable {w w' w'' : World} {g h : Nat}
theorem Two.refl (w : World) (g h : Nat) : Two w w g h := ⟨rfl, rfl, rfl, Nat.le_refl _, fun _ _ _ _ => rfl⟩
theorem Two.left (t : Two w w' g h) (hg : w'.grownBy w'' (some g)) : Two w w'' g h :=
  ⟨hg.os.trans t.os, hg.tape.trans t.tape, hg.output.trans t.output, Nat.le_trans t.size hg.size, fun k hk h1 h2 => (hg.block k (Nat.lt_of_lt_of_le hk t.size) (by simpa using h1)).trans (t.block k hk h1 h2)⟩
theorem Two.right (t : Two w w' g h) (i : Nat) (v : Value) : Two w (w'.setCell ⟨h, i, none⟩ v) g h :=
  ⟨t.os, t.tape, t.output, by simpa [World.setCell] using t.size, fun k hk h1 h2 => (Below.heap_setCell w' ⟨h, i, none⟩ v k h2).trans (t.block k hk h1 h2)⟩
theorem Two.alloc (t : Two w w' g h) (o : Obj) : Two w (w'.alloc o) g h :=
  ⟨t.os, t.tape, t.output, by simp; exact Nat.le_succ_of_le t.size, fun k hk h1 h2 => (Below.heap_alloc w' o k (Nat.lt_of_lt_of_le hk t.size)).trans (t.block k hk h1 h2)⟩
theorem Two.below {B : Nat} {w0 : World} (t : Two w w' g h) (hB : Below B w0 w) (hb : B ≤ w.heap.size) (hg : B ≤ g) (hh : B ≤ h) : Below B w0 w' :=
  ⟨t.os.trans hB.os, t.tape.trans hB.tape, t.output.trans hB.output, Nat.le_trans hB.size t.size, fun k hk => (t.block k (Nat.lt_of_lt_of_le hk hb) (by omega) (by omega)).trans (hB.block k hk)⟩
theorem Two.drewN (t : Two w w' g h) (n : Nat) : Two w (w'.drewN n) g h := ⟨t.os, t.tape, t.output, t.size, t.block⟩
theorem Blk.two {k : Nat} {ty : TypeId} {cs : Array Value} (b : Blk w k ty cs) (t : Two w w' g h) (h1 : k ≠ g) (h2 : k ≠ h) : Blk w' k ty cs := (t.block k b.lt h1 h2).trans b
end

/-! ### A map of four entries. -/
theorem heap_set_alloc (w : World) (o o' : Obj) : { (w.alloc o) with heap := (w.alloc o).heap.setIfInBounds w.heap.size o' } = w.alloc o' := by
  have hs : (w.alloc o).heap.setIfInBounds w.heap.size o' = (w.alloc o').heap := by
    apply Array.ext_getElem?
    intro i
    rw [Array.getElem?_setIfInBounds]
    by_cases h : w.heap.size = i
    · subst h
      rw [if_pos rfl, if_pos (by simp), heap_alloc_new]
    · rw [if_neg h]
      rcases Nat.lt_or_ge i w.heap.size with hi | hi
      · rw [Below.heap_alloc w o i hi, Below.heap_alloc w o' i hi]
      · rw [Array.getElem?_eq_none (by simp; omega), Array.getElem?_eq_none (by simp; omega)]
  rw [hs]; rfl
section
variable {P : Program} {w : World} {t k e : TypeId} {x : Int} {v : Value} {es : Array MapEntry} {c : Nat}
theorem run_put_new (ht : P.underlying t = some (.map k e)) (hk : P.underlying k = some (.int .i64)) (hn : Instr.findNow (.int .i64) (.int .i64 x) es.toList 0 = some none) :
    (Instr.mapUpdate t (.map (some w.heap.size)) (.int .i64 x) v).run P (w.alloc (.map es c)) = .ok () (w.alloc (.map (es.push { key := .int .i64 x, val := v, born := c }) (c + 1))) := by
  have hb : (w.alloc (.map es c)).heap[w.heap.size]? = some (.map es c) := (heap_alloc w _).1
  have h1 := run_checkKey (P := P) (w := w.alloc (.map es c)) hk (k := .int .i64 x) rfl false 9999
  have h2 := run_findKey (P := P) (w := w.alloc (.map es c)) hk hn
  have h3 := MapKept.run_setObj_map (P := P) (.map (es.push { key := .int .i64 x, val := v, born := c }) (c + 1)) hb
  rw [heap_set_alloc] at h3
  unfold Instr.mapUpdate
  simp only [Sem.run_bind, run_underlying ht, Result.andThen_ok, MapKept.run_getObj_map hb, h1, h2, h3]
theorem run_look (ht : P.underlying t = some (.map k e)) (hk : P.underlying k = some (.int .i64)) {g j : Nat} (hb : w.heap[g]? = some (.map es c)) (hf : Instr.findNow (.int .i64) (.int .i64 x) es.toList 0 = some (some (j, v))) :
    (Instr.lookup t (.map (some g)) (.int .i64 x) true).run P w = .ok (.tuple #[v, .bool true]) w := by
  have h1 := run_checkKey (P := P) (w := w) hk (k := .int .i64 x) rfl es.isEmpty 9999
  have h2 := run_findKey (P := P) (w := w) hk hf
  unfold Instr.lookup
  simp only [Sem.run_bind, run_underlying ht, Result.andThen_ok, MapKept.run_getObj_map hb, h1, h2, Sem.run_pure]
  rfl
theorem run_look_none (ht : P.underlying t = some (.map k e)) (hk : P.underlying k = some (.int .i64)) {g : Nat} {z : Value} (hz : (zeroValue e).run P w = .ok z w) (hb : w.heap[g]? = some (.map es c)) (hf : Instr.findNow (.int .i64) (.int .i64 x) es.toList 0 = some none) :
    (Instr.lookup t (.map (some g)) (.int .i64 x) true).run P w = .ok (.tuple #[z, .bool false]) w := by
  have h1 := run_checkKey (P := P) (w := w) hk (k := .int .i64 x) rfl es.isEmpty 9999
  have h2 := run_findKey (P := P) (w := w) hk hf
  unfold Instr.lookup
  simp only [Sem.run_bind, run_underlying ht, Result.andThen_ok, MapKept.run_getObj_map hb, h1, h2, Sem.run_pure, hz]
  rfl
end
/-- What reads a request's own fields: the map's entries. -/
def rdsEntries : Array MapEntry := #[⟨.int .i64 1, .func (Fn.func 68) #[] #[], 0⟩, ⟨.int .i64 2, .func (Fn.func 68) #[] #[], 1⟩, ⟨.int .i64 3, .func (Fn.func 69) #[] #[], 2⟩, ⟨.int .i64 4, .func (Fn.func 70) #[] #[], 3⟩]
set_option maxHeartbeats 400000 in
theorem readers_any (w : World) :
    Calls Try.prog 59 #[] w fun e w' => e = .returned (.map (some w.heap.size)) ∧ w.alloc (.map rdsEntries 4) = w' := by
  have hmm := @run_makeMap Try.prog
  have e1 := run_put_new (P := Try.prog) (w := w) (t := 107) (x := 1) (v := .func (Fn.func 68) #[] #[]) (es := #[]) (c := 0) Try.underlying107 Try.underlying3 (by rfl)
  have e2 := run_put_new (P := Try.prog) (w := w) (t := 107) (x := 2) (v := .func (Fn.func 68) #[] #[]) (es := #[⟨.int .i64 1, .func (Fn.func 68) #[] #[], 0⟩]) (c := 1) Try.underlying107 Try.underlying3 (by rfl)
  have e3 := run_put_new (P := Try.prog) (w := w) (t := 107) (x := 3) (v := .func (Fn.func 69) #[] #[]) (es := #[⟨.int .i64 1, .func (Fn.func 68) #[] #[], 0⟩, ⟨.int .i64 2, .func (Fn.func 68) #[] #[], 1⟩]) (c := 2) Try.underlying107 Try.underlying3 (by rfl)
  have e4 := run_put_new (P := Try.prog) (w := w) (t := 107) (x := 4) (v := .func (Fn.func 70) #[] #[]) (es := #[⟨.int .i64 1, .func (Fn.func 68) #[] #[], 0⟩, ⟨.int .i64 2, .func (Fn.func 68) #[] #[], 1⟩, ⟨.int .i64 3, .func (Fn.func 69) #[] #[], 2⟩]) (c := 3) Try.underlying107 Try.underlying3 (by rfl)
  simp only [List.push_toArray, List.cons_append, List.nil_append] at e1 e2 e3 e4
  go_enter Try.func59, Try.ntmps59
  go_wp2_with fail
  go_ret
  exact ⟨rfl, rfl⟩

/-! ### A cursor, and writes that lie apart from it. -/
def NoU8 (cs : Array Value) : Prop := ∀ (i : Nat) (x : Int), cs[i]? ≠ some (.int .u8 x)
theorem NoU8.of {l : List Value} (h : ∀ v ∈ l, ∀ x, v ≠ .int .u8 x) : NoU8 l.toArray := by
  intro i x hx
  have hm : Value.int .u8 x ∈ l := by
    have : l[i]? = some (.int .u8 x) := by simpa using hx
    exact List.mem_of_getElem? this
  exact h _ hm x rfl
section
variable {w w' : World} {g b B n : Nat} {l xs : List Nat} {bad : Bool} {A : Option Addr} {ty : TypeId} {cs : Array Value}
theorem Reads.apart (h : Reads w B 1 A n (u8s xs)) (hK : Blk w b ty cs) (hcs : NoU8 cs) (hg : w.grownBy w' (some b)) (hB : B ≤ w.heap.size) : Reads w' B 1 A n (u8s xs) := by
  refine ⟨h.1, fun hn => ?_⟩
  obtain ⟨ad, e, hb, hc⟩ := h.2 hn
  refine ⟨ad, e, hb, fun j u hu => ?_⟩
  have hw := hc j u hu
  by_cases hab : ad.block = b
  · exfalso
    have hj : (ad.add j).block = b := by rw [block_of_add]; exact hab
    unfold World.cell? at hw
    unfold Blk at hK
    rw [hj, hK] at hw
    simp only at hw
    split at hw
    · cases hw
    · have hm := List.mem_of_getElem? hu
      obtain ⟨x, _, rfl⟩ := List.mem_map.1 hm
      exact hcs _ _ hw
  · rw [World.cell?_of_block (hg.block _ (by rw [block_of_add]; omega) (by rw [block_of_add]; simpa using hab))]
    exact hw
theorem PC.apart (h : PC w g l bad) (hK : Blk w b ty cs) (hcs : NoU8 cs) (hg : w.grownBy w' (some b)) (hne : g ≠ b) : PC w' g l bad := by
  obtain ⟨A, n, c, hB, hR, hn, hc⟩ := h
  exact ⟨A, n, c, hB.grown hg (by simpa using hne), hR.apart hK hcs hg (Nat.le_of_lt hB.lt), hn, hc⟩
theorem PC.lt (h : PC w g l bad) : g < w.heap.size := by
  obtain ⟨A, n, c, hB, hR, hn, hc⟩ := h; exact hB.lt
theorem PC.alloc (h : PC w g l bad) (o : Obj) : PC (w.alloc o) g l bad := by
  obtain ⟨A, n, c, hB, hR, hn, hc⟩ := h
  exact ⟨A, n, c, hB.alloc o, hR.alloc (Nat.le_of_lt hB.lt) o, hn, hc⟩
theorem PC.on (h : PC w g l bad) (hb : Below w.heap.size w w') : PC w' g l bad := by
  obtain ⟨A, n, c, hB, hR, hn, hc⟩ := h
  exact ⟨A, n, c, hB.on hb, hR.below (hb.mono (Nat.le_of_lt hB.lt)), hn, hc⟩
theorem PC.drewN (h : PC w g l bad) (n : Nat) : PC (w.drewN n) g l bad := h
end
/-- The reader of the cursor in block g. -/
def rdr (g : Nat) : Value := .agg #[.pointer (some ⟨g, 0, none⟩), .func (Fn.func 28) #[.pointer (some ⟨g, 0, none⟩)] #[]]

set_option maxHeartbeats 400000 in
theorem read_any {B : Nat} {A : Option Addr} {n c : Nat} {xs : List Nat} (w : World) (hx : Reads w B 1 A n (u8s xs)) (hB : B ≤ w.heap.size) (hn : n ≤ 1000000000) :
    Calls Try.prog 58 #[.slice A n c] w fun e w' => ∃ g, e = .returned (rdr g) ∧ w.heap.size ≤ g ∧ PC w' g xs false ∧ Below w.heap.size w w' := by
  go_enter Try.func58, Try.ntmps58
  go_wp2_with fail
  refine (new_any (B := B) _ (hx.alloc hB _) (by simp; omega) hn).mono ?_
  rintro e w1 ⟨g, rfl, hg, hp, hb⟩
  have K0 := Blk.on (g := w.heap.size) (t := 103) (Blk.at_ _ _ _ (by simp)) hb
  have HB : Below w.heap.size w w1 := below_after ((Below.refl _ _).alloc (Nat.le_refl _) _) hb (by simp)
  have c0 := K0.c
  have f0 := K0.f
  have hz := K0.lt
  have hg' : w.heap.size < g := by have := hg; simp at this; omega
  have HP := Lib.hid (fun w' h => hp.apart (w' := w') K0 (NoU8.of (by simp)) h (by omega))
  clear hb hg hp
  go_wp2_with fail
  exact bodyPost_ret (v := rdr g) (by simp [results, Try.results58, go_sem, c0, f0, hz, rdr]) rfl ⟨g, rfl, by omega, HP.out _ (grown_set (grown_set (grown_self _ _) _) _), (HB.setCell (Nat.le_refl _) _).setCell (Nat.le_refl _) _⟩

set_option maxHeartbeats 1000000 in
theorem edge_any {g h : Nat} {l : List Nat} {bad : Bool} {k id u v q a : Int} (w : World) (hp : PC w g l bad) (hl : ∀ d ∈ l, d < 256) (hK : Blk w h 50 #[.int .i64 k, .int .i64 id, .int .i64 u, .int .i64 v, .int .i64 q, .int .i64 a]) (hne : g ≠ h) :
    Calls Try.prog 68 #[rdr g, .pointer (some ⟨h, 0, none⟩)] w fun e w' => e = .returned (.tuple #[]) ∧ PC w' g (rdL topI (rdL topI l)) (rdB topI (rdL topI l) (rdB topI l bad)) ∧
      Blk w' h 50 #[.int .i64 k, .int .i64 id, .int .i64 (rdV topI l : Nat), .int .i64 (rdV topI (rdL topI l) : Nat), .int .i64 q, .int .i64 a] ∧ Two w w' g h := by
  have HL := Lib.hid hl
  have HP := Lib.hid hp
  have HN := Lib.hid hne
  have hgl := hp.lt
  have hhl := hK.lt
  clear hl hp hne
  unfold rdr
  go_enter Try.func68, Try.ntmps68
  go_wp2_with fail
  refine (cint_any _ (HP.out.alloc _) HL.out).mono ?_
  rintro e w1 ⟨rfl, hp1, hg1⟩
  have Kb := (Blk.new w 103 #[.pointer (some ⟨g, 0, none⟩), .func (Fn.func 28) #[.pointer (some ⟨g, 0, none⟩)] #[]]).grown hg1 (by simp; omega)
  have Kh := (hK.alloc (.cells #[.pointer (some ⟨g, 0, none⟩), .func (Fn.func 28) #[.pointer (some ⟨g, 0, none⟩)] #[]] 103)).grown hg1 (by have := HN.out; simp; omega)
  have HT := Lib.hid ((((Two.refl w g h).alloc _).left hg1).right 2 (.int .i64 (rdV topI l : Nat)))
  have hp1' := hp1.apart Kh (NoU8.of (by simp)) (grown_set (i := 2) (grown_self w1 (some h)) (.int .i64 (rdV topI l : Nat))) HN.out
  have HP1 := Lib.hid hp1'
  have Kb2 := Kb.far (p := ⟨h, 2, none⟩) (by simp; omega) (.int .i64 (rdV topI l : Nat))
  have Kh2 : Blk (w1.setCell ⟨h, 2, none⟩ (.int .i64 (rdV topI l : Nat))) h 50 #[.int .i64 k, .int .i64 id, .int .i64 (rdV topI l : Nat), .int .i64 v, .int .i64 q, .int .i64 a] := by have := Kh.set_ 2 (.int .i64 (rdV topI l : Nat)); simpa using this
  have HL1 := Lib.hid (rdL_byte (top := topI) HL.out)
  have HKH := Lib.hid Kh2
  have HKB := Lib.hid Kb2
  have c0 := Kb.c
  have c1 := Kh.c
  have f1 := Kh.f
  have cz := Kh.lt
  have c0' := Kb2.c
  clear hg1 hp1 hp1' Kb Kh Kb2 Kh2 hK
  go_wp2_with fail
  refine (cint_any _ HP1.out HL1.out).mono ?_
  rintro e w2 ⟨rfl, hp2, hg2⟩
  have Kh3 := HKH.out.grown hg2 (by have := HN.out; simp; omega)
  have HT2 := Lib.hid ((HT.out.left hg2).right 3 (.int .i64 (rdV topI (rdL topI l) : Nat)))
  have HP2 := Lib.hid (hp2.apart Kh3 (NoU8.of (by simp)) (grown_set (i := 3) (grown_self w2 (some h)) (.int .i64 (rdV topI (rdL topI l) : Nat))) HN.out)
  have Kh4 : Blk (w2.setCell ⟨h, 3, none⟩ (.int .i64 (rdV topI (rdL topI l) : Nat))) h 50 #[.int .i64 k, .int .i64 id, .int .i64 (rdV topI l : Nat), .int .i64 (rdV topI (rdL topI l) : Nat), .int .i64 q, .int .i64 a] := by have := Kh3.set_ 3 (.int .i64 (rdV topI (rdL topI l) : Nat)); simpa using this
  have HK4 := Lib.hid Kh4
  have c1 := Kh3.c
  have f1 := Kh3.f
  have cz := Kh3.lt
  clear hg2 hp2 Kh3 Kh4 c0 c0'
  go_wp2_with fail
  go_end0
  exact ⟨rfl, HP2.out, HK4.out, HT2.out⟩

set_option maxHeartbeats 1000000 in
theorem rquery_any {g h : Nat} {l : List Nat} {bad : Bool} {k id u v q a : Int} (w : World) (hp : PC w g l bad) (hl : ∀ d ∈ l, d < 256) (hK : Blk w h 50 #[.int .i64 k, .int .i64 id, .int .i64 u, .int .i64 v, .int .i64 q, .int .i64 a]) (hne : g ≠ h) :
    Calls Try.prog 69 #[rdr g, .pointer (some ⟨h, 0, none⟩)] w fun e w' => e = .returned (.tuple #[]) ∧ PC w' g (rdL topI (rdL topI l)) (rdB topI (rdL topI l) (rdB topI l bad)) ∧
      Blk w' h 50 #[.int .i64 k, .int .i64 id, .int .i64 u, .int .i64 v, .int .i64 (rdV topI l : Nat), .int .i64 (rdV topI (rdL topI l) : Nat)] ∧ Two w w' g h := by
  have HL := Lib.hid hl
  have HP := Lib.hid hp
  have HN := Lib.hid hne
  have hgl := hp.lt
  have hhl := hK.lt
  clear hl hp hne
  unfold rdr
  go_enter Try.func69, Try.ntmps69
  go_wp2_with fail
  refine (cint_any _ (HP.out.alloc _) HL.out).mono ?_
  rintro e w1 ⟨rfl, hp1, hg1⟩
  have Kb := (Blk.new w 103 #[.pointer (some ⟨g, 0, none⟩), .func (Fn.func 28) #[.pointer (some ⟨g, 0, none⟩)] #[]]).grown hg1 (by simp; omega)
  have Kh := (hK.alloc (.cells #[.pointer (some ⟨g, 0, none⟩), .func (Fn.func 28) #[.pointer (some ⟨g, 0, none⟩)] #[]] 103)).grown hg1 (by have := HN.out; simp; omega)
  have HT := Lib.hid ((((Two.refl w g h).alloc _).left hg1).right 4 (.int .i64 (rdV topI l : Nat)))
  have hp1' := hp1.apart Kh (NoU8.of (by simp)) (grown_set (i := 4) (grown_self w1 (some h)) (.int .i64 (rdV topI l : Nat))) HN.out
  have HP1 := Lib.hid hp1'
  have Kb2 := Kb.far (p := ⟨h, 4, none⟩) (by simp; omega) (.int .i64 (rdV topI l : Nat))
  have Kh2 : Blk (w1.setCell ⟨h, 4, none⟩ (.int .i64 (rdV topI l : Nat))) h 50 #[.int .i64 k, .int .i64 id, .int .i64 u, .int .i64 v, .int .i64 (rdV topI l : Nat), .int .i64 a] := by have := Kh.set_ 4 (.int .i64 (rdV topI l : Nat)); simpa using this
  have HL1 := Lib.hid (rdL_byte (top := topI) HL.out)
  have HKH := Lib.hid Kh2
  have HKB := Lib.hid Kb2
  have c0 := Kb.c
  have c1 := Kh.c
  have f1 := Kh.f
  have cz := Kh.lt
  have c0' := Kb2.c
  clear hg1 hp1 hp1' Kb Kh Kb2 Kh2 hK
  go_wp2_with fail
  refine (cint_any _ HP1.out HL1.out).mono ?_
  rintro e w2 ⟨rfl, hp2, hg2⟩
  have Kh3 := HKH.out.grown hg2 (by have := HN.out; simp; omega)
  have HT2 := Lib.hid ((HT.out.left hg2).right 5 (.int .i64 (rdV topI (rdL topI l) : Nat)))
  have HP2 := Lib.hid (hp2.apart Kh3 (NoU8.of (by simp)) (grown_set (i := 5) (grown_self w2 (some h)) (.int .i64 (rdV topI (rdL topI l) : Nat))) HN.out)
  have Kh4 : Blk (w2.setCell ⟨h, 5, none⟩ (.int .i64 (rdV topI (rdL topI l) : Nat))) h 50 #[.int .i64 k, .int .i64 id, .int .i64 u, .int .i64 v, .int .i64 (rdV topI l : Nat), .int .i64 (rdV topI (rdL topI l) : Nat)] := by have := Kh3.set_ 5 (.int .i64 (rdV topI (rdL topI l) : Nat)); simpa using this
  have HK4 := Lib.hid Kh4
  have c1 := Kh3.c
  have f1 := Kh3.f
  have cz := Kh3.lt
  clear hg2 hp2 Kh3 Kh4 c0 c0'
  go_wp2_with fail
  go_end0
  exact ⟨rfl, HP2.out, HK4.out, HT2.out⟩

set_option maxHeartbeats 1000000 in
theorem cancel_any {g h : Nat} {l : List Nat} {bad : Bool} {k id u v q a : Int} (w : World) (hp : PC w g l bad) (hl : ∀ d ∈ l, d < 256) (hK : Blk w h 50 #[.int .i64 k, .int .i64 id, .int .i64 u, .int .i64 v, .int .i64 q, .int .i64 a]) (hne : g ≠ h) :
    Calls Try.prog 70 #[rdr g, .pointer (some ⟨h, 0, none⟩)] w fun e w' => e = .returned (.tuple #[]) ∧ PC w' g (rdL topI l) (rdB topI l bad) ∧
      Blk w' h 50 #[.int .i64 k, .int .i64 id, .int .i64 u, .int .i64 v, .int .i64 q, .int .i64 (rdV topI l : Nat)] ∧ Two w w' g h := by
  have HL := Lib.hid hl
  have HP := Lib.hid hp
  have HN := Lib.hid hne
  have hgl := hp.lt
  have hhl := hK.lt
  clear hl hp hne
  unfold rdr
  go_enter Try.func70, Try.ntmps70
  go_wp2_with fail
  refine (cint_any _ (HP.out.alloc _) HL.out).mono ?_
  rintro e w1 ⟨rfl, hp1, hg1⟩
  have Kh := (hK.alloc (.cells #[.pointer (some ⟨g, 0, none⟩), .func (Fn.func 28) #[.pointer (some ⟨g, 0, none⟩)] #[]] 103)).grown hg1 (by have := HN.out; simp; omega)
  have HT := Lib.hid ((((Two.refl w g h).alloc _).left hg1).right 5 (.int .i64 (rdV topI l : Nat)))
  have hp1' := hp1.apart Kh (NoU8.of (by simp)) (grown_set (i := 5) (grown_self w1 (some h)) (.int .i64 (rdV topI l : Nat))) HN.out
  have HP1 := Lib.hid hp1'
  have Kh2 : Blk (w1.setCell ⟨h, 5, none⟩ (.int .i64 (rdV topI l : Nat))) h 50 #[.int .i64 k, .int .i64 id, .int .i64 u, .int .i64 v, .int .i64 q, .int .i64 (rdV topI l : Nat)] := by have := Kh.set_ 5 (.int .i64 (rdV topI l : Nat)); simpa using this
  have HKH := Lib.hid Kh2
  have c1 := Kh.c
  have f1 := Kh.f
  have cz := Kh.lt
  clear hg1 hp1 hp1' Kh Kh2 hK
  go_wp2_with fail
  go_end0
  exact ⟨rfl, HP1.out, HKH.out, HT.out⟩

end Go.Proofs.Ytejijghghbicdaa
