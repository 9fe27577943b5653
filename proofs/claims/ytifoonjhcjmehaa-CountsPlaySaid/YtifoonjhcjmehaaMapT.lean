/-
  The map of counts in memory: keyed by times, its numbers those of a list of counts.
-/
import Derived.Test.YtifoonjhcjmehaaCntLaw
import Derived.Test.YtifoonjhcjmehaaRow
import Derived.Maps.OwnSet
import Derived.Maps.RangeWalk
import Derived.DeepKeys4
namespace Go.Proofs.Ytifoonjhcjmehaa
open Go.RowKit Go.Maps Go.ChangeShapes
set_option linter.unusedSimpArgs false
set_option linter.unusedVariables false

theorem rowTime : (33 : TypeId) < Try.prog.types.size := of_decide_eq_true (by kernel_rfl)
theorem wideTime : (match Try.prog.underlying 33 with | some (.array _ _) | some (.struct _) => true | _ => false) = true := by kernel_rfl
set_option maxRecDepth 100000 in
theorem keyedT : Keyed Try.prog 33 := Keyed.of_law (deep_law_laid laidOut (m := 3) (by omega) rowTime (by kernel_rfl) wideTime)
def Tm.ok (t : Tm) : Prop := (Lit.int .i64 t.e).wf = true ∧ (Lit.int .i64 t.l).wf = true
def klT (t : Tm) : Lit := .string (keyBytes [.int .i64 t.e, .int .i64 t.l])
theorem keyLit_int (d : Nat) (x : Int) : Try.prog.keyLits (d + 1) 3 [.int .i64 x] = if (Lit.int .i64 x).wf = true then some [.int .i64 x] else none := by
  have hu : Try.prog.underlying 3 = some (.int .i64) := Try.underlying3
  unfold Program.keyLits
  rw [hu]
  simp
set_option maxRecDepth 100000 in
theorem keyLit_tm (d : Nat) (a b : Int) : Try.prog.keyLits (d + 1 + 1) 33 [.int .i64 a, .int .i64 b] = if (Lit.int .i64 a).wf = true ∧ (Lit.int .i64 b).wf = true then some [.int .i64 a, .int .i64 b] else none := by
  have hc : Try.prog.cellsOf 33 = 2 := by kernel_rfl
  have hci : Try.prog.cellsOf 3 = 1 := by kernel_rfl
  have h0 := keyLit_int d a
  have h1 := keyLit_int d b
  generalize d + 1 = d' at h0 h1 ⊢
  unfold Program.keyLits
  rw [Try.underlying33]
  simp [hc, hci, h0, h1]
  by_cases ha : (Lit.int .i64 a).wf = true <;> by_cases hb : (Lit.int .i64 b).wf = true <;> simp [ha, hb]
set_option maxRecDepth 100000 in
theorem keyOf_if (a b : Int) : keyOf Try.prog 33 (.agg #[.int .i64 a, .int .i64 b]) = if (Lit.int .i64 a).wf = true ∧ (Lit.int .i64 b).wf = true then some (.string (keyBytes [.int .i64 a, .int .i64 b])) else none := by
  have hk : Try.prog.keyType 33 = true := by kernel_rfl
  have hf : (Value.agg #[.int .i64 a, .int .i64 b]).formed Try.prog 33 = true := by kernel_rfl
  have hs : Try.prog.types.size + 1 = 123 + 1 + 1 := by kernel_rfl
  have hv : (Value.agg #[.int .i64 a, .int .i64 b]).cells.toList = [.int .i64 a, .int .i64 b] := rfl
  unfold keyOf
  rw [Try.underlying33]
  simp only [hk, hf, Bool.and_self, if_true, hs, hv, keyLit_tm]
  by_cases ha : (Lit.int .i64 a).wf = true <;> by_cases hb : (Lit.int .i64 b).wf = true <;> simp [ha, hb]
theorem keyT {t : Tm} (h : t.ok) : keyOf Try.prog 33 (tmv t) = some (klT t) := by
  rw [show tmv t = .agg #[.int .i64 t.e, .int .i64 t.l] from rfl, keyOf_if]; exact if_pos h
theorem klT_inj {s t : Tm} (hs : s.ok) (ht : t.ok) (h : klT s = klT t) : s = t := by
  have := keyedT.inj (keyT hs) (h ▸ keyT ht)
  injection this with e
  have e1 : ([Value.int .i64 s.e, .int .i64 s.l] : List Value) = [.int .i64 t.e, .int .i64 t.l] := congrArg Array.toList e
  simp at e1
  exact Tm.ext_ e1.1 e1.2
theorem keyLit_inv {d : Nat} {x : Value} {ls : List Lit} (h : Try.prog.keyLits (d + 1) 3 [x] = some ls) : ∃ n, x = .int .i64 n := by
  have hu : Try.prog.underlying 3 = some (.int .i64) := Try.underlying3
  unfold Program.keyLits at h
  rw [hu] at h
  cases x <;> simp at h
  exact ⟨_, by rw [h.1.1]⟩
set_option maxRecDepth 100000 in
theorem keyT_inv {key : Value} {kl : Lit} (h : keyOf Try.prog 33 key = some kl) : ∃ t : Tm, key = tmv t ∧ t.ok ∧ kl = klT t := by
  have hc : Try.prog.cellsOf 33 = 2 := by kernel_rfl
  have hci : Try.prog.cellsOf 3 = 1 := by kernel_rfl
  have hs : Try.prog.types.size + 1 = 123 + 1 + 1 := by kernel_rfl
  have hshape : ∃ x0 x1, key = .agg #[x0, x1] := by
    have hf : key.formed Try.prog 33 = true := by
      unfold keyOf at h
      rw [Try.underlying33] at h
      simp only at h
      split at h
      · rename_i hh; exact (Bool.and_eq_true _ _ ▸ hh).2
      · cases h
    unfold Value.formed at hf
    rw [Try.underlying33] at hf
    cases key <;> simp [hc] at hf
    rename_i xs
    obtain ⟨xl⟩ := xs
    match xl, hf with
    | [x0, x1], _ => exact ⟨x0, x1, rfl⟩
  obtain ⟨x0, x1, rfl⟩ := hshape
  have hints : (∃ n, x0 = .int .i64 n) ∧ ∃ n, x1 = .int .i64 n := by
    unfold keyOf at h
    rw [Try.underlying33] at h
    simp only at h
    split at h
    · have hv : (Value.agg #[x0, x1]).cells.toList = [x0, x1] := rfl
      rw [hs, hv] at h
      cases hk : Try.prog.keyLits (123 + 1 + 1) 33 [x0, x1] with
      | none => rw [hk] at h; cases h
      | some ls =>
        have i0 := @keyLit_inv 123 x0
        have i1 := @keyLit_inv 123 x1
        generalize 123 + 1 = d' at hk i0 i1
        unfold Program.keyLits at hk
        rw [Try.underlying33] at hk
        simp [hc, hci] at hk
        cases k0 : Try.prog.keyLits d' 3 [x0] with
        | none => simp [k0] at hk
        | some l0 =>
          cases k1 : Try.prog.keyLits d' 3 [x1] with
          | none => simp [k0, k1] at hk
          | some l1 => exact ⟨i0 k0, i1 k1⟩
    · cases h
  obtain ⟨⟨a, rfl⟩, ⟨b, rfl⟩⟩ := hints
  rw [keyOf_if] at h
  split at h
  · rename_i hw
    exact ⟨⟨a, b⟩, rfl, hw, by injection h with h; exact h.symm⟩
  · cases h

abbrev nI (n : Int) : DataW Unit := .lit (.int .i64 n)
/-- What a map reads as is a list of counts. -/
structure Rep (D : DataW Unit) (L : Cnt) : Prop where
  look : ∀ t : Tm, t.ok → D.atKey (klT t) (nI 0) = nI (ofL L t)
  has : ∀ t : Tm, t.ok → Maps.has D (klT t) = decide (ofL L t ≠ 0)
theorem Rep.nil : Rep (.map []) [] := ⟨fun t _ => rfl, fun t _ => rfl⟩
theorem isKeyT {t : Tm} (h : t.ok) : WideAt.IsKeyLit (klT t) := keyedT.key (keyT h)
theorem Rep.put {D : DataW Unit} {L : Cnt} (h : Rep D L) (hD : Maps.IsMap D) (hc : Canon L) {t : Tm} (ht : t.ok) {v : Int} (hv : v ≠ 0) : Rep (D.put (klT t) (nI v)) (setL t v L) := by
  refine ⟨fun s hs => ?_, fun s hs => ?_⟩
  · rw [ofL_setL hc]
    by_cases e : s = t
    · subst e; rw [Maps.atKey_put_same hD (isKeyT hs), if_pos rfl]
    · rw [Maps.atKey_put_other (fun h => e (klT_inj hs ht h)), if_neg e]; exact h.look s hs
  · rw [ofL_setL hc]
    by_cases e : s = t
    · subst e; rw [Maps.has_put_same hD (isKeyT hs), if_pos rfl]; simp [hv]
    · rw [Maps.has_put_other (fun h => e (klT_inj hs ht h)), if_neg e]; exact h.has s hs
theorem Rep.put_del {D : DataW Unit} {L : Cnt} (h : Rep D L) (hc : Canon L) {t : Tm} (ht : t.ok) {d : DataW Unit} : Rep ((D.put (klT t) d).del (klT t)) (setL t 0 L) := by
  refine ⟨fun s hs => ?_, fun s hs => ?_⟩
  · rw [ofL_setL hc]
    by_cases e : s = t
    · subst e; rw [Maps.atKey_del_same, if_pos rfl]
    · have hne : klT s ≠ klT t := fun h => e (klT_inj hs ht h)
      rw [Maps.atKey_del_other hne, Maps.atKey_put_other hne, if_neg e]; exact h.look s hs
  · rw [ofL_setL hc]
    by_cases e : s = t
    · subst e; rw [Maps.has_del_same, if_pos rfl]; simp
    · have hne : klT s ≠ klT t := fun h => e (klT_inj hs ht h)
      rw [Maps.has_del_other hne, Maps.has_put_other hne, if_neg e]; exact h.has s hs

abbrev OwnsT (w : World) (b N : Nat) (D : DataW Unit) : Prop := w.ownsMap Try.prog 33 (plainElem Try.prog 3) b N D
def OkL (L : Cnt) : Prop := ∀ p ∈ L, p.1.ok
/-- The map of counts in block b. -/
def MapT (w : World) (b N : Nat) (L : Cnt) : Prop := ∃ D : DataW Unit, OwnsT w b N D ∧ Rep D L
/-- .. as a value: nil, or a block. -/
def MV (w : World) (m : Option Nat) (N : Nat) (L : Cnt) : Prop := (m = none ∧ L = []) ∨ ∃ b, m = some b ∧ MapT w b N L
section
variable {w w' : World} {b N : Nat} {L : Cnt} {m : Option Nat}
theorem MapT.lt (h : MapT w b N L) : b < w.heap.size := h.choose_spec.1.lt
theorem MapT.touch {gs : List Nat} (h : MapT w b N L) (ht : Touch gs w w') (hg : b ∉ gs) : MapT w' b N L := by
  obtain ⟨D, ho, hr⟩ := h
  refine ⟨D, ?_, hr⟩
  have hlt := ho.lt
  obtain ⟨es, clock, hb, F, hs, hD⟩ := ho
  exact ⟨es, clock, (ht.block b hlt hg).trans hb, F, hs, hD⟩
theorem MapT.on (h : MapT w b N L) (hb : Below w.heap.size w w') : MapT w' b N L := h.touch (gs := []) (Touch.of_below hb (Nat.le_refl _)) (by simp)
theorem MV.touch {gs : List Nat} (h : MV w m N L) (ht : Touch gs w w') (hg : ∀ b, m = some b → b ∉ gs) : MV w' m N L := by
  rcases h with h | ⟨b, rfl, h⟩
  · exact .inl h
  · exact .inr ⟨b, rfl, h.touch ht (hg b rfl)⟩
theorem MV.on (h : MV w m N L) (hb : Below w.heap.size w w') : MV w' m N L := h.touch (gs := []) (Touch.of_below hb (Nat.le_refl _)) (by simp)
theorem MV.drewN (h : MV w m N L) (n : Nat) : MV (w.drewN n) m N L := h.touch (gs := []) ((Touch.refl [] w).drewN n) (by simp)
theorem MV.lt (h : MV w m N L) : ∀ b, m = some b → b < w.heap.size := by
  rintro b rfl
  rcases h with ⟨h, _⟩ | ⟨b', h, hm⟩
  · cases h
  · cases h; exact hm.lt
theorem zero64 (w : World) : (zeroValue 3).run Try.prog w = .ok (.int .i64 0) w := by kernel_rfl
theorem MV.look (h : MV w m N L) {t : Tm} (ht : t.ok) : (Instr.lookup 24 (.map m) (.agg #[.int .i64 t.e, .int .i64 t.l]) false).run Try.prog w = .ok (.int .i64 (ofL L t)) w := by
  rcases h with ⟨rfl, rfl⟩ | ⟨b, rfl, D, ho, hr⟩
  · exact Maps.look_nil false keyedT Try.underlying24 (zero64 w) (keyT ht)
  · obtain ⟨c, hrun, hat, _⟩ := ho.lookup_int keyedT Try.underlying24 Try.underlying3 (zero64 w) (keyT ht)
    rw [hr.look t ht] at hat
    have hc : ofL L t = c := by
      have := DataW.lit.inj hat
      exact (Lit.int.inj this).2
    rw [hc]
    exact hrun
theorem MapT.store (h : MapT w b N L) (hN : N < maxLen) {t : Tm} (ht : t.ok) {v : Int} (hv : (Lit.int .i64 v).wf = true) :
    ∃ w' D, OwnsT w b N D ∧ Rep D L ∧ (Instr.mapUpdate 24 (.map (some b)) (.agg #[.int .i64 t.e, .int .i64 t.l]) (.int .i64 v)).run Try.prog w = .ok () w' ∧ OwnsT w' b (N + 1) (D.put (klT t) (nI v)) ∧ w.grownBy w' (some b) ∧ w'.heap.size = w.heap.size := by
  obtain ⟨D, ho, hr⟩ := h
  obtain ⟨w', hrun, ho', hg⟩ := ho.store keyedT Try.underlying24 hN (keyT ht) (plainElem_int Try.underlying3 hv)
  refine ⟨w', D, ho, hr, hrun, ho', hg.grown, ?_⟩
  obtain ⟨es, c, es', c', _, rfl⟩ := hg
  simp [Go.ChangeMaps.setBlock]
theorem OwnsT.del {D : DataW Unit} (ho : OwnsT w b N D) {t : Tm} (ht : t.ok) (ty : TypeId) :
    ∃ w', (Builtin.delete_ #[24, 33] ty #[.map (some b), .agg #[.int .i64 t.e, .int .i64 t.l]]).run Try.prog w = .ok (.tuple #[]) w' ∧ OwnsT w' b N (D.del (klT t)) ∧ w.grownBy w' (some b) := by
  obtain ⟨w', hrun, ho', hg⟩ := ho.drop keyedT Try.underlying24 (keyT ht) ty
  exact ⟨w', hrun, ho', hg.grown⟩
end
end Go.Proofs.Ytifoonjhcjmehaa
