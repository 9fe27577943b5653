/-
  What is read as a reply, as a batch, in one word for good bytes and bad ones.
-/
import Derived.Test.YtejijghghbicdaaWireRReadRep
namespace Go.Proofs.Ytejijghghbicdaa
open Go.RowKit
set_option linter.unusedSimpArgs false
set_option linter.unusedVariables false

def Rep.none_ : Rep := ⟨0, 0, false, []⟩
def Bat.none_ : Bat := ⟨0, 0, []⟩
def repRes (xs : List Nat) : Rep × Int := match readRep xs with | some r => (r, 0) | none => (Rep.none_, 4)
def batRes (xs : List Nat) : Bat × Int := match readBat xs with | some r => (r, 0) | none => (Bat.none_, 4)
theorem repRes_count (xs : List Nat) : (repRes xs).1.ps.length ≤ xs.length + 1 := by
  unfold repRes
  cases h : readRep xs with
  | none => simp [Rep.none_]
  | some r => have := (readRep_inv h).1; rw [this]; exact rpP_count xs
theorem batRes_count (xs : List Nat) : (batRes xs).1.ps.length ≤ xs.length + 1 := by
  unfold batRes
  cases h : readBat xs with
  | none => simp [Bat.none_]
  | some r =>
    have : r = (btP xs).1 := by unfold readBat at h; split at h <;> simp_all
    rw [this]; exact btP_count xs
def RepRes (w : World) (xs : List Nat) (e : Ending) (w' : World) : Prop :=
  ∃ A m c, e = .returned (.tuple #[.agg #[.int .i64 (repRes xs).1.id, .int .i64 (repRes xs).1.e, .bool (repRes xs).1.d, .slice A m c], .int .i64 (repRes xs).2]) ∧ Reads w' w'.heap.size 2 A m (prCells (repRes xs).1.ps) ∧ m ≤ 900001 ∧ Below w.heap.size w w'
def BatRes (w : World) (xs : List Nat) (e : Ending) (w' : World) : Prop :=
  ∃ A m c, e = .returned (.tuple #[.agg #[.int .i64 (batRes xs).1.r, .int .i64 (batRes xs).1.s, .slice A m c], .int .i64 (batRes xs).2]) ∧ Reads w' w'.heap.size 2 A m (prCells (batRes xs).1.ps) ∧ m ≤ 900001 ∧ Below w.heap.size w w'
theorem repRes_of {w : World} {xs : List Nat} {e : Ending} {w' : World} (hl : xs.length ≤ 900000) (h : RepPost w xs e w') : RepRes w xs e w' := by
  obtain ⟨hb, ⟨hn, rfl⟩ | ⟨r, A, n, c, hr, rfl, hR⟩⟩ := h
  · have e : repRes xs = (Rep.none_, 4) := by unfold repRes; rw [hn]
    unfold RepRes
    rw [e]
    exact ⟨none, 0, 0, rfl, Reads.none_, by omega, hb⟩
  · have e : repRes xs = (r, 0) := by unfold repRes; rw [hr]
    have hc := repRes_count xs
    unfold RepRes
    rw [e] at hc ⊢
    exact ⟨A, n, c, rfl, hR, by have := reads_plen hR; simp only at hc; omega, hb⟩
theorem batRes_of {w : World} {xs : List Nat} {e : Ending} {w' : World} (hl : xs.length ≤ 900000) (h : BatPost w xs e w') : BatRes w xs e w' := by
  obtain ⟨hb, ⟨hn, rfl⟩ | ⟨r, A, n, c, hr, rfl, hR⟩⟩ := h
  · have e : batRes xs = (Bat.none_, 4) := by unfold batRes; rw [hn]
    unfold BatRes
    rw [e]
    exact ⟨none, 0, 0, rfl, Reads.none_, by omega, hb⟩
  · have e : batRes xs = (r, 0) := by unfold batRes; rw [hr]
    have hc := batRes_count xs
    unfold BatRes
    rw [e] at hc ⊢
    exact ⟨A, n, c, rfl, hR, by have := reads_plen hR; simp only at hc; omega, hb⟩
section
variable {B n c : Nat} {A : Option Addr} {xs : List Nat} (w : World) (hx : Reads w B 1 A n (u8s xs)) (hB : B ≤ w.heap.size) (hxs : ∀ x ∈ xs, x < 256) (hn : n ≤ 900000)
include hx hB hxs hn
theorem readrep_res : Calls Try.prog 46 #[.slice A n c] w (RepRes w xs) :=
  (readrep_main w (hx.more hB) hxs hn).mono fun _ _ h => repRes_of (by have : xs.length = n := (by simpa using hx.1); omega) h
theorem rreadrep_res : Calls Try.prog 47 #[.slice A n c] w (RepRes w xs) :=
  (rreadrep_main w (hx.more hB) hxs hn).mono fun _ _ h => repRes_of (by have : xs.length = n := (by simpa using hx.1); omega) h
theorem readbat_res : Calls Try.prog 43 #[.slice A n c] w (BatRes w xs) :=
  (readbat_main w (hx.more hB) hxs hn).mono fun _ _ h => batRes_of (by have : xs.length = n := (by simpa using hx.1); omega) h
theorem rreadbat_res : Calls Try.prog 48 #[.slice A n c] w (BatRes w xs) :=
  (rreadbat_main w (hx.more hB) hxs hn).mono fun _ _ h => batRes_of (by have : xs.length = n := (by simpa using hx.1); omega) h
end
end Go.Proofs.Ytejijghghbicdaa
