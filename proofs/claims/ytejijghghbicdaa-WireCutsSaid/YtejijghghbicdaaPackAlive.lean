/-
  The document's example of chapter 1: Word of nil and 300 is the bytes 172, 2.
-/
import Derived.Test.YtejijghghbicdaaPackRef
namespace Go.Proofs.Ytejijghghbicdaa
open Go.RowKit

theorem enc300 : encs [300] = [172, 2] := by
  have h1 : enc 300 = 172 :: enc 2 := by rw [enc_hi (by omega)]
  rw [encs_cons, encs_nil, h1, enc_lo (by omega)]; rfl
theorem str172 : strOf [172, 2] = ⟨#[172, 2]⟩ := by decide +kernel
theorem reads_nil (w : World) (B : Nat) (A : Option Addr) : Reads w B 1 A 0 [] := ⟨by simp, fun h => absurd h (by omega)⟩
theorem reads_one (w : World) (v : Value) (t : TypeId) : Reads (w.alloc (.cells #[v] t)) (w.heap.size + 1) 1 (some ⟨w.heap.size, 0, none⟩) 1 [v] :=
  ⟨rfl, fun _ => ⟨_, rfl, by simp, cell_one_new w v t⟩⟩
/-- What a call hands over, as a slice that reads as a list. -/
theorem gets {P : Program} {f : FuncId} {args : Array Value} {w : World} {B e n : Nat} {xs : List Value}
    (h : Calls P f args w fun en w' => ∃ v, en = .returned v ∧ w'.ownsRow B e 1 v n xs ∧ Below w.heap.size w w') :
    Calls P f args w fun en w' => ∃ A r q, en = .returned (.slice A r q) ∧ Reads w' w'.heap.size 1 A r xs ∧ Below w.heap.size w w' :=
  h.mono fun _ w' ⟨v, he, ho, hb⟩ => by
    obtain ⟨A, q, rfl⟩ := own_form ho
    exact ⟨A, n, q, he, Reads.of_own ho, hb⟩
/-- A string of bytes that a call has made. -/
theorem own_str {w : World} {B e n : Nat} {v : Value} {l : List Nat} (h : w.ownsRow B e 1 v n (u8s l)) : (convert 22 9 v).run Try.prog w = .ok (.string (strOf l)) w := by
  obtain ⟨A, c, rfl⟩ := own_form h
  exact run_str w _ _ _ Try.underlying22 Try.underlying5 Try.underlying9 (Reads.of_own h)

set_option maxHeartbeats 1000000 in
theorem alive1_any (w : World) :
    Calls Try.prog 18 #[] w fun e w' => e = .returned (.bool true) ∧ Below w.heap.size w w' := by
  go_enter Try.func18, Try.ntmps18
  go_wp2_with fail
  refine (word_any (B := w.heap.size + 1) (xs := []) (ys := [300]) _ (reads_nil _ _ _) (reads_one w (.int .u64 300) 33) (by simp) (by intro y hy; simp at hy; subst hy; unfold W64; omega) (by omega) (by omega)).mono ?_
  rintro e w1 ⟨v, rfl, hown, hb⟩
  have hc := own_str hown
  rw [List.nil_append, enc300, str172] at hc
  clear hown
  go_wp2_with fail
  go_ret
  refine ⟨rfl, ?_⟩
  repeat (first | exact Below.refl _ _ | refine Below.setCell ?_ (by first | omega | (simp; done) | (simp; omega)) _ | refine Below.alloc ?_ (by first | omega | (simp; done) | (simp; omega)) _ | refine Below.drew ?_ | refine below_drewN ?_ _ | refine below_after ?_ (by assumption) (by first | omega | (simp; done) | (simp; omega)))
end Go.Proofs.Ytejijghghbicdaa
