/-
  The document's encoding of numbers, as plain lists: no program in sight.
-/
import Derived.Test.YtejijghghbicdaaSlices
namespace Go.Proofs.Ytejijghghbicdaa

/-- A number of 64 bits. -/
def W64 (n : Nat) : Prop := n < 18446744073709551616
/-- A number's bytes: seven bits a byte, the least first; all but the last one have the highest bit. -/
def enc (n : Nat) : List Nat := if h : n < 128 then [n] else (n % 128 + 128) :: enc (n / 128)
termination_by n
decreasing_by omega
theorem enc_lo {n : Nat} (h : n < 128) : enc n = [n] := by rw [enc]; simp [h]
theorem enc_hi {n : Nat} (h : 128 ≤ n) : enc n = (n % 128 + 128) :: enc (n / 128) := by
  rw [enc]; simp [show ¬ n < 128 by omega]
theorem enc_byte (n : Nat) : ∀ x ∈ enc n, x < 256 := by
  induction n using Nat.strongRecOn with
  | ind n ih =>
    intro x hx
    rcases Nat.lt_or_ge n 128 with h | h
    · rw [enc_lo h] at hx; simp at hx; omega
    · rw [enc_hi h] at hx
      rcases List.mem_cons.1 hx with e | e
      · omega
      · exact ih (n / 128) (by omega) x e
theorem enc_pos (n : Nat) : 0 < (enc n).length := by
  rcases Nat.lt_or_ge n 128 with h | h
  · simp [enc_lo h]
  · simp [enc_hi h]
theorem enc_len (k : Nat) : ∀ n, n < 128 ^ (k + 1) → (enc n).length ≤ k + 1 := by
  induction k with
  | zero => intro n h; rw [enc_lo (by simpa using h)]; simp
  | succ k ih =>
    intro n h
    rcases Nat.lt_or_ge n 128 with h1 | h1
    · rw [enc_lo h1]; simp
    · rw [enc_hi h1]
      have h2 : n / 128 < 128 ^ (k + 1) := by rw [Nat.div_lt_iff_lt_mul (by omega)]; rwa [Nat.pow_succ] at h
      have := ih _ h2
      simp; omega
theorem enc_len10 {n : Nat} (h : n < 18446744073709551616) : (enc n).length ≤ 10 := by
  have h2 : n < 128 ^ (9 + 1) := Nat.lt_trans h (by decide)
  exact enc_len 9 n h2
def encs (l : List Nat) : List Nat := l.flatMap enc
theorem encs_nil : encs [] = [] := rfl
theorem encs_cons (a : Nat) (l : List Nat) : encs (a :: l) = enc a ++ encs l := by simp [encs]
theorem encs_snoc (l : List Nat) (a : Nat) : encs (l ++ [a]) = encs l ++ enc a := by simp [encs]
theorem encs_append (l m : List Nat) : encs (l ++ m) = encs l ++ encs m := by simp [encs]
theorem encs_byte (l : List Nat) : ∀ x ∈ encs l, x < 256 := by
  intro x hx
  obtain ⟨a, _, h⟩ := List.mem_flatMap.1 hx
  exact enc_byte a x h
theorem encs_len (l : List Nat) (h : ∀ y ∈ l, y < 18446744073709551616) : (encs l).length ≤ 10 * l.length := by
  induction l with
  | nil => simp [encs]
  | cons a l ih =>
    rw [encs_cons]
    have h1 := enc_len10 (h a (List.mem_cons_self ..))
    have h2 := ih fun y hy => h y (List.mem_cons_of_mem _ hy)
    simp; omega
theorem take_snoc_ {α : Type} (l : List α) (k : Nat) (h : k < l.length) : l.take (k + 1) = l.take k ++ [l[k]] := by
  rw [List.take_succ_eq_append_getElem h]
end Go.Proofs.Ytejijghghbicdaa
