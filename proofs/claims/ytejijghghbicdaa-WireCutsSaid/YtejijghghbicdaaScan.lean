/-
  Reading a number, as a plain function on lists of bytes: what is put is read; what is read was put; what is cut off is none.
-/
import Derived.Test.YtejijghghbicdaaPackLaw
namespace Go.Proofs.Ytejijghghbicdaa

/-- What comes of the k-th byte on, when x was read ahead of it: the number, and how many bytes it has. -/
def scan : Nat → Nat → List Nat → Option (Nat × Nat)
  | _, _, [] => none
  | k, x, d :: l =>
    if k = 9 ∧ 1 < d then none
    else if 128 ≤ d then scan (k + 1) (x + d % 128 * 128 ^ k) l
    else if 0 < k ∧ d = 0 then none
    else some (x + d % 128 * 128 ^ k, k + 1)

theorem pow9 : (128 : Nat) ^ 9 = 9223372036854775808 := by decide
theorem pow_le9 {k : Nat} (h : k ≤ 9) : 128 ^ k ≤ 9223372036854775808 := by
  have := Nat.pow_le_pow_right (n := 128) (by omega) h
  rwa [pow9] at this
theorem pow_pos128 (k : Nat) : 0 < 128 ^ k := Nat.pow_pos (by omega)

/-- What is put is read. -/
theorem scan_enc (m : Nat) : ∀ (k x : Nat) (rest : List Nat), k ≤ 9 → (k = 0 ∨ 0 < m) → m * 128 ^ k < 18446744073709551616 →
    scan k x (enc m ++ rest) = some (x + m * 128 ^ k, k + (enc m).length) := by
  induction m using Nat.strongRecOn with
  | ind m ih =>
    intro k x rest hk h0 hm
    rcases Nat.lt_or_ge m 128 with h | h
    · rw [enc_lo h]
      simp only [List.cons_append, List.nil_append, scan, List.length_cons, List.length_nil]
      have h9 : ¬ (k = 9 ∧ 1 < m) := by
        rintro ⟨rfl, h1⟩
        rw [pow9] at hm; omega
      rw [if_neg h9, if_neg (by omega), if_neg (by omega), Nat.mod_eq_of_lt h]
    · rw [enc_hi h]
      simp only [List.cons_append, scan, List.length_cons]
      have h9 : k ≠ 9 := by
        rintro rfl
        rw [pow9] at hm; omega
      rw [if_neg (by omega), if_pos (by omega)]
      have e : 128 ^ (k + 1) = 128 ^ k * 128 := Nat.pow_succ ..
      have hd : m = 128 * (m / 128) + m % 128 := (Nat.div_add_mod m 128).symm
      have e2 : m * 128 ^ k = m / 128 * 128 ^ (k + 1) + m % 128 * 128 ^ k := by
        rw [e]
        conv => lhs; rw [hd]
        rw [Nat.add_mul, Nat.mul_comm 128 (m / 128), Nat.mul_assoc, Nat.mul_comm 128 (128 ^ k)]
      rw [ih (m / 128) (by omega) (k + 1) _ rest (by omega) (by omega) (by omega)]
      have e3 : (m % 128 + 128) % 128 = m % 128 := by omega
      rw [e3, e2]
      congr 2
      · omega
      · omega

/-- What is read was put: in the shortest way. -/
theorem scan_inv (l : List Nat) : ∀ (k x y j : Nat), k ≤ 9 → (∀ d ∈ l, d < 256) → scan k x l = some (y, j) →
    ∃ m, y = x + m * 128 ^ k ∧ j = k + (enc m).length ∧ l = enc m ++ l.drop (j - k) ∧ (k = 0 ∨ 0 < m) ∧ m * 128 ^ k < 18446744073709551616 := by
  induction l with
  | nil => intro k x y j _ _ h; cases h
  | cons d l ih =>
    intro k x y j hk hb h
    have hd : d < 256 := hb d (List.mem_cons_self ..)
    unfold scan at h
    by_cases h9 : k = 9 ∧ 1 < d
    · rw [if_pos h9] at h; cases h
    rw [if_neg h9] at h
    by_cases h1 : 128 ≤ d
    · rw [if_pos h1] at h
      have hk8 : k ≤ 8 := by
        rcases Nat.lt_or_ge k 9 with h' | h'
        · omega
        · exact absurd ⟨by omega, by omega⟩ h9
      obtain ⟨m, rfl, rfl, hl, hm0, hm⟩ := ih (k + 1) _ y j (by omega) (fun d hd => hb d (List.mem_cons_of_mem _ hd)) h
      have hm1 : 0 < m := hm0.resolve_left (by omega)
      have e : 128 ^ (k + 1) = 128 ^ k * 128 := Nat.pow_succ ..
      have e4 : (m * 128 + d % 128) % 128 = d % 128 := by omega
      have e5 : (m * 128 + d % 128) / 128 = m := by omega
      have hen : enc (m * 128 + d % 128) = d :: enc m := by
        rw [enc_hi (by omega), e4, e5]
        congr 1; omega
      have e6 : (m * 128 + d % 128) * 128 ^ k = m * 128 ^ (k + 1) + d % 128 * 128 ^ k := by
        rw [Nat.add_mul, e, Nat.mul_assoc, Nat.mul_comm 128 (128 ^ k)]
      refine ⟨m * 128 + d % 128, by rw [e6]; omega, by rw [hen]; simp; omega, ?_, by omega, ?_⟩
      · rw [hen]
        have e7 : k + 1 + (enc m).length - k = (enc m).length + 1 := by omega
        rw [e7, List.drop_succ_cons, List.cons_append]
        congr 1
        have e8 : k + 1 + (enc m).length - (k + 1) = (enc m).length := by omega
        rw [e8] at hl
        exact hl
      · rw [e6]
        have h2 : m * 128 ^ (k + 1) + 128 ^ (k + 1) ≤ 18446744073709551616 := by
          have h3 : (m + 1) * 128 ^ (k + 1) ≤ 18446744073709551616 := by
            have h4 : 18446744073709551616 = 2 * 128 ^ (8 - k) * 128 ^ (k + 1) := by
              rw [Nat.mul_assoc, ← Nat.pow_add, show 8 - k + (k + 1) = 9 by omega, pow9]
            rw [h4] at hm ⊢
            exact Nat.mul_le_mul_right _ (Nat.lt_of_mul_lt_mul_right hm)
          rwa [Nat.add_mul, Nat.one_mul] at h3
        have h5 : d % 128 * 128 ^ k < 128 ^ (k + 1) := by
          rw [e, Nat.mul_comm]
          exact (Nat.mul_lt_mul_left (pow_pos128 k)).2 (by omega)
        omega
    · rw [if_neg h1] at h
      by_cases h2 : 0 < k ∧ d = 0
      · rw [if_pos h2] at h; cases h
      rw [if_neg h2] at h
      simp only [Option.some.injEq, Prod.mk.injEq] at h
      obtain ⟨rfl, rfl⟩ := h
      have hd2 : d % 128 = d := Nat.mod_eq_of_lt (by omega)
      refine ⟨d, by rw [hd2], by rw [enc_lo (by omega)]; rfl, by rw [enc_lo (by omega), show k + 1 - k = 1 by omega]; rfl, by omega, ?_⟩
      rcases Nat.lt_or_ge k 9 with h' | h'
      · have h6 : 128 ^ k ≤ 128 ^ 8 := Nat.pow_le_pow_right (by omega) (by omega)
        have h7 : d * 128 ^ k ≤ 128 * 128 ^ 8 := Nat.mul_le_mul (by omega) h6
        have h8 : (128 : Nat) * 128 ^ 8 = 9223372036854775808 := by decide
        omega
      · have : k = 9 := by omega
        subst this
        rw [pow9]
        have : d ≤ 1 := by omega
        omega

/-- A number: what scan reads from the first byte on. -/
theorem scan_of_enc {n : Nat} (h : W64 n) (rest : List Nat) : scan 0 0 (enc n ++ rest) = some (n, (enc n).length) := by
  have := scan_enc n 0 0 rest (by omega) (.inl rfl) (by rw [Nat.pow_zero, Nat.mul_one]; exact h)
  simpa using this
theorem enc_of_scan {l : List Nat} {n j : Nat} (hb : ∀ d ∈ l, d < 256) (h : scan 0 0 l = some (n, j)) : W64 n ∧ j = (enc n).length ∧ l = enc n ++ l.drop j := by
  obtain ⟨m, h1, h2, h3, _, h5⟩ := scan_inv l 0 0 n j (by omega) hb h
  simp at h1 h2 h5
  subst h1 h2
  exact ⟨h5, rfl, by simpa using h3⟩

/-- What is cut off is none. -/
theorem scan_cut (m : Nat) : ∀ (k x j : Nat), j < (enc m).length → scan k x ((enc m).take j) = none := by
  induction m using Nat.strongRecOn with
  | ind m ih =>
    intro k x j hj
    rcases Nat.lt_or_ge m 128 with h | h
    · rw [enc_lo h] at hj ⊢
      have : j = 0 := by simp at hj; omega
      subst this; rfl
    · rw [enc_hi h] at hj ⊢
      cases j with
      | zero => rfl
      | succ j =>
        simp only [List.take_succ_cons, scan]
        rw [ih (m / 128) (by omega) (k + 1) _ j (by simpa using hj)]
        split
        · rfl
        · rw [if_pos (by omega)]
end Go.Proofs.Ytejijghghbicdaa
