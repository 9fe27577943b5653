/-
  The cursor of package pack, by contracts: New, Word, Int, Left, Bad, End.
-/
import Derived.Test.YtejijghghbicdaaCursor
namespace Go.Proofs.Ytejijghghbicdaa
open Go.RowKit

/-- What a read of the next number, not above top, makes of the bytes that are left. -/
def rd (top : Nat) (l : List Nat) : Option (Nat × List Nat) :=
  match scan 0 0 l with
  | some (y, j) => if y ≤ top then some (y, l.drop j) else none
  | none => none
def rdV (top : Nat) (l : List Nat) : Nat := ((rd top l).map (·.1)).getD 0
def rdL (top : Nat) (l : List Nat) : List Nat := ((rd top l).map (·.2)).getD []
def rdB (top : Nat) (l : List Nat) (bad : Bool) : Bool := if (rd top l).isSome then bad else true
theorem rd_of {top : Nat} {l : List Nat} {y j : Nat} (h : scan 0 0 l = some (y, j)) (hy : y ≤ top) : rd top l = some (y, l.drop j) := by simp [rd, h, hy]
theorem rd_none {top : Nat} {l : List Nat} (h : ∀ y j, scan 0 0 l = some (y, j) → top < y) : rd top l = none := by
  unfold rd
  split
  · rename_i y j hs
    rw [if_neg (by have := h y j hs; omega)]
  · rfl
theorem rdL_byte {top : Nat} {l : List Nat} (h : ∀ d ∈ l, d < 256) : ∀ d ∈ rdL top l, d < 256 := by
  intro d hd
  unfold rdL rd at hd
  split at hd
  · split at hd
    · exact h d (List.mem_of_mem_drop (by simpa using hd))
    · simp at hd
  · simp at hd

/-- number, in one word. -/
theorem num_any {g : Nat} {l : List Nat} {bad : Bool} {top : Nat} (w : World) (h : PC w g l bad) (hl : ∀ d ∈ l, d < 256) :
    Calls Try.prog 51 #[.pointer (some ⟨g, 0, none⟩), .int .u64 (top : Nat)] w fun e w' => e = .returned (.int .u64 (rdV top l : Nat)) ∧ PC w' g (rdL top l) (rdB top l bad) ∧ w.grownBy w' (some g) := by
  refine (number_any w h hl).mono ?_
  rintro e w' ⟨hg, ⟨y, j, hs, hy, rfl, hp⟩ | ⟨hs, rfl, hp⟩⟩
  · have := rd_of hs hy
    simp only [rdV, rdL, rdB, this, Option.map_some, Option.getD_some, Option.isSome_some, if_true]
    first | exact ⟨rfl, hp, hg⟩ | exact ⟨trivial, hp, hg⟩
  · have := rd_none hs
    simp only [rdV, rdL, rdB, this, Option.map_none, Option.getD_none, Option.isSome_none, Bool.false_eq_true, if_false]
    first | exact ⟨rfl, hp, hg⟩ | exact ⟨trivial, hp, hg⟩

set_option maxHeartbeats 400000 in
theorem cleft_any {g : Nat} {l : List Nat} {bad : Bool} (w : World) (h : PC w g l bad) :
    Calls Try.prog 25 #[.pointer (some ⟨g, 0, none⟩)] w fun e w' => e = .returned (.int .i64 (l.length : Nat)) ∧ w = w' := by
  obtain ⟨A, n, c, hB, hR, hn, hc⟩ := h
  have c0 := hB.c
  have hl : n = l.length := by have := hR.1; simpa using this.symm
  have HL := Lib.hid hl
  clear hl
  go_enter Try.func25, Try.ntmps25
  go_wp2
  go_ret
  exact ⟨by rw [← HL.out]; rfl, rfl⟩
set_option maxHeartbeats 400000 in
theorem cbad_any {g : Nat} {l : List Nat} {bad : Bool} (w : World) (h : PC w g l bad) :
    Calls Try.prog 27 #[.pointer (some ⟨g, 0, none⟩)] w fun e w' => e = .returned (.bool bad) ∧ w = w' := by
  obtain ⟨A, n, c, hB, hR, hn, hc⟩ := h
  have c0 := hB.c
  go_enter Try.func27, Try.ntmps27
  go_wp2
  go_ret
  exact ⟨rfl, rfl⟩
set_option maxHeartbeats 400000 in
theorem cend_any {g : Nat} {l : List Nat} {bad : Bool} (w : World) (h : PC w g l bad) :
    Calls Try.prog 26 #[.pointer (some ⟨g, 0, none⟩)] w fun e w' => e = .returned (.bool (!bad && l.isEmpty)) ∧ w = w' := by
  obtain ⟨A, n, c, hB, hR, hn, hc⟩ := h
  have c0 := hB.c
  have hl : n = l.length := by have := hR.1; simpa using this.symm
  have HL := Lib.hid hl
  clear hl
  cases bad
  · by_cases h0 : n = 0
    · have hb : ((n : Int) == 0) = true := by simp [h0]
      have he := Lib.hid (show l.isEmpty = true by rw [List.isEmpty_iff_length_eq_zero, ← HL.out]; exact h0)
      clear h0
      go_enter Try.func26, Try.ntmps26
      go_wp2
      go_ret
      exact ⟨by rw [he.out]; rfl, rfl⟩
    · have hb : ((n : Int) == 0) = false := by simp [h0]
      have he := Lib.hid (show l.isEmpty = false by have := HL.out; cases l <;> simp_all)
      clear h0
      go_enter Try.func26, Try.ntmps26
      go_wp2
      go_ret
      exact ⟨by rw [he.out]; rfl, rfl⟩
  · go_enter Try.func26, Try.ntmps26
    go_wp2
    go_ret
    exact ⟨rfl, rfl⟩

set_option maxHeartbeats 400000 in
theorem new_any {B : Nat} {A : Option Addr} {n c : Nat} {xs : List Nat} (w : World) (hx : Reads w B 1 A n (u8s xs)) (hB : B ≤ w.heap.size) (hn : n ≤ 1000000000) :
    Calls Try.prog 23 #[.slice A n c] w fun e w' => ∃ g, e = .returned (.pointer (some ⟨g, 0, none⟩)) ∧ w.heap.size ≤ g ∧ PC w' g xs false ∧ Below w.heap.size w w' := by
  go_enter Try.func23, Try.ntmps23
  go_wp2_with fail
  refine (clone_any _ hx hB (by omega)).mono ?_
  rintro e w1 ⟨v, rfl, hown, hb⟩
  obtain ⟨A1, c1, rfl⟩ := own_form hown
  have hz := hb.size
  go_wp2_with fail
  go_ret
  refine ⟨w1.heap.size, rfl, hb.size, ⟨A1, n, c1, Blk.at_ _ _ _ rfl, (Reads.of_own hown).alloc (Nat.le_refl _) _, ?_, ?_⟩, hb.alloc hb.size _⟩
  · rcases hown.2 with ⟨e, h0⟩ | ⟨g, cap, cur, e, _, _, h1, _⟩
    · omega
    · injection e with _ _ e3; omega
  · rcases hown.2 with ⟨e, h0⟩ | ⟨g, cap, cur, e, _, _, h1, h2, _⟩
    · injection e with _ _ e3; omega
    · injection e with _ _ e3; omega

def topW : Nat := 18446744073709551615
def topI : Nat := 9223372036854775807
set_option maxHeartbeats 400000 in
theorem below_any {g : Nat} {l : List Nat} {bad : Bool} {top : Nat} (w : World) (h : PC w g l bad) (hl : ∀ d ∈ l, d < 256) :
    Calls Try.prog 50 #[.func (Fn.func 51) #[.pointer (some ⟨g, 0, none⟩)] #[], .int .u64 (top : Nat)] w fun e w' => e = .returned (.int .u64 (rdV top l : Nat)) ∧ PC w' g (rdL top l) (rdB top l bad) ∧ w.grownBy w' (some g) := by
  have hP := Lib.hid h
  have hL := Lib.hid hl
  clear h hl
  go_enter Try.func50, Try.ntmps50
  go_wp2_with (go_at_call 51; refine (num_any _ hP.out hL.out).mono ?_; rintro e w1 ⟨rfl, hp, hg⟩)
  go_ret
  exact ⟨rfl, hp, hg⟩
theorem topW_cast : ((topW : Nat) : Int) = 18446744073709551615 := by simp only [topW]; omega
theorem topI_cast : ((topI : Nat) : Int) = 9223372036854775807 := by simp only [topI]; omega
theorem rdV_le (top : Nat) (l : List Nat) : rdV top l ≤ top := by
  unfold rdV rd
  split
  · split
    · simpa
    · simp
  · simp
set_option maxHeartbeats 1000000 in
theorem cword_any {g : Nat} {l : List Nat} {bad : Bool} (w : World) (h : PC w g l bad) (hl : ∀ d ∈ l, d < 256) :
    Calls Try.prog 24 #[.pointer (some ⟨g, 0, none⟩)] w fun e w' => e = .returned (.int .u64 (rdV topW l : Nat)) ∧ PC w' g (rdL topW l) (rdB topW l bad) ∧ w.grownBy w' (some g) := by
  have hP := Lib.hid h
  have hL := Lib.hid hl
  clear h hl
  go_enter Try.func24, Try.ntmps24
  go_wp2_with fail
  rw [← topW_cast]
  refine (below_any (top := topW) _ hP.out hL.out).mono ?_
  rintro e w1 ⟨rfl, hp, hg⟩
  go_wp2_with fail
  go_ret
  exact ⟨rfl, hp, hg⟩
set_option maxHeartbeats 1000000 in
theorem cint_any {g : Nat} {l : List Nat} {bad : Bool} (w : World) (h : PC w g l bad) (hl : ∀ d ∈ l, d < 256) :
    Calls Try.prog 28 #[.pointer (some ⟨g, 0, none⟩)] w fun e w' => e = .returned (.int .i64 (rdV topI l : Nat)) ∧ PC w' g (rdL topI l) (rdB topI l bad) ∧ w.grownBy w' (some g) := by
  have hP := Lib.hid h
  have hL := Lib.hid hl
  clear h hl
  go_enter Try.func28, Try.ntmps28
  go_wp2_with fail
  rw [← topI_cast]
  refine (below_any (top := topI) _ hP.out hL.out).mono ?_
  rintro e w1 ⟨rfl, hp, hg⟩
  obtain ⟨v, hv⟩ : ∃ v, v = rdV topI l := ⟨_, rfl⟩
  have HV := Lib.hid (show (v : Int) ≤ 9223372036854775807 by rw [hv, ← topI_cast]; have := rdV_le topI l; omega)
  rw [← hv]
  have HE := Lib.hid hv
  clear hv
  go_wp2_with fail
  go_ret
  refine ⟨?_, hp, hg⟩
  show Ending.returned (.int .i64 (wrap64 (v : Int))) = _
  have hv1 := HV.out
  rw [IntWalk.wrap64_in (v : Int) ⟨by omega, by omega⟩, HE.out]
end Go.Proofs.Ytejijghghbicdaa
