/-
  Counts: Of and Add, by contracts.
-/
import Derived.Test.YtifoonjhcjmehaaMapT
import Derived.Test.YtifoonjhcjmehaaMin
import Derived.BigRegion
namespace Go.Proofs.Ytifoonjhcjmehaa
open Go.RowKit
set_option linter.unusedSimpArgs false
set_option linter.unusedVariables false

set_option maxRecDepth 100000 in
set_option maxHeartbeats 2000000 in
theorem of_b {g N : Nat} {m : Option Nat} {L : Cnt} {t : Tm} {r : Int} (w : World) (K : Blk w g 26 #[.map m]) (h : MV w m N L) (ht : t.ok) (hr : ofL L t = r) :
    Calls Try.prog 14 #[.pointer (some ⟨g, 0, none⟩), tmv t] w fun e w' => e = .returned (.int .i64 r) ∧ Below w.heap.size w w' := by
  have KX := Blk.new w 33 #[.int .i64 t.e, .int .i64 t.l]
  have KC := K.alloc (.cells #[.int .i64 t.e, .int .i64 t.l] 33)
  have cx := KX.c
  have cc := KC.c
  have HB := (Below.refl w.heap.size w).alloc (Nat.le_refl _) (.cells #[.int .i64 t.e, .int .i64 t.l] 33)
  have hM := h.on HB
  have hl : ∀ q, (Instr.lookup 24 (.map m) (.agg #[.int .i64 t.e, .int .i64 t.l]) false).run Try.prog ((w.alloc (.cells #[.int .i64 t.e, .int .i64 t.l] 33)).drewN q) = .ok (.int .i64 r) ((w.alloc (.cells #[.int .i64 t.e, .int .i64 t.l] 33)).drewN q) := fun q => by
    have := (hM.drewN q).look ht
    rw [hr] at this
    exact this
  have HBH := Lib.hid HB
  clear K h hr KX KC hM HB
  go_enter Try.func14, Try.ntmps14
  go_wp2_with fail
  go_quiet (fail)
  go_wp2_with fail
  go_ret
  exact ⟨rfl, below_drewN HBH.out _⟩
end Go.Proofs.Ytifoonjhcjmehaa
