/-
  No cell of these rows narrows 'for every input' (looked for: loops, veiled, ifaces, maps, wideKeys, modest, calm, conditions, laid).
  DERIVED. THE GIVEN ROWS OF THIS SEAT. 4 by the template 'for every input the law returns true; each argument reads behind the call as it read before'; 0 by the template 'total and deterministic' (their statements: YtpmkbhmmdfkhpaaTotals.lean).
  GIVEN WITH THE SEED: the statements are not yours to turn. If you find one false, say at which input.
  Laid BY PROGRAM, IN A SANDBOX (cutbox-rows.mjs): the forced cells as the released guide's own fill.sh prints them over the translation e244962d1ddf048a… (all of the seat's roots in one cut). By AI agents, Wed Nov 11 2026. No macro, syntax, notation, axiom, sorry.
-/
import Derived.Test.YtpmkbhmmdfkhpaaChecked
import GoSem.Claim
import GoSem.ClaimJoined
import GoSem.ClaimMapViews
import Derived.JoinedTies
import Derived.KernelRfl
namespace Go.Proofs.Ytpmkbhmmdfkhpaa
/- THE CELL 'sum', in the pinned program and in every row, IS THE sha256 OF THE DUMP (.gsa) THAT YtpmkbhmmdfkhpaaProg.lean LOADS. Nothing in Lean hashes anything: it is a label: what it is worth is what the hold of that sum in a sandbox is worth. -/
noncomputable def Try.pinned : Pinned := { name := "ytpmkbhmmdfkhpaa", sum := "e244962d1ddf048a55f6dae85997ad6bb1a7c10f2a27c0f65dc3b055cf87a2e1", checked := Try.checked }
namespace Rows
def none {H : Type} : Left H := { results := [], args := [] }

/-- 'caldariumlaw3.TimeJoins': WHATEVER THE INPUT: true; the input reads as it did. -/
def timeJoinsSpec : ChangeSpec := { name := "timeJoins", fn := fun _ => fun
  | [d1, d2, d3] => { results := [.lit (.bool true)], args := [d1, d2, d3] }
  | _ => none }
def timeJoinsRow : OpenClaim := { program := "ytpmkbhmmdfkhpaa", sum := "e244962d1ddf048a55f6dae85997ad6bb1a7c10f2a27c0f65dc3b055cf87a2e1", func := "caldarium/caldariumlaw3.TimeJoins", spec := "timeJoins", unfollowed := true, recurses := true, apart := false }
def TimeJoinsSaid : Prop := timeJoinsRow.holds Try.pinned (OpenSpec.ofChange timeJoinsSpec)

/-- ITS FALSE NEIGHBOUR: 'it returns false'. Refute it at one input. -/
def timeJoinsWrong : ChangeSpec := { name := "timeJoins", fn := fun _ => fun
  | [d1, d2, d3] => { results := [.lit (.bool false)], args := [d1, d2, d3] }
  | _ => none }
def TimeJoinsWrongFalsely : Prop := timeJoinsRow.holds Try.pinned (OpenSpec.ofChange timeJoinsWrong)

/-- 'caldariumlaw3.TimeOrders': WHATEVER THE INPUT: true; the input reads as it did. -/
def timeOrdersSpec : ChangeSpec := { name := "timeOrders", fn := fun _ => fun
  | [d1, d2, d3] => { results := [.lit (.bool true)], args := [d1, d2, d3] }
  | _ => none }
def timeOrdersRow : OpenClaim := { program := "ytpmkbhmmdfkhpaa", sum := "e244962d1ddf048a55f6dae85997ad6bb1a7c10f2a27c0f65dc3b055cf87a2e1", func := "caldarium/caldariumlaw3.TimeOrders", spec := "timeOrders", unfollowed := true, recurses := true, apart := false }
def TimeOrdersSaid : Prop := timeOrdersRow.holds Try.pinned (OpenSpec.ofChange timeOrdersSpec)

/-- ITS FALSE NEIGHBOUR: 'it returns false'. Refute it at one input. -/
def timeOrdersWrong : ChangeSpec := { name := "timeOrders", fn := fun _ => fun
  | [d1, d2, d3] => { results := [.lit (.bool false)], args := [d1, d2, d3] }
  | _ => none }
def TimeOrdersWrongFalsely : Prop := timeOrdersRow.holds Try.pinned (OpenSpec.ofChange timeOrdersWrong)

/-- 'caldariumlaw3.TimeRises': WHATEVER THE INPUT: true; the input reads as it did. -/
def timeRisesSpec : ChangeSpec := { name := "timeRises", fn := fun _ => fun
  | [d1, d2, d3, d4] => { results := [.lit (.bool true)], args := [d1, d2, d3, d4] }
  | _ => none }
def timeRisesRow : OpenClaim := { program := "ytpmkbhmmdfkhpaa", sum := "e244962d1ddf048a55f6dae85997ad6bb1a7c10f2a27c0f65dc3b055cf87a2e1", func := "caldarium/caldariumlaw3.TimeRises", spec := "timeRises", unfollowed := true, recurses := true, apart := false }
def TimeRisesSaid : Prop := timeRisesRow.holds Try.pinned (OpenSpec.ofChange timeRisesSpec)

/-- ITS FALSE NEIGHBOUR: 'it returns false'. Refute it at one input. -/
def timeRisesWrong : ChangeSpec := { name := "timeRises", fn := fun _ => fun
  | [d1, d2, d3, d4] => { results := [.lit (.bool false)], args := [d1, d2, d3, d4] }
  | _ => none }
def TimeRisesWrongFalsely : Prop := timeRisesRow.holds Try.pinned (OpenSpec.ofChange timeRisesWrong)

/-- 'caldariumlaw3.TimeUnder': WHATEVER THE INPUT: true; the input reads as it did. -/
def timeUnderSpec : ChangeSpec := { name := "timeUnder", fn := fun _ => fun
  | [d1, d2, d3, d4] => { results := [.lit (.bool true)], args := [d1, d2, d3, d4] }
  | _ => none }
def timeUnderRow : OpenClaim := { program := "ytpmkbhmmdfkhpaa", sum := "e244962d1ddf048a55f6dae85997ad6bb1a7c10f2a27c0f65dc3b055cf87a2e1", func := "caldarium/caldariumlaw3.TimeUnder", spec := "timeUnder", apart := false }
def TimeUnderSaid : Prop := timeUnderRow.holds Try.pinned (OpenSpec.ofChange timeUnderSpec)

/-- ITS FALSE NEIGHBOUR: 'it returns false'. Refute it at one input. -/
def timeUnderWrong : ChangeSpec := { name := "timeUnder", fn := fun _ => fun
  | [d1, d2, d3, d4] => { results := [.lit (.bool false)], args := [d1, d2, d3, d4] }
  | _ => none }
def TimeUnderWrongFalsely : Prop := timeUnderRow.holds Try.pinned (OpenSpec.ofChange timeUnderWrong)

/- THE SECOND FORM. 'bulk': how many values and letters a reading holds, each counted each time it is reached (what is shared counts as often as it is met; a slice's spare places count too). A statement '..UptoSaid' is the law's where the arguments, and the package variables that the reading takes, are together of bulk at most 1048576: NARROWER than '..Said'. Prove '..Said' where nothing that the law and all that it calls make is longer than what came in: it says more and counts as full. Else prove '..UptoSaid'. A law counts once. -/
mutual
def uptoBulk {H : Type} : DataW H → Nat
  | .lit (.string bytes) => bytes.length + 1
  | .lit _ => 1
  | .nil => 1
  | .ptr d => uptoBulk d + 1
  | .slice elems spare => uptoBulkAll elems + uptoBulkAll spare + 1
  | .agg parts => uptoBulkAll parts + 1
  | .iface _ d => uptoBulk d + 1
  | .map entries => uptoBulkEntries entries + 1
  | .held _ => 1
def uptoBulkAll {H : Type} : List (DataW H) → Nat
  | [] => 0
  | d :: r => uptoBulk d + uptoBulkAll r
def uptoBulkEntries {H : Type} : List (Lit × DataW H) → Nat
  | [] => 0
  | x :: r => uptoBulkEntry x + uptoBulkEntries r
def uptoBulkEntry {H : Type} : Lit × DataW H → Nat
  | (.string bytes, d) => bytes.length + uptoBulk d + 1
  | (_, d) => uptoBulk d + 1
 end
def uptoSmall : (H : Type) → List (DataW H) → Bool := fun _ ds => decide (uptoBulkAll ds ≤ 1048576)
def OpenSpec.upto (s : _root_.Go.ChangeSpec) : _root_.Go.OpenSpec := { _root_.Go.OpenSpec.ofChange s with cond := some uptoSmall }

/-- 'caldariumlaw3.TimeJoins', WHERE WHAT IT READS IS OF BULK AT MOST 1048576: true; the input reads as it did. -/
def timeJoinsUptoRow : OpenClaim := { program := "ytpmkbhmmdfkhpaa", sum := "e244962d1ddf048a55f6dae85997ad6bb1a7c10f2a27c0f65dc3b055cf87a2e1", func := "caldarium/caldariumlaw3.TimeJoins", spec := "timeJoins", unfollowed := true, recurses := true, apart := false, narrowed := true }
def TimeJoinsUptoSaid : Prop := timeJoinsUptoRow.holds Try.pinned (OpenSpec.upto timeJoinsSpec)

/-- 'caldariumlaw3.TimeOrders', WHERE WHAT IT READS IS OF BULK AT MOST 1048576: true; the input reads as it did. -/
def timeOrdersUptoRow : OpenClaim := { program := "ytpmkbhmmdfkhpaa", sum := "e244962d1ddf048a55f6dae85997ad6bb1a7c10f2a27c0f65dc3b055cf87a2e1", func := "caldarium/caldariumlaw3.TimeOrders", spec := "timeOrders", unfollowed := true, recurses := true, apart := false, narrowed := true }
def TimeOrdersUptoSaid : Prop := timeOrdersUptoRow.holds Try.pinned (OpenSpec.upto timeOrdersSpec)

/-- 'caldariumlaw3.TimeRises', WHERE WHAT IT READS IS OF BULK AT MOST 1048576: true; the input reads as it did. -/
def timeRisesUptoRow : OpenClaim := { program := "ytpmkbhmmdfkhpaa", sum := "e244962d1ddf048a55f6dae85997ad6bb1a7c10f2a27c0f65dc3b055cf87a2e1", func := "caldarium/caldariumlaw3.TimeRises", spec := "timeRises", unfollowed := true, recurses := true, apart := false, narrowed := true }
def TimeRisesUptoSaid : Prop := timeRisesUptoRow.holds Try.pinned (OpenSpec.upto timeRisesSpec)

/-- 'caldariumlaw3.TimeUnder', WHERE WHAT IT READS IS OF BULK AT MOST 1048576: true; the input reads as it did. -/
def timeUnderUptoRow : OpenClaim := { program := "ytpmkbhmmdfkhpaa", sum := "e244962d1ddf048a55f6dae85997ad6bb1a7c10f2a27c0f65dc3b055cf87a2e1", func := "caldarium/caldariumlaw3.TimeUnder", spec := "timeUnder", apart := false, narrowed := true }
def TimeUnderUptoSaid : Prop := timeUnderUptoRow.holds Try.pinned (OpenSpec.upto timeUnderSpec)

end Rows
end Go.Proofs.Ytpmkbhmmdfkhpaa
