/-
  No cell of these rows narrows 'for every input' (looked for: loops, veiled, ifaces, maps, wideKeys, modest, calm, conditions, laid).
  DERIVED. THE GIVEN ROWS OF THIS SEAT. 8 by the template 'for every input the law returns true; each argument reads behind the call as it read before'; 0 by the template 'total and deterministic' (their statements: YtifoonjhcjmehaaTotals.lean).
  GIVEN WITH THE SEED: the statements are not yours to turn. If you find one false, say at which input.
  Laid BY PROGRAM, IN A SANDBOX (cutbox-rows.mjs): the forced cells as the released guide's own fill.sh prints them over the translation 9b23daa301e5430b… (all of the seat's roots in one cut). By AI agents, Wed Nov 11 2026. No macro, syntax, notation, axiom, sorry.
-/
import Derived.Test.YtifoonjhcjmehaaChecked
import GoSem.Claim
import GoSem.ClaimJoined
import GoSem.ClaimMapViews
import Derived.JoinedTies
import Derived.KernelRfl
namespace Go.Proofs.Ytifoonjhcjmehaa
/- THE CELL 'sum', in the pinned program and in every row, IS THE sha256 OF THE DUMP (.gsa) THAT YtifoonjhcjmehaaProg.lean LOADS. Nothing in Lean hashes anything: it is a label: what it is worth is what the hold of that sum in a sandbox is worth. -/
noncomputable def Try.pinned : Pinned := { name := "ytifoonjhcjmehaa", sum := "9b23daa301e5430b1559b5b3534df7a90cf795ca1cda50249053170c62dfaff5", checked := Try.checked }
namespace Rows
def none {H : Type} : Left H := { results := [], args := [] }

/-- 'caldariumlaw4.CountsPlay': WHATEVER THE INPUT: true; the input reads as it did. -/
def countsPlaySpec : ChangeSpec := { name := "countsPlay", fn := fun _ => fun
  | [d] => { results := [.lit (.bool true)], args := [d] }
  | _ => none }
def countsPlayRow : OpenClaim := { program := "ytifoonjhcjmehaa", sum := "9b23daa301e5430b1559b5b3534df7a90cf795ca1cda50249053170c62dfaff5", func := "caldarium/caldariumlaw4.CountsPlay", spec := "countsPlay", unfollowed := true, recurses := true, plainKeys := false, apart := false }
def CountsPlaySaid : Prop := countsPlayRow.holds Try.pinned (OpenSpec.ofChange countsPlaySpec)

/-- ITS FALSE NEIGHBOUR: 'it returns false'. Refute it at one input. -/
def countsPlayWrong : ChangeSpec := { name := "countsPlay", fn := fun _ => fun
  | [d] => { results := [.lit (.bool false)], args := [d] }
  | _ => none }
def CountsPlayWrongFalsely : Prop := countsPlayRow.holds Try.pinned (OpenSpec.ofChange countsPlayWrong)

/-- 'caldariumlaw4.CountsFront': WHATEVER THE INPUT: true; the input reads as it did. -/
def countsFrontSpec : ChangeSpec := { name := "countsFront", fn := fun _ => fun
  | [d1, d2, d3] => { results := [.lit (.bool true)], args := [d1, d2, d3] }
  | _ => none }
def countsFrontRow : OpenClaim := { program := "ytifoonjhcjmehaa", sum := "9b23daa301e5430b1559b5b3534df7a90cf795ca1cda50249053170c62dfaff5", func := "caldarium/caldariumlaw4.CountsFront", spec := "countsFront", unfollowed := true, recurses := true, plainKeys := false, apart := false }
def CountsFrontSaid : Prop := countsFrontRow.holds Try.pinned (OpenSpec.ofChange countsFrontSpec)

/-- ITS FALSE NEIGHBOUR: 'it returns false'. Refute it at one input. -/
def countsFrontWrong : ChangeSpec := { name := "countsFront", fn := fun _ => fun
  | [d1, d2, d3] => { results := [.lit (.bool false)], args := [d1, d2, d3] }
  | _ => none }
def CountsFrontWrongFalsely : Prop := countsFrontRow.holds Try.pinned (OpenSpec.ofChange countsFrontWrong)

/-- 'caldariumlaw4.AntiShuffled': WHATEVER THE INPUT: true; the input reads as it did. -/
def antiShuffledSpec : ChangeSpec := { name := "antiShuffled", fn := fun _ => fun
  | [d1, d2] => { results := [.lit (.bool true)], args := [d1, d2] }
  | _ => none }
def antiShuffledRow : OpenClaim := { program := "ytifoonjhcjmehaa", sum := "9b23daa301e5430b1559b5b3534df7a90cf795ca1cda50249053170c62dfaff5", func := "caldarium/caldariumlaw4.AntiShuffled", spec := "antiShuffled", unfollowed := true, recurses := true, plainKeys := false, apart := false }
def AntiShuffledSaid : Prop := antiShuffledRow.holds Try.pinned (OpenSpec.ofChange antiShuffledSpec)

/-- ITS FALSE NEIGHBOUR: 'it returns false'. Refute it at one input. -/
def antiShuffledWrong : ChangeSpec := { name := "antiShuffled", fn := fun _ => fun
  | [d1, d2] => { results := [.lit (.bool false)], args := [d1, d2] }
  | _ => none }
def AntiShuffledWrongFalsely : Prop := antiShuffledRow.holds Try.pinned (OpenSpec.ofChange antiShuffledWrong)

/-- 'caldariumlaw4.AntiMins': WHATEVER THE INPUT: true; the input reads as it did. -/
def antiMinsSpec : ChangeSpec := { name := "antiMins", fn := fun _ => fun
  | [d1, d2] => { results := [.lit (.bool true)], args := [d1, d2] }
  | _ => none }
def antiMinsRow : OpenClaim := { program := "ytifoonjhcjmehaa", sum := "9b23daa301e5430b1559b5b3534df7a90cf795ca1cda50249053170c62dfaff5", func := "caldarium/caldariumlaw4.AntiMins", spec := "antiMins", unfollowed := true, recurses := true, plainKeys := false, apart := false }
def AntiMinsSaid : Prop := antiMinsRow.holds Try.pinned (OpenSpec.ofChange antiMinsSpec)

/-- ITS FALSE NEIGHBOUR: 'it returns false'. Refute it at one input. -/
def antiMinsWrong : ChangeSpec := { name := "antiMins", fn := fun _ => fun
  | [d1, d2] => { results := [.lit (.bool false)], args := [d1, d2] }
  | _ => none }
def AntiMinsWrongFalsely : Prop := antiMinsRow.holds Try.pinned (OpenSpec.ofChange antiMinsWrong)

/-- 'caldariumlaw4.AntiApart': WHATEVER THE INPUT: true; the input reads as it did. -/
def antiApartSpec : ChangeSpec := { name := "antiApart", fn := fun _ => fun
  | [d] => { results := [.lit (.bool true)], args := [d] }
  | _ => none }
def antiApartRow : OpenClaim := { program := "ytifoonjhcjmehaa", sum := "9b23daa301e5430b1559b5b3534df7a90cf795ca1cda50249053170c62dfaff5", func := "caldarium/caldariumlaw4.AntiApart", spec := "antiApart", unfollowed := true, recurses := true, plainKeys := false, apart := false }
def AntiApartSaid : Prop := antiApartRow.holds Try.pinned (OpenSpec.ofChange antiApartSpec)

/-- ITS FALSE NEIGHBOUR: 'it returns false'. Refute it at one input. -/
def antiApartWrong : ChangeSpec := { name := "antiApart", fn := fun _ => fun
  | [d] => { results := [.lit (.bool false)], args := [d] }
  | _ => none }
def AntiApartWrongFalsely : Prop := antiApartRow.holds Try.pinned (OpenSpec.ofChange antiApartWrong)

/-- 'caldariumlaw4.AntiOrders': WHATEVER THE INPUT: true; the input reads as it did. -/
def antiOrdersSpec : ChangeSpec := { name := "antiOrders", fn := fun _ => fun
  | [d1, d2, d3] => { results := [.lit (.bool true)], args := [d1, d2, d3] }
  | _ => none }
def antiOrdersRow : OpenClaim := { program := "ytifoonjhcjmehaa", sum := "9b23daa301e5430b1559b5b3534df7a90cf795ca1cda50249053170c62dfaff5", func := "caldarium/caldariumlaw4.AntiOrders", spec := "antiOrders", unfollowed := true, recurses := true, plainKeys := false, apart := false }
def AntiOrdersSaid : Prop := antiOrdersRow.holds Try.pinned (OpenSpec.ofChange antiOrdersSpec)

/-- ITS FALSE NEIGHBOUR: 'it returns false'. Refute it at one input. -/
def antiOrdersWrong : ChangeSpec := { name := "antiOrders", fn := fun _ => fun
  | [d1, d2, d3] => { results := [.lit (.bool false)], args := [d1, d2, d3] }
  | _ => none }
def AntiOrdersWrongFalsely : Prop := antiOrdersRow.holds Try.pinned (OpenSpec.ofChange antiOrdersWrong)

/-- 'caldariumlaw4.AntiMore': WHATEVER THE INPUT: true; the input reads as it did. -/
def antiMoreSpec : ChangeSpec := { name := "antiMore", fn := fun _ => fun
  | [d1, d2] => { results := [.lit (.bool true)], args := [d1, d2] }
  | _ => none }
def antiMoreRow : OpenClaim := { program := "ytifoonjhcjmehaa", sum := "9b23daa301e5430b1559b5b3534df7a90cf795ca1cda50249053170c62dfaff5", func := "caldarium/caldariumlaw4.AntiMore", spec := "antiMore", unfollowed := true, recurses := true, plainKeys := false, apart := false }
def AntiMoreSaid : Prop := antiMoreRow.holds Try.pinned (OpenSpec.ofChange antiMoreSpec)

/-- ITS FALSE NEIGHBOUR: 'it returns false'. Refute it at one input. -/
def antiMoreWrong : ChangeSpec := { name := "antiMore", fn := fun _ => fun
  | [d1, d2] => { results := [.lit (.bool false)], args := [d1, d2] }
  | _ => none }
def AntiMoreWrongFalsely : Prop := antiMoreRow.holds Try.pinned (OpenSpec.ofChange antiMoreWrong)

/-- 'caldariumlaw4.CountsBack': WHATEVER THE INPUT: true; the input reads as it did. -/
def countsBackSpec : ChangeSpec := { name := "countsBack", fn := fun _ => fun
  | [d1, d2, d3] => { results := [.lit (.bool true)], args := [d1, d2, d3] }
  | _ => none }
def countsBackRow : OpenClaim := { program := "ytifoonjhcjmehaa", sum := "9b23daa301e5430b1559b5b3534df7a90cf795ca1cda50249053170c62dfaff5", func := "caldarium/caldariumlaw4.CountsBack", spec := "countsBack", unfollowed := true, recurses := true, plainKeys := false, apart := false }
def CountsBackSaid : Prop := countsBackRow.holds Try.pinned (OpenSpec.ofChange countsBackSpec)

/-- ITS FALSE NEIGHBOUR: 'it returns false'. Refute it at one input. -/
def countsBackWrong : ChangeSpec := { name := "countsBack", fn := fun _ => fun
  | [d1, d2, d3] => { results := [.lit (.bool false)], args := [d1, d2, d3] }
  | _ => none }
def CountsBackWrongFalsely : Prop := countsBackRow.holds Try.pinned (OpenSpec.ofChange countsBackWrong)

/- THE SECOND FORM. 'bulk': how many values and letters a reading holds, each counted each time it is reached (what is shared counts as often as it is met; a slice's spare places count too). A statement '..UptoSaid' is the law's where the arguments, and the package variables that the reading takes, are together of bulk at most 1048576: NARROWER than '..Said'. Prove '..Said' where nothing that the law and all that it calls make is longer than what came in: it says more and counts as full. Else prove '..UptoSaid'. A law counts once. -/
mutual
def uptoBulk {H : Type} : DataW H → Nat
  | .lit (.string bytes) => bytes.length + 1
  | .lit _ => 1
  | .nil => 1
  | .ptr d => uptoBulk d + 1
  | .slice elems spare => uptoBulkAll elems + uptoBulkAll spare + 1
  | .agg parts => uptoBulkAll parts + 1
  | .iface _ d => uptoBulk d + 1
  | .map entries => uptoBulkEntries entries + 1
  | .held _ => 1
def uptoBulkAll {H : Type} : List (DataW H) → Nat
  | [] => 0
  | d :: r => uptoBulk d + uptoBulkAll r
def uptoBulkEntries {H : Type} : List (Lit × DataW H) → Nat
  | [] => 0
  | x :: r => uptoBulkEntry x + uptoBulkEntries r
def uptoBulkEntry {H : Type} : Lit × DataW H → Nat
  | (.string bytes, d) => bytes.length + uptoBulk d + 1
  | (_, d) => uptoBulk d + 1
 end
def uptoSmall : (H : Type) → List (DataW H) → Bool := fun _ ds => decide (uptoBulkAll ds ≤ 1048576)
def OpenSpec.upto (s : _root_.Go.ChangeSpec) : _root_.Go.OpenSpec := { _root_.Go.OpenSpec.ofChange s with cond := some uptoSmall }

/-- 'caldariumlaw4.CountsPlay', WHERE WHAT IT READS IS OF BULK AT MOST 1048576: true; the input reads as it did. -/
def countsPlayUptoRow : OpenClaim := { program := "ytifoonjhcjmehaa", sum := "9b23daa301e5430b1559b5b3534df7a90cf795ca1cda50249053170c62dfaff5", func := "caldarium/caldariumlaw4.CountsPlay", spec := "countsPlay", unfollowed := true, recurses := true, plainKeys := false, apart := false, narrowed := true }
def CountsPlayUptoSaid : Prop := countsPlayUptoRow.holds Try.pinned (OpenSpec.upto countsPlaySpec)

/-- 'caldariumlaw4.CountsFront', WHERE WHAT IT READS IS OF BULK AT MOST 1048576: true; the input reads as it did. -/
def countsFrontUptoRow : OpenClaim := { program := "ytifoonjhcjmehaa", sum := "9b23daa301e5430b1559b5b3534df7a90cf795ca1cda50249053170c62dfaff5", func := "caldarium/caldariumlaw4.CountsFront", spec := "countsFront", unfollowed := true, recurses := true, plainKeys := false, apart := false, narrowed := true }
def CountsFrontUptoSaid : Prop := countsFrontUptoRow.holds Try.pinned (OpenSpec.upto countsFrontSpec)

/-- 'caldariumlaw4.AntiShuffled', WHERE WHAT IT READS IS OF BULK AT MOST 1048576: true; the input reads as it did. -/
def antiShuffledUptoRow : OpenClaim := { program := "ytifoonjhcjmehaa", sum := "9b23daa301e5430b1559b5b3534df7a90cf795ca1cda50249053170c62dfaff5", func := "caldarium/caldariumlaw4.AntiShuffled", spec := "antiShuffled", unfollowed := true, recurses := true, plainKeys := false, apart := false, narrowed := true }
def AntiShuffledUptoSaid : Prop := antiShuffledUptoRow.holds Try.pinned (OpenSpec.upto antiShuffledSpec)

/-- 'caldariumlaw4.AntiMins', WHERE WHAT IT READS IS OF BULK AT MOST 1048576: true; the input reads as it did. -/
def antiMinsUptoRow : OpenClaim := { program := "ytifoonjhcjmehaa", sum := "9b23daa301e5430b1559b5b3534df7a90cf795ca1cda50249053170c62dfaff5", func := "caldarium/caldariumlaw4.AntiMins", spec := "antiMins", unfollowed := true, recurses := true, plainKeys := false, apart := false, narrowed := true }
def AntiMinsUptoSaid : Prop := antiMinsUptoRow.holds Try.pinned (OpenSpec.upto antiMinsSpec)

/-- 'caldariumlaw4.AntiApart', WHERE WHAT IT READS IS OF BULK AT MOST 1048576: true; the input reads as it did. -/
def antiApartUptoRow : OpenClaim := { program := "ytifoonjhcjmehaa", sum := "9b23daa301e5430b1559b5b3534df7a90cf795ca1cda50249053170c62dfaff5", func := "caldarium/caldariumlaw4.AntiApart", spec := "antiApart", unfollowed := true, recurses := true, plainKeys := false, apart := false, narrowed := true }
def AntiApartUptoSaid : Prop := antiApartUptoRow.holds Try.pinned (OpenSpec.upto antiApartSpec)

/-- 'caldariumlaw4.AntiOrders', WHERE WHAT IT READS IS OF BULK AT MOST 1048576: true; the input reads as it did. -/
def antiOrdersUptoRow : OpenClaim := { program := "ytifoonjhcjmehaa", sum := "9b23daa301e5430b1559b5b3534df7a90cf795ca1cda50249053170c62dfaff5", func := "caldarium/caldariumlaw4.AntiOrders", spec := "antiOrders", unfollowed := true, recurses := true, plainKeys := false, apart := false, narrowed := true }
def AntiOrdersUptoSaid : Prop := antiOrdersUptoRow.holds Try.pinned (OpenSpec.upto antiOrdersSpec)

/-- 'caldariumlaw4.AntiMore', WHERE WHAT IT READS IS OF BULK AT MOST 1048576: true; the input reads as it did. -/
def antiMoreUptoRow : OpenClaim := { program := "ytifoonjhcjmehaa", sum := "9b23daa301e5430b1559b5b3534df7a90cf795ca1cda50249053170c62dfaff5", func := "caldarium/caldariumlaw4.AntiMore", spec := "antiMore", unfollowed := true, recurses := true, plainKeys := false, apart := false, narrowed := true }
def AntiMoreUptoSaid : Prop := antiMoreUptoRow.holds Try.pinned (OpenSpec.upto antiMoreSpec)

/-- 'caldariumlaw4.CountsBack', WHERE WHAT IT READS IS OF BULK AT MOST 1048576: true; the input reads as it did. -/
def countsBackUptoRow : OpenClaim := { program := "ytifoonjhcjmehaa", sum := "9b23daa301e5430b1559b5b3534df7a90cf795ca1cda50249053170c62dfaff5", func := "caldarium/caldariumlaw4.CountsBack", spec := "countsBack", unfollowed := true, recurses := true, plainKeys := false, apart := false, narrowed := true }
def CountsBackUptoSaid : Prop := countsBackUptoRow.holds Try.pinned (OpenSpec.upto countsBackSpec)

end Rows
end Go.Proofs.Ytifoonjhcjmehaa
