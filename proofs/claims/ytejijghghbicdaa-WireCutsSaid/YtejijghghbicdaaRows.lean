/-
  No cell of these rows narrows 'for every input' (looked for: loops, veiled, ifaces, maps, wideKeys, modest, calm, conditions, laid).
  DERIVED. THE GIVEN ROWS OF THIS SEAT. 15 by the template 'for every input the law returns true; each argument reads behind the call as it read before'; 0 by the template 'total and deterministic' (their statements: YtejijghghbicdaaTotals.lean).
  GIVEN WITH THE SEED: the statements are not yours to turn. If you find one false, say at which input.
  Laid BY PROGRAM, IN A SANDBOX (cutbox-rows.mjs): the forced cells as the released guide's own fill.sh prints them over the translation c7419f517af65980… (all of the seat's roots in one cut). By AI agents, Wed Nov 11 2026. No macro, syntax, notation, axiom, sorry.
-/
import Derived.Test.YtejijghghbicdaaChecked
import GoSem.Claim
import GoSem.ClaimJoined
import GoSem.ClaimMapViews
import Derived.JoinedTies
import Derived.KernelRfl
namespace Go.Proofs.Ytejijghghbicdaa
/- THE CELL 'sum', in the pinned program and in every row, IS THE sha256 OF THE DUMP (.gsa) THAT YtejijghghbicdaaProg.lean LOADS. Nothing in Lean hashes anything: it is a label: what it is worth is what the hold of that sum in a sandbox is worth. -/
noncomputable def Try.pinned : Pinned := { name := "ytejijghghbicdaa", sum := "c7419f517af65980f10c7583c0850fb0dd7b4c82bd5538a0b795300e79f9c3d5", checked := Try.checked }
namespace Rows
def none {H : Type} : Left H := { results := [], args := [] }

/-- 'caldariumlaw1.PackPuts': WHATEVER THE INPUT: true; the input reads as it did. -/
def packPutsSpec : ChangeSpec := { name := "packPuts", fn := fun _ => fun
  | [d1, d2, d3] => { results := [.lit (.bool true)], args := [d1, d2, d3] }
  | _ => none }
def packPutsRow : OpenClaim := { program := "ytejijghghbicdaa", sum := "c7419f517af65980f10c7583c0850fb0dd7b4c82bd5538a0b795300e79f9c3d5", func := "caldarium/caldariumlaw1.PackPuts", spec := "packPuts", apart := false }
def PackPutsSaid : Prop := packPutsRow.holds Try.pinned (OpenSpec.ofChange packPutsSpec)

/-- ITS FALSE NEIGHBOUR: 'it returns false'. Refute it at one input. -/
def packPutsWrong : ChangeSpec := { name := "packPuts", fn := fun _ => fun
  | [d1, d2, d3] => { results := [.lit (.bool false)], args := [d1, d2, d3] }
  | _ => none }
def PackPutsWrongFalsely : Prop := packPutsRow.holds Try.pinned (OpenSpec.ofChange packPutsWrong)

/-- 'caldariumlaw1.PackBack': WHATEVER THE INPUT: true; the input reads as it did. -/
def packBackSpec : ChangeSpec := { name := "packBack", fn := fun _ => fun
  | [d] => { results := [.lit (.bool true)], args := [d] }
  | _ => none }
def packBackRow : OpenClaim := { program := "ytejijghghbicdaa", sum := "c7419f517af65980f10c7583c0850fb0dd7b4c82bd5538a0b795300e79f9c3d5", func := "caldarium/caldariumlaw1.PackBack", spec := "packBack", unfollowed := true, recurses := true, apart := false }
def PackBackSaid : Prop := packBackRow.holds Try.pinned (OpenSpec.ofChange packBackSpec)

/-- ITS FALSE NEIGHBOUR: 'it returns false'. Refute it at one input. -/
def packBackWrong : ChangeSpec := { name := "packBack", fn := fun _ => fun
  | [d] => { results := [.lit (.bool false)], args := [d] }
  | _ => none }
def PackBackWrongFalsely : Prop := packBackRow.holds Try.pinned (OpenSpec.ofChange packBackWrong)

/-- 'caldariumlaw1.PackCuts': WHATEVER THE INPUT: true; the input reads as it did. -/
def packCutsSpec : ChangeSpec := { name := "packCuts", fn := fun _ => fun
  | [d1, d2] => { results := [.lit (.bool true)], args := [d1, d2] }
  | _ => none }
def packCutsRow : OpenClaim := { program := "ytejijghghbicdaa", sum := "c7419f517af65980f10c7583c0850fb0dd7b4c82bd5538a0b795300e79f9c3d5", func := "caldarium/caldariumlaw1.PackCuts", spec := "packCuts", unfollowed := true, recurses := true, apart := false }
def PackCutsSaid : Prop := packCutsRow.holds Try.pinned (OpenSpec.ofChange packCutsSpec)

/-- ITS FALSE NEIGHBOUR: 'it returns false'. Refute it at one input. -/
def packCutsWrong : ChangeSpec := { name := "packCuts", fn := fun _ => fun
  | [d1, d2] => { results := [.lit (.bool false)], args := [d1, d2] }
  | _ => none }
def PackCutsWrongFalsely : Prop := packCutsRow.holds Try.pinned (OpenSpec.ofChange packCutsWrong)

/-- 'caldariumlaw1.PackLong': WHATEVER THE INPUT: true; the input reads as it did. -/
def packLongSpec : ChangeSpec := { name := "packLong", fn := fun _ => fun
  | [d1, d2] => { results := [.lit (.bool true)], args := [d1, d2] }
  | _ => none }
def packLongRow : OpenClaim := { program := "ytejijghghbicdaa", sum := "c7419f517af65980f10c7583c0850fb0dd7b4c82bd5538a0b795300e79f9c3d5", func := "caldarium/caldariumlaw1.PackLong", spec := "packLong", unfollowed := true, recurses := true, apart := false }
def PackLongSaid : Prop := packLongRow.holds Try.pinned (OpenSpec.ofChange packLongSpec)

/-- ITS FALSE NEIGHBOUR: 'it returns false'. Refute it at one input. -/
def packLongWrong : ChangeSpec := { name := "packLong", fn := fun _ => fun
  | [d1, d2] => { results := [.lit (.bool false)], args := [d1, d2] }
  | _ => none }
def PackLongWrongFalsely : Prop := packLongRow.holds Try.pinned (OpenSpec.ofChange packLongWrong)

/-- 'caldariumlaw1.PackReads': WHATEVER THE INPUT: true; the input reads as it did. -/
def packReadsSpec : ChangeSpec := { name := "packReads", fn := fun _ => fun
  | [d1, d2] => { results := [.lit (.bool true)], args := [d1, d2] }
  | _ => none }
def packReadsRow : OpenClaim := { program := "ytejijghghbicdaa", sum := "c7419f517af65980f10c7583c0850fb0dd7b4c82bd5538a0b795300e79f9c3d5", func := "caldarium/caldariumlaw1.PackReads", spec := "packReads", unfollowed := true, recurses := true, apart := false }
def PackReadsSaid : Prop := packReadsRow.holds Try.pinned (OpenSpec.ofChange packReadsSpec)

/-- ITS FALSE NEIGHBOUR: 'it returns false'. Refute it at one input. -/
def packReadsWrong : ChangeSpec := { name := "packReads", fn := fun _ => fun
  | [d1, d2] => { results := [.lit (.bool false)], args := [d1, d2] }
  | _ => none }
def PackReadsWrongFalsely : Prop := packReadsRow.holds Try.pinned (OpenSpec.ofChange packReadsWrong)

/-- 'caldariumlaw2.WireWrong': WHATEVER THE INPUT: true; the input reads as it did. -/
def wireWrongSpec : ChangeSpec := { name := "wireWrong", fn := fun _ => fun
  | [d] => { results := [.lit (.bool true)], args := [d] }
  | _ => none }
def wireWrongRow : OpenClaim := { program := "ytejijghghbicdaa", sum := "c7419f517af65980f10c7583c0850fb0dd7b4c82bd5538a0b795300e79f9c3d5", func := "caldarium/caldariumlaw2.WireWrong", spec := "wireWrong", apart := false }
def WireWrongSaid : Prop := wireWrongRow.holds Try.pinned (OpenSpec.ofChange wireWrongSpec)

/-- ITS FALSE NEIGHBOUR: 'it returns false'. Refute it at one input. -/
def wireWrongWrong : ChangeSpec := { name := "wireWrong", fn := fun _ => fun
  | [d] => { results := [.lit (.bool false)], args := [d] }
  | _ => none }
def WireWrongWrongFalsely : Prop := wireWrongRow.holds Try.pinned (OpenSpec.ofChange wireWrongWrong)

/-- 'caldariumlaw2.WireApart': WHATEVER THE INPUT: true; the input reads as it did. -/
def wireApartSpec : ChangeSpec := { name := "wireApart", fn := fun _ => fun
  | [d1, d2, d3, d4] => { results := [.lit (.bool true)], args := [d1, d2, d3, d4] }
  | _ => none }
def wireApartRow : OpenClaim := { program := "ytejijghghbicdaa", sum := "c7419f517af65980f10c7583c0850fb0dd7b4c82bd5538a0b795300e79f9c3d5", func := "caldarium/caldariumlaw2.WireApart", spec := "wireApart", apart := false }
def WireApartSaid : Prop := wireApartRow.holds Try.pinned (OpenSpec.ofChange wireApartSpec)

/-- ITS FALSE NEIGHBOUR: 'it returns false'. Refute it at one input. -/
def wireApartWrong : ChangeSpec := { name := "wireApart", fn := fun _ => fun
  | [d1, d2, d3, d4] => { results := [.lit (.bool false)], args := [d1, d2, d3, d4] }
  | _ => none }
def WireApartWrongFalsely : Prop := wireApartRow.holds Try.pinned (OpenSpec.ofChange wireApartWrong)

/-- 'caldariumlaw2.WireErrors': WHATEVER THE INPUT: true; the input reads as it did. -/
def wireErrorsSpec : ChangeSpec := { name := "wireErrors", fn := fun _ => fun
  | [d1, d2, d3, d4] => { results := [.lit (.bool true)], args := [d1, d2, d3, d4] }
  | _ => none }
def wireErrorsRow : OpenClaim := { program := "ytejijghghbicdaa", sum := "c7419f517af65980f10c7583c0850fb0dd7b4c82bd5538a0b795300e79f9c3d5", func := "caldarium/caldariumlaw2.WireErrors", spec := "wireErrors", apart := false }
def WireErrorsSaid : Prop := wireErrorsRow.holds Try.pinned (OpenSpec.ofChange wireErrorsSpec)

/-- ITS FALSE NEIGHBOUR: 'it returns false'. Refute it at one input. -/
def wireErrorsWrong : ChangeSpec := { name := "wireErrors", fn := fun _ => fun
  | [d1, d2, d3, d4] => { results := [.lit (.bool false)], args := [d1, d2, d3, d4] }
  | _ => none }
def WireErrorsWrongFalsely : Prop := wireErrorsRow.holds Try.pinned (OpenSpec.ofChange wireErrorsWrong)

/-- 'caldariumlaw2.WirePairs': WHATEVER THE INPUT: true; the input reads as it did. -/
def wirePairsSpec : ChangeSpec := { name := "wirePairs", fn := fun _ => fun
  | [d1, d2] => { results := [.lit (.bool true)], args := [d1, d2] }
  | _ => none }
def wirePairsRow : OpenClaim := { program := "ytejijghghbicdaa", sum := "c7419f517af65980f10c7583c0850fb0dd7b4c82bd5538a0b795300e79f9c3d5", func := "caldarium/caldariumlaw2.WirePairs", spec := "wirePairs", apart := false }
def WirePairsSaid : Prop := wirePairsRow.holds Try.pinned (OpenSpec.ofChange wirePairsSpec)

/-- ITS FALSE NEIGHBOUR: 'it returns false'. Refute it at one input. -/
def wirePairsWrong : ChangeSpec := { name := "wirePairs", fn := fun _ => fun
  | [d1, d2] => { results := [.lit (.bool false)], args := [d1, d2] }
  | _ => none }
def WirePairsWrongFalsely : Prop := wirePairsRow.holds Try.pinned (OpenSpec.ofChange wirePairsWrong)

/-- 'caldariumlaw2.WireRequests': WHATEVER THE INPUT: true; the input reads as it did. -/
def wireRequestsSpec : ChangeSpec := { name := "wireRequests", fn := fun _ => fun
  | [d] => { results := [.lit (.bool true)], args := [d] }
  | _ => none }
def wireRequestsRow : OpenClaim := { program := "ytejijghghbicdaa", sum := "c7419f517af65980f10c7583c0850fb0dd7b4c82bd5538a0b795300e79f9c3d5", func := "caldarium/caldariumlaw2.WireRequests", spec := "wireRequests", unfollowed := true, recurses := true, apart := false }
def WireRequestsSaid : Prop := wireRequestsRow.holds Try.pinned (OpenSpec.ofChange wireRequestsSpec)

/-- ITS FALSE NEIGHBOUR: 'it returns false'. Refute it at one input. -/
def wireRequestsWrong : ChangeSpec := { name := "wireRequests", fn := fun _ => fun
  | [d] => { results := [.lit (.bool false)], args := [d] }
  | _ => none }
def WireRequestsWrongFalsely : Prop := wireRequestsRow.holds Try.pinned (OpenSpec.ofChange wireRequestsWrong)

/-- 'caldariumlaw2.WireTurned': WHATEVER THE INPUT: true; the input reads as it did. -/
def wireTurnedSpec : ChangeSpec := { name := "wireTurned", fn := fun _ => fun
  | [d1, d2, d3] => { results := [.lit (.bool true)], args := [d1, d2, d3] }
  | _ => none }
def wireTurnedRow : OpenClaim := { program := "ytejijghghbicdaa", sum := "c7419f517af65980f10c7583c0850fb0dd7b4c82bd5538a0b795300e79f9c3d5", func := "caldarium/caldariumlaw2.WireTurned", spec := "wireTurned", unfollowed := true, recurses := true, apart := false }
def WireTurnedSaid : Prop := wireTurnedRow.holds Try.pinned (OpenSpec.ofChange wireTurnedSpec)

/-- ITS FALSE NEIGHBOUR: 'it returns false'. Refute it at one input. -/
def wireTurnedWrong : ChangeSpec := { name := "wireTurned", fn := fun _ => fun
  | [d1, d2, d3] => { results := [.lit (.bool false)], args := [d1, d2, d3] }
  | _ => none }
def WireTurnedWrongFalsely : Prop := wireTurnedRow.holds Try.pinned (OpenSpec.ofChange wireTurnedWrong)

/-- 'caldariumlaw2.WireBatches': WHATEVER THE INPUT: true; the input reads as it did. -/
def wireBatchesSpec : ChangeSpec := { name := "wireBatches", fn := fun _ => fun
  | [d] => { results := [.lit (.bool true)], args := [d] }
  | _ => none }
def wireBatchesRow : OpenClaim := { program := "ytejijghghbicdaa", sum := "c7419f517af65980f10c7583c0850fb0dd7b4c82bd5538a0b795300e79f9c3d5", func := "caldarium/caldariumlaw2.WireBatches", spec := "wireBatches", unfollowed := true, recurses := true, apart := false }
def WireBatchesSaid : Prop := wireBatchesRow.holds Try.pinned (OpenSpec.ofChange wireBatchesSpec)

/-- ITS FALSE NEIGHBOUR: 'it returns false'. Refute it at one input. -/
def wireBatchesWrong : ChangeSpec := { name := "wireBatches", fn := fun _ => fun
  | [d] => { results := [.lit (.bool false)], args := [d] }
  | _ => none }
def WireBatchesWrongFalsely : Prop := wireBatchesRow.holds Try.pinned (OpenSpec.ofChange wireBatchesWrong)

/-- 'caldariumlaw2.WireReplies': WHATEVER THE INPUT: true; the input reads as it did. -/
def wireRepliesSpec : ChangeSpec := { name := "wireReplies", fn := fun _ => fun
  | [d] => { results := [.lit (.bool true)], args := [d] }
  | _ => none }
def wireRepliesRow : OpenClaim := { program := "ytejijghghbicdaa", sum := "c7419f517af65980f10c7583c0850fb0dd7b4c82bd5538a0b795300e79f9c3d5", func := "caldarium/caldariumlaw2.WireReplies", spec := "wireReplies", unfollowed := true, recurses := true, apart := false }
def WireRepliesSaid : Prop := wireRepliesRow.holds Try.pinned (OpenSpec.ofChange wireRepliesSpec)

/-- ITS FALSE NEIGHBOUR: 'it returns false'. Refute it at one input. -/
def wireRepliesWrong : ChangeSpec := { name := "wireReplies", fn := fun _ => fun
  | [d] => { results := [.lit (.bool false)], args := [d] }
  | _ => none }
def WireRepliesWrongFalsely : Prop := wireRepliesRow.holds Try.pinned (OpenSpec.ofChange wireRepliesWrong)

/-- 'caldariumlaw2.WireCuts': WHATEVER THE INPUT: true; the input reads as it did. -/
def wireCutsSpec : ChangeSpec := { name := "wireCuts", fn := fun _ => fun
  | [d1, d2, d3, d4] => { results := [.lit (.bool true)], args := [d1, d2, d3, d4] }
  | _ => none }
def wireCutsRow : OpenClaim := { program := "ytejijghghbicdaa", sum := "c7419f517af65980f10c7583c0850fb0dd7b4c82bd5538a0b795300e79f9c3d5", func := "caldarium/caldariumlaw2.WireCuts", spec := "wireCuts", unfollowed := true, recurses := true, apart := false }
def WireCutsSaid : Prop := wireCutsRow.holds Try.pinned (OpenSpec.ofChange wireCutsSpec)

/-- ITS FALSE NEIGHBOUR: 'it returns false'. Refute it at one input. -/
def wireCutsWrong : ChangeSpec := { name := "wireCuts", fn := fun _ => fun
  | [d1, d2, d3, d4] => { results := [.lit (.bool false)], args := [d1, d2, d3, d4] }
  | _ => none }
def WireCutsWrongFalsely : Prop := wireCutsRow.holds Try.pinned (OpenSpec.ofChange wireCutsWrong)

/-- 'caldariumlaw2.WireReads': WHATEVER THE INPUT: true; the input reads as it did. -/
def wireReadsSpec : ChangeSpec := { name := "wireReads", fn := fun _ => fun
  | [d] => { results := [.lit (.bool true)], args := [d] }
  | _ => none }
def wireReadsRow : OpenClaim := { program := "ytejijghghbicdaa", sum := "c7419f517af65980f10c7583c0850fb0dd7b4c82bd5538a0b795300e79f9c3d5", func := "caldarium/caldariumlaw2.WireReads", spec := "wireReads", unfollowed := true, recurses := true, apart := false }
def WireReadsSaid : Prop := wireReadsRow.holds Try.pinned (OpenSpec.ofChange wireReadsSpec)

/-- ITS FALSE NEIGHBOUR: 'it returns false'. Refute it at one input. -/
def wireReadsWrong : ChangeSpec := { name := "wireReads", fn := fun _ => fun
  | [d] => { results := [.lit (.bool false)], args := [d] }
  | _ => none }
def WireReadsWrongFalsely : Prop := wireReadsRow.holds Try.pinned (OpenSpec.ofChange wireReadsWrong)

/- THE SECOND FORM. 'bulk': how many values and letters a reading holds, each counted each time it is reached (what is shared counts as often as it is met; a slice's spare places count too). A statement '..UptoSaid' is the law's where the arguments, and the package variables that the reading takes, are together of bulk at most 1048576: NARROWER than '..Said'. Prove '..Said' where nothing that the law and all that it calls make is longer than what came in: it says more and counts as full. Else prove '..UptoSaid'. A law counts once. -/
mutual
def uptoBulk {H : Type} : DataW H → Nat
  | .lit (.string bytes) => bytes.length + 1
  | .lit _ => 1
  | .nil => 1
  | .ptr d => uptoBulk d + 1
  | .slice elems spare => uptoBulkAll elems + uptoBulkAll spare + 1
  | .agg parts => uptoBulkAll parts + 1
  | .iface _ d => uptoBulk d + 1
  | .map entries => uptoBulkEntries entries + 1
  | .held _ => 1
def uptoBulkAll {H : Type} : List (DataW H) → Nat
  | [] => 0
  | d :: r => uptoBulk d + uptoBulkAll r
def uptoBulkEntries {H : Type} : List (Lit × DataW H) → Nat
  | [] => 0
  | x :: r => uptoBulkEntry x + uptoBulkEntries r
def uptoBulkEntry {H : Type} : Lit × DataW H → Nat
  | (.string bytes, d) => bytes.length + uptoBulk d + 1
  | (_, d) => uptoBulk d + 1
 end
def uptoSmall : (H : Type) → List (DataW H) → Bool := fun _ ds => decide (uptoBulkAll ds ≤ 1048576)
def OpenSpec.upto (s : _root_.Go.ChangeSpec) : _root_.Go.OpenSpec := { _root_.Go.OpenSpec.ofChange s with cond := some uptoSmall }

/-- 'caldariumlaw1.PackPuts', WHERE WHAT IT READS IS OF BULK AT MOST 1048576: true; the input reads as it did. -/
def packPutsUptoRow : OpenClaim := { program := "ytejijghghbicdaa", sum := "c7419f517af65980f10c7583c0850fb0dd7b4c82bd5538a0b795300e79f9c3d5", func := "caldarium/caldariumlaw1.PackPuts", spec := "packPuts", apart := false, narrowed := true }
def PackPutsUptoSaid : Prop := packPutsUptoRow.holds Try.pinned (OpenSpec.upto packPutsSpec)

/-- 'caldariumlaw1.PackBack', WHERE WHAT IT READS IS OF BULK AT MOST 1048576: true; the input reads as it did. -/
def packBackUptoRow : OpenClaim := { program := "ytejijghghbicdaa", sum := "c7419f517af65980f10c7583c0850fb0dd7b4c82bd5538a0b795300e79f9c3d5", func := "caldarium/caldariumlaw1.PackBack", spec := "packBack", unfollowed := true, recurses := true, apart := false, narrowed := true }
def PackBackUptoSaid : Prop := packBackUptoRow.holds Try.pinned (OpenSpec.upto packBackSpec)

/-- 'caldariumlaw1.PackCuts', WHERE WHAT IT READS IS OF BULK AT MOST 1048576: true; the input reads as it did. -/
def packCutsUptoRow : OpenClaim := { program := "ytejijghghbicdaa", sum := "c7419f517af65980f10c7583c0850fb0dd7b4c82bd5538a0b795300e79f9c3d5", func := "caldarium/caldariumlaw1.PackCuts", spec := "packCuts", unfollowed := true, recurses := true, apart := false, narrowed := true }
def PackCutsUptoSaid : Prop := packCutsUptoRow.holds Try.pinned (OpenSpec.upto packCutsSpec)

/-- 'caldariumlaw1.PackLong', WHERE WHAT IT READS IS OF BULK AT MOST 1048576: true; the input reads as it did. -/
def packLongUptoRow : OpenClaim := { program := "ytejijghghbicdaa", sum := "c7419f517af65980f10c7583c0850fb0dd7b4c82bd5538a0b795300e79f9c3d5", func := "caldarium/caldariumlaw1.PackLong", spec := "packLong", unfollowed := true, recurses := true, apart := false, narrowed := true }
def PackLongUptoSaid : Prop := packLongUptoRow.holds Try.pinned (OpenSpec.upto packLongSpec)

/-- 'caldariumlaw1.PackReads', WHERE WHAT IT READS IS OF BULK AT MOST 1048576: true; the input reads as it did. -/
def packReadsUptoRow : OpenClaim := { program := "ytejijghghbicdaa", sum := "c7419f517af65980f10c7583c0850fb0dd7b4c82bd5538a0b795300e79f9c3d5", func := "caldarium/caldariumlaw1.PackReads", spec := "packReads", unfollowed := true, recurses := true, apart := false, narrowed := true }
def PackReadsUptoSaid : Prop := packReadsUptoRow.holds Try.pinned (OpenSpec.upto packReadsSpec)

/-- 'caldariumlaw2.WireWrong', WHERE WHAT IT READS IS OF BULK AT MOST 1048576: true; the input reads as it did. -/
def wireWrongUptoRow : OpenClaim := { program := "ytejijghghbicdaa", sum := "c7419f517af65980f10c7583c0850fb0dd7b4c82bd5538a0b795300e79f9c3d5", func := "caldarium/caldariumlaw2.WireWrong", spec := "wireWrong", apart := false, narrowed := true }
def WireWrongUptoSaid : Prop := wireWrongUptoRow.holds Try.pinned (OpenSpec.upto wireWrongSpec)

/-- 'caldariumlaw2.WireApart', WHERE WHAT IT READS IS OF BULK AT MOST 1048576: true; the input reads as it did. -/
def wireApartUptoRow : OpenClaim := { program := "ytejijghghbicdaa", sum := "c7419f517af65980f10c7583c0850fb0dd7b4c82bd5538a0b795300e79f9c3d5", func := "caldarium/caldariumlaw2.WireApart", spec := "wireApart", apart := false, narrowed := true }
def WireApartUptoSaid : Prop := wireApartUptoRow.holds Try.pinned (OpenSpec.upto wireApartSpec)

/-- 'caldariumlaw2.WireErrors', WHERE WHAT IT READS IS OF BULK AT MOST 1048576: true; the input reads as it did. -/
def wireErrorsUptoRow : OpenClaim := { program := "ytejijghghbicdaa", sum := "c7419f517af65980f10c7583c0850fb0dd7b4c82bd5538a0b795300e79f9c3d5", func := "caldarium/caldariumlaw2.WireErrors", spec := "wireErrors", apart := false, narrowed := true }
def WireErrorsUptoSaid : Prop := wireErrorsUptoRow.holds Try.pinned (OpenSpec.upto wireErrorsSpec)

/-- 'caldariumlaw2.WirePairs', WHERE WHAT IT READS IS OF BULK AT MOST 1048576: true; the input reads as it did. -/
def wirePairsUptoRow : OpenClaim := { program := "ytejijghghbicdaa", sum := "c7419f517af65980f10c7583c0850fb0dd7b4c82bd5538a0b795300e79f9c3d5", func := "caldarium/caldariumlaw2.WirePairs", spec := "wirePairs", apart := false, narrowed := true }
def WirePairsUptoSaid : Prop := wirePairsUptoRow.holds Try.pinned (OpenSpec.upto wirePairsSpec)

/-- 'caldariumlaw2.WireRequests', WHERE WHAT IT READS IS OF BULK AT MOST 1048576: true; the input reads as it did. -/
def wireRequestsUptoRow : OpenClaim := { program := "ytejijghghbicdaa", sum := "c7419f517af65980f10c7583c0850fb0dd7b4c82bd5538a0b795300e79f9c3d5", func := "caldarium/caldariumlaw2.WireRequests", spec := "wireRequests", unfollowed := true, recurses := true, apart := false, narrowed := true }
def WireRequestsUptoSaid : Prop := wireRequestsUptoRow.holds Try.pinned (OpenSpec.upto wireRequestsSpec)

/-- 'caldariumlaw2.WireTurned', WHERE WHAT IT READS IS OF BULK AT MOST 1048576: true; the input reads as it did. -/
def wireTurnedUptoRow : OpenClaim := { program := "ytejijghghbicdaa", sum := "c7419f517af65980f10c7583c0850fb0dd7b4c82bd5538a0b795300e79f9c3d5", func := "caldarium/caldariumlaw2.WireTurned", spec := "wireTurned", unfollowed := true, recurses := true, apart := false, narrowed := true }
def WireTurnedUptoSaid : Prop := wireTurnedUptoRow.holds Try.pinned (OpenSpec.upto wireTurnedSpec)

/-- 'caldariumlaw2.WireBatches', WHERE WHAT IT READS IS OF BULK AT MOST 1048576: true; the input reads as it did. -/
def wireBatchesUptoRow : OpenClaim := { program := "ytejijghghbicdaa", sum := "c7419f517af65980f10c7583c0850fb0dd7b4c82bd5538a0b795300e79f9c3d5", func := "caldarium/caldariumlaw2.WireBatches", spec := "wireBatches", unfollowed := true, recurses := true, apart := false, narrowed := true }
def WireBatchesUptoSaid : Prop := wireBatchesUptoRow.holds Try.pinned (OpenSpec.upto wireBatchesSpec)

/-- 'caldariumlaw2.WireReplies', WHERE WHAT IT READS IS OF BULK AT MOST 1048576: true; the input reads as it did. -/
def wireRepliesUptoRow : OpenClaim := { program := "ytejijghghbicdaa", sum := "c7419f517af65980f10c7583c0850fb0dd7b4c82bd5538a0b795300e79f9c3d5", func := "caldarium/caldariumlaw2.WireReplies", spec := "wireReplies", unfollowed := true, recurses := true, apart := false, narrowed := true }
def WireRepliesUptoSaid : Prop := wireRepliesUptoRow.holds Try.pinned (OpenSpec.upto wireRepliesSpec)

/-- 'caldariumlaw2.WireCuts', WHERE WHAT IT READS IS OF BULK AT MOST 1048576: true; the input reads as it did. -/
def wireCutsUptoRow : OpenClaim := { program := "ytejijghghbicdaa", sum := "c7419f517af65980f10c7583c0850fb0dd7b4c82bd5538a0b795300e79f9c3d5", func := "caldarium/caldariumlaw2.WireCuts", spec := "wireCuts", unfollowed := true, recurses := true, apart := false, narrowed := true }
def WireCutsUptoSaid : Prop := wireCutsUptoRow.holds Try.pinned (OpenSpec.upto wireCutsSpec)

/-- 'caldariumlaw2.WireReads', WHERE WHAT IT READS IS OF BULK AT MOST 1048576: true; the input reads as it did. -/
def wireReadsUptoRow : OpenClaim := { program := "ytejijghghbicdaa", sum := "c7419f517af65980f10c7583c0850fb0dd7b4c82bd5538a0b795300e79f9c3d5", func := "caldarium/caldariumlaw2.WireReads", spec := "wireReads", unfollowed := true, recurses := true, apart := false, narrowed := true }
def WireReadsUptoSaid : Prop := wireReadsUptoRow.holds Try.pinned (OpenSpec.upto wireReadsSpec)

end Rows
end Go.Proofs.Ytejijghghbicdaa
