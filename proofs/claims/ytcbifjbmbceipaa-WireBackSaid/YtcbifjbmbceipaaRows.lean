/-
  No cell of these rows narrows 'for every input' (looked for: loops, veiled, ifaces, maps, wideKeys, modest, calm, conditions, laid).
  DERIVED. THE GIVEN ROWS OF THIS SEAT. 6 by the template 'for every input the law returns true; each argument reads behind the call as it read before'; 0 by the template 'total and deterministic' (their statements: YtcbifjbmbceipaaTotals.lean).
  GIVEN WITH THE SEED: the statements are not yours to turn. If you find one false, say at which input.
  Laid BY PROGRAM, IN A SANDBOX (cutbox-rows.mjs): the forced cells as the released guide's own fill.sh prints them over the translation 01a8057408a04399… (all of the seat's roots in one cut). By AI agents, Wed Nov 11 2026. No macro, syntax, notation, axiom, sorry.
-/
import Derived.Test.YtcbifjbmbceipaaChecked
import GoSem.Claim
import GoSem.ClaimJoined
import GoSem.ClaimMapViews
import Derived.JoinedTies
import Derived.KernelRfl
namespace Go.Proofs.Ytcbifjbmbceipaa
/- THE CELL 'sum', in the pinned program and in every row, IS THE sha256 OF THE DUMP (.gsa) THAT YtcbifjbmbceipaaProg.lean LOADS. Nothing in Lean hashes anything: it is a label: what it is worth is what the hold of that sum in a sandbox is worth. -/
noncomputable def Try.pinned : Pinned := { name := "ytcbifjbmbceipaa", sum := "01a8057408a04399aebe20121e1ab78ca31f8dbb9b7b786080c2ac23414f876d", checked := Try.checked }
namespace Rows
def none {H : Type} : Left H := { results := [], args := [] }

/-- 'leafmeshlaw02.WireSubs': WHATEVER THE INPUT: true; the input reads as it did. -/
def wireSubsSpec : ChangeSpec := { name := "wireSubs", fn := fun _ => fun
  | [d1, d2] => { results := [.lit (.bool true)], args := [d1, d2] }
  | _ => none }
def wireSubsRow : OpenClaim := { program := "ytcbifjbmbceipaa", sum := "01a8057408a04399aebe20121e1ab78ca31f8dbb9b7b786080c2ac23414f876d", func := "leafmesh/leafmeshlaw02.WireSubs", spec := "wireSubs", apart := false }
def WireSubsSaid : Prop := wireSubsRow.holds Try.pinned (OpenSpec.ofChange wireSubsSpec)

/-- ITS FALSE NEIGHBOUR: 'it returns false'. Refute it at one input. -/
def wireSubsWrong : ChangeSpec := { name := "wireSubs", fn := fun _ => fun
  | [d1, d2] => { results := [.lit (.bool false)], args := [d1, d2] }
  | _ => none }
def WireSubsWrongFalsely : Prop := wireSubsRow.holds Try.pinned (OpenSpec.ofChange wireSubsWrong)

/-- 'leafmeshlaw02.WireReads': WHATEVER THE INPUT: true; the input reads as it did. -/
def wireReadsSpec : ChangeSpec := { name := "wireReads", fn := fun _ => fun
  | [d1, d2] => { results := [.lit (.bool true)], args := [d1, d2] }
  | _ => none }
def wireReadsRow : OpenClaim := { program := "ytcbifjbmbceipaa", sum := "01a8057408a04399aebe20121e1ab78ca31f8dbb9b7b786080c2ac23414f876d", func := "leafmesh/leafmeshlaw02.WireReads", spec := "wireReads", apart := false }
def WireReadsSaid : Prop := wireReadsRow.holds Try.pinned (OpenSpec.ofChange wireReadsSpec)

/-- ITS FALSE NEIGHBOUR: 'it returns false'. Refute it at one input. -/
def wireReadsWrong : ChangeSpec := { name := "wireReads", fn := fun _ => fun
  | [d1, d2] => { results := [.lit (.bool false)], args := [d1, d2] }
  | _ => none }
def WireReadsWrongFalsely : Prop := wireReadsRow.holds Try.pinned (OpenSpec.ofChange wireReadsWrong)

/-- 'leafmeshlaw02.WireFaults': WHATEVER THE INPUT: true; the input reads as it did. -/
def wireFaultsSpec : ChangeSpec := { name := "wireFaults", fn := fun _ => fun
  | [d1, d2, d3, d4] => { results := [.lit (.bool true)], args := [d1, d2, d3, d4] }
  | _ => none }
def wireFaultsRow : OpenClaim := { program := "ytcbifjbmbceipaa", sum := "01a8057408a04399aebe20121e1ab78ca31f8dbb9b7b786080c2ac23414f876d", func := "leafmesh/leafmeshlaw02.WireFaults", spec := "wireFaults", apart := false }
def WireFaultsSaid : Prop := wireFaultsRow.holds Try.pinned (OpenSpec.ofChange wireFaultsSpec)

/-- ITS FALSE NEIGHBOUR: 'it returns false'. Refute it at one input. -/
def wireFaultsWrong : ChangeSpec := { name := "wireFaults", fn := fun _ => fun
  | [d1, d2, d3, d4] => { results := [.lit (.bool false)], args := [d1, d2, d3, d4] }
  | _ => none }
def WireFaultsWrongFalsely : Prop := wireFaultsRow.holds Try.pinned (OpenSpec.ofChange wireFaultsWrong)

/-- 'leafmeshlaw02.WireWrites': WHATEVER THE INPUT: true; the input reads as it did. -/
def wireWritesSpec : ChangeSpec := { name := "wireWrites", fn := fun _ => fun
  | [d1, d2] => { results := [.lit (.bool true)], args := [d1, d2] }
  | _ => none }
def wireWritesRow : OpenClaim := { program := "ytcbifjbmbceipaa", sum := "01a8057408a04399aebe20121e1ab78ca31f8dbb9b7b786080c2ac23414f876d", func := "leafmesh/leafmeshlaw02.WireWrites", spec := "wireWrites", apart := false }
def WireWritesSaid : Prop := wireWritesRow.holds Try.pinned (OpenSpec.ofChange wireWritesSpec)

/-- ITS FALSE NEIGHBOUR: 'it returns false'. Refute it at one input. -/
def wireWritesWrong : ChangeSpec := { name := "wireWrites", fn := fun _ => fun
  | [d1, d2] => { results := [.lit (.bool false)], args := [d1, d2] }
  | _ => none }
def WireWritesWrongFalsely : Prop := wireWritesRow.holds Try.pinned (OpenSpec.ofChange wireWritesWrong)

/-- 'leafmeshlaw02.WireBack': WHATEVER THE INPUT: true; the input reads as it did. -/
def wireBackSpec : ChangeSpec := { name := "wireBack", fn := fun _ => fun
  | [d] => { results := [.lit (.bool true)], args := [d] }
  | _ => none }
def wireBackRow : OpenClaim := { program := "ytcbifjbmbceipaa", sum := "01a8057408a04399aebe20121e1ab78ca31f8dbb9b7b786080c2ac23414f876d", func := "leafmesh/leafmeshlaw02.WireBack", spec := "wireBack", apart := false }
def WireBackSaid : Prop := wireBackRow.holds Try.pinned (OpenSpec.ofChange wireBackSpec)

/-- ITS FALSE NEIGHBOUR: 'it returns false'. Refute it at one input. -/
def wireBackWrong : ChangeSpec := { name := "wireBack", fn := fun _ => fun
  | [d] => { results := [.lit (.bool false)], args := [d] }
  | _ => none }
def WireBackWrongFalsely : Prop := wireBackRow.holds Try.pinned (OpenSpec.ofChange wireBackWrong)

/-- 'leafmeshlaw02.WireNames': WHATEVER THE INPUT: true; the input reads as it did. -/
def wireNamesSpec : ChangeSpec := { name := "wireNames", fn := fun _ => fun
  | [] => { results := [.lit (.bool true)], args := [] }
  | _ => none }
def wireNamesRow : OpenClaim := { program := "ytcbifjbmbceipaa", sum := "01a8057408a04399aebe20121e1ab78ca31f8dbb9b7b786080c2ac23414f876d", func := "leafmesh/leafmeshlaw02.WireNames", spec := "wireNames", apart := false }
def WireNamesSaid : Prop := wireNamesRow.holds Try.pinned (OpenSpec.ofChange wireNamesSpec)

/-- ITS FALSE NEIGHBOUR: 'it returns false'. Refute it at one input. -/
def wireNamesWrong : ChangeSpec := { name := "wireNames", fn := fun _ => fun
  | [] => { results := [.lit (.bool false)], args := [] }
  | _ => none }
def WireNamesWrongFalsely : Prop := wireNamesRow.holds Try.pinned (OpenSpec.ofChange wireNamesWrong)

/- THE SECOND FORM. 'bulk': how many values and letters a reading holds, each counted each time it is reached (what is shared counts as often as it is met; a slice's spare places count too). A statement '..UptoSaid' is the law's where the arguments, and the package variables that the reading takes, are together of bulk at most 1048576: NARROWER than '..Said'. Prove '..Said' where nothing that the law and all that it calls make is longer than what came in: it says more and counts as full. Else prove '..UptoSaid'. A law counts once. -/
mutual
def uptoBulk {H : Type} : DataW H → Nat
  | .lit (.string bytes) => bytes.length + 1
  | .lit _ => 1
  | .nil => 1
  | .ptr d => uptoBulk d + 1
  | .slice elems spare => uptoBulkAll elems + uptoBulkAll spare + 1
  | .agg parts => uptoBulkAll parts + 1
  | .iface _ d => uptoBulk d + 1
  | .map entries => uptoBulkEntries entries + 1
  | .held _ => 1
def uptoBulkAll {H : Type} : List (DataW H) → Nat
  | [] => 0
  | d :: r => uptoBulk d + uptoBulkAll r
def uptoBulkEntries {H : Type} : List (Lit × DataW H) → Nat
  | [] => 0
  | x :: r => uptoBulkEntry x + uptoBulkEntries r
def uptoBulkEntry {H : Type} : Lit × DataW H → Nat
  | (.string bytes, d) => bytes.length + uptoBulk d + 1
  | (_, d) => uptoBulk d + 1
 end
def uptoSmall : (H : Type) → List (DataW H) → Bool := fun _ ds => decide (uptoBulkAll ds ≤ 1048576)
def OpenSpec.upto (s : _root_.Go.ChangeSpec) : _root_.Go.OpenSpec := { _root_.Go.OpenSpec.ofChange s with cond := some uptoSmall }

/-- 'leafmeshlaw02.WireSubs', WHERE WHAT IT READS IS OF BULK AT MOST 1048576: true; the input reads as it did. -/
def wireSubsUptoRow : OpenClaim := { program := "ytcbifjbmbceipaa", sum := "01a8057408a04399aebe20121e1ab78ca31f8dbb9b7b786080c2ac23414f876d", func := "leafmesh/leafmeshlaw02.WireSubs", spec := "wireSubs", apart := false, narrowed := true }
def WireSubsUptoSaid : Prop := wireSubsUptoRow.holds Try.pinned (OpenSpec.upto wireSubsSpec)

/-- 'leafmeshlaw02.WireReads', WHERE WHAT IT READS IS OF BULK AT MOST 1048576: true; the input reads as it did. -/
def wireReadsUptoRow : OpenClaim := { program := "ytcbifjbmbceipaa", sum := "01a8057408a04399aebe20121e1ab78ca31f8dbb9b7b786080c2ac23414f876d", func := "leafmesh/leafmeshlaw02.WireReads", spec := "wireReads", apart := false, narrowed := true }
def WireReadsUptoSaid : Prop := wireReadsUptoRow.holds Try.pinned (OpenSpec.upto wireReadsSpec)

/-- 'leafmeshlaw02.WireFaults', WHERE WHAT IT READS IS OF BULK AT MOST 1048576: true; the input reads as it did. -/
def wireFaultsUptoRow : OpenClaim := { program := "ytcbifjbmbceipaa", sum := "01a8057408a04399aebe20121e1ab78ca31f8dbb9b7b786080c2ac23414f876d", func := "leafmesh/leafmeshlaw02.WireFaults", spec := "wireFaults", apart := false, narrowed := true }
def WireFaultsUptoSaid : Prop := wireFaultsUptoRow.holds Try.pinned (OpenSpec.upto wireFaultsSpec)

/-- 'leafmeshlaw02.WireWrites', WHERE WHAT IT READS IS OF BULK AT MOST 1048576: true; the input reads as it did. -/
def wireWritesUptoRow : OpenClaim := { program := "ytcbifjbmbceipaa", sum := "01a8057408a04399aebe20121e1ab78ca31f8dbb9b7b786080c2ac23414f876d", func := "leafmesh/leafmeshlaw02.WireWrites", spec := "wireWrites", apart := false, narrowed := true }
def WireWritesUptoSaid : Prop := wireWritesUptoRow.holds Try.pinned (OpenSpec.upto wireWritesSpec)

/-- 'leafmeshlaw02.WireBack', WHERE WHAT IT READS IS OF BULK AT MOST 1048576: true; the input reads as it did. -/
def wireBackUptoRow : OpenClaim := { program := "ytcbifjbmbceipaa", sum := "01a8057408a04399aebe20121e1ab78ca31f8dbb9b7b786080c2ac23414f876d", func := "leafmesh/leafmeshlaw02.WireBack", spec := "wireBack", apart := false, narrowed := true }
def WireBackUptoSaid : Prop := wireBackUptoRow.holds Try.pinned (OpenSpec.upto wireBackSpec)

/-- 'leafmeshlaw02.WireNames', WHERE WHAT IT READS IS OF BULK AT MOST 1048576: true; the input reads as it did. -/
def wireNamesUptoRow : OpenClaim := { program := "ytcbifjbmbceipaa", sum := "01a8057408a04399aebe20121e1ab78ca31f8dbb9b7b786080c2ac23414f876d", func := "leafmesh/leafmeshlaw02.WireNames", spec := "wireNames", apart := false, narrowed := true }
def WireNamesUptoSaid : Prop := wireNamesUptoRow.holds Try.pinned (OpenSpec.upto wireNamesSpec)

end Rows
end Go.Proofs.Ytcbifjbmbceipaa
