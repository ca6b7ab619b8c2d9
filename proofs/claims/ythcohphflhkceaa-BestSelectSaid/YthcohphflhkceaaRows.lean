/-
  No cell of these rows narrows 'for every input' (looked for: loops, veiled, ifaces, maps, wideKeys, modest, calm, conditions, laid).
  DERIVED. THE GIVEN ROWS OF THIS SEAT. 6 by the template 'for every input the law returns true; each argument reads behind the call as it read before'; 0 by the template 'total and deterministic' (their statements: YthcohphflhkceaaTotals.lean).
  GIVEN WITH THE SEED: the statements are not yours to turn. If you find one false, say at which input.
  Laid BY PROGRAM, IN A SANDBOX (cutbox-rows.mjs): the forced cells as the released guide's own fill.sh prints them over the translation bc74b4c364475200… (all of the seat's roots in one cut). By AI agents, Wed Nov 11 2026. No macro, syntax, notation, axiom, sorry.
-/
import Derived.Test.YthcohphflhkceaaChecked
import GoSem.Claim
import GoSem.ClaimJoined
import GoSem.ClaimMapViews
import Derived.JoinedTies
import Derived.KernelRfl
namespace Go.Proofs.Ythcohphflhkceaa
/- THE CELL 'sum', in the pinned program and in every row, IS THE sha256 OF THE DUMP (.gsa) THAT YthcohphflhkceaaProg.lean LOADS. Nothing in Lean hashes anything: it is a label: what it is worth is what the hold of that sum in a sandbox is worth. -/
noncomputable def Try.pinned : Pinned := { name := "ythcohphflhkceaa", sum := "bc74b4c364475200d74f8e2fee5355dcc783e13db01c7edf4220d3968d03d912", checked := Try.checked }
namespace Rows
def none {H : Type} : Left H := { results := [], args := [] }

/-- 'leafmeshlaw18.BestOrder': WHATEVER THE INPUT: true; the input reads as it did. -/
def bestOrderSpec : ChangeSpec := { name := "bestOrder", fn := fun _ => fun
  | [d1, d2, d3, d4] => { results := [.lit (.bool true)], args := [d1, d2, d3, d4] }
  | _ => none }
def bestOrderRow : OpenClaim := { program := "ythcohphflhkceaa", sum := "bc74b4c364475200d74f8e2fee5355dcc783e13db01c7edf4220d3968d03d912", func := "leafmesh/leafmeshlaw18.BestOrder", spec := "bestOrder", unfollowed := true, recurses := true, apart := false }
def BestOrderSaid : Prop := bestOrderRow.holds Try.pinned (OpenSpec.ofChange bestOrderSpec)

/-- ITS FALSE NEIGHBOUR: 'it returns false'. Refute it at one input. -/
def bestOrderWrong : ChangeSpec := { name := "bestOrder", fn := fun _ => fun
  | [d1, d2, d3, d4] => { results := [.lit (.bool false)], args := [d1, d2, d3, d4] }
  | _ => none }
def BestOrderWrongFalsely : Prop := bestOrderRow.holds Try.pinned (OpenSpec.ofChange bestOrderWrong)

/-- 'leafmeshlaw18.BestSteps': WHATEVER THE INPUT: true; the input reads as it did. -/
def bestStepsSpec : ChangeSpec := { name := "bestSteps", fn := fun _ => fun
  | [d1, d2, d3] => { results := [.lit (.bool true)], args := [d1, d2, d3] }
  | _ => none }
def bestStepsRow : OpenClaim := { program := "ythcohphflhkceaa", sum := "bc74b4c364475200d74f8e2fee5355dcc783e13db01c7edf4220d3968d03d912", func := "leafmesh/leafmeshlaw18.BestSteps", spec := "bestSteps", unfollowed := true, recurses := true, apart := false }
def BestStepsSaid : Prop := bestStepsRow.holds Try.pinned (OpenSpec.ofChange bestStepsSpec)

/-- ITS FALSE NEIGHBOUR: 'it returns false'. Refute it at one input. -/
def bestStepsWrong : ChangeSpec := { name := "bestSteps", fn := fun _ => fun
  | [d1, d2, d3] => { results := [.lit (.bool false)], args := [d1, d2, d3] }
  | _ => none }
def BestStepsWrongFalsely : Prop := bestStepsRow.holds Try.pinned (OpenSpec.ofChange bestStepsWrong)

/-- 'leafmeshlaw18.BestPicked': WHATEVER THE INPUT: true; the input reads as it did. -/
def bestPickedSpec : ChangeSpec := { name := "bestPicked", fn := fun _ => fun
  | [d1, d2, d3] => { results := [.lit (.bool true)], args := [d1, d2, d3] }
  | _ => none }
def bestPickedRow : OpenClaim := { program := "ythcohphflhkceaa", sum := "bc74b4c364475200d74f8e2fee5355dcc783e13db01c7edf4220d3968d03d912", func := "leafmesh/leafmeshlaw18.BestPicked", spec := "bestPicked", unfollowed := true, recurses := true, apart := false }
def BestPickedSaid : Prop := bestPickedRow.holds Try.pinned (OpenSpec.ofChange bestPickedSpec)

/-- ITS FALSE NEIGHBOUR: 'it returns false'. Refute it at one input. -/
def bestPickedWrong : ChangeSpec := { name := "bestPicked", fn := fun _ => fun
  | [d1, d2, d3] => { results := [.lit (.bool false)], args := [d1, d2, d3] }
  | _ => none }
def BestPickedWrongFalsely : Prop := bestPickedRow.holds Try.pinned (OpenSpec.ofChange bestPickedWrong)

/-- 'leafmeshlaw18.BestNames': WHATEVER THE INPUT: true; the input reads as it did. -/
def bestNamesSpec : ChangeSpec := { name := "bestNames", fn := fun _ => fun
  | [] => { results := [.lit (.bool true)], args := [] }
  | _ => none }
def bestNamesRow : OpenClaim := { program := "ythcohphflhkceaa", sum := "bc74b4c364475200d74f8e2fee5355dcc783e13db01c7edf4220d3968d03d912", func := "leafmesh/leafmeshlaw18.BestNames", spec := "bestNames", unfollowed := true, recurses := true, apart := false }
def BestNamesSaid : Prop := bestNamesRow.holds Try.pinned (OpenSpec.ofChange bestNamesSpec)

/-- ITS FALSE NEIGHBOUR: 'it returns false'. Refute it at one input. -/
def bestNamesWrong : ChangeSpec := { name := "bestNames", fn := fun _ => fun
  | [] => { results := [.lit (.bool false)], args := [] }
  | _ => none }
def BestNamesWrongFalsely : Prop := bestNamesRow.holds Try.pinned (OpenSpec.ofChange bestNamesWrong)

/-- 'leafmeshlaw18.BestCalls': WHATEVER THE INPUT: true; the input reads as it did. -/
def bestCallsSpec : ChangeSpec := { name := "bestCalls", fn := fun _ => fun
  | [d1, d2, d3, d4] => { results := [.lit (.bool true)], args := [d1, d2, d3, d4] }
  | _ => none }
def bestCallsRow : OpenClaim := { program := "ythcohphflhkceaa", sum := "bc74b4c364475200d74f8e2fee5355dcc783e13db01c7edf4220d3968d03d912", func := "leafmesh/leafmeshlaw18.BestCalls", spec := "bestCalls", unfollowed := true, recurses := true, apart := false }
def BestCallsSaid : Prop := bestCallsRow.holds Try.pinned (OpenSpec.ofChange bestCallsSpec)

/-- ITS FALSE NEIGHBOUR: 'it returns false'. Refute it at one input. -/
def bestCallsWrong : ChangeSpec := { name := "bestCalls", fn := fun _ => fun
  | [d1, d2, d3, d4] => { results := [.lit (.bool false)], args := [d1, d2, d3, d4] }
  | _ => none }
def BestCallsWrongFalsely : Prop := bestCallsRow.holds Try.pinned (OpenSpec.ofChange bestCallsWrong)

/-- 'leafmeshlaw18.BestSelect': WHATEVER THE INPUT: true; the input reads as it did. -/
def bestSelectSpec : ChangeSpec := { name := "bestSelect", fn := fun _ => fun
  | [d1, d2] => { results := [.lit (.bool true)], args := [d1, d2] }
  | _ => none }
def bestSelectRow : OpenClaim := { program := "ythcohphflhkceaa", sum := "bc74b4c364475200d74f8e2fee5355dcc783e13db01c7edf4220d3968d03d912", func := "leafmesh/leafmeshlaw18.BestSelect", spec := "bestSelect", unfollowed := true, recurses := true, apart := false }
def BestSelectSaid : Prop := bestSelectRow.holds Try.pinned (OpenSpec.ofChange bestSelectSpec)

/-- ITS FALSE NEIGHBOUR: 'it returns false'. Refute it at one input. -/
def bestSelectWrong : ChangeSpec := { name := "bestSelect", fn := fun _ => fun
  | [d1, d2] => { results := [.lit (.bool false)], args := [d1, d2] }
  | _ => none }
def BestSelectWrongFalsely : Prop := bestSelectRow.holds Try.pinned (OpenSpec.ofChange bestSelectWrong)

/- THE SECOND FORM. 'bulk': how many values and letters a reading holds, each counted each time it is reached (what is shared counts as often as it is met; a slice's spare places count too). A statement '..UptoSaid' is the law's where the arguments, and the package variables that the reading takes, are together of bulk at most 1048576: NARROWER than '..Said'. Prove '..Said' where nothing that the law and all that it calls make is longer than what came in: it says more and counts as full. Else prove '..UptoSaid'. A law counts once. -/
mutual
def uptoBulk {H : Type} : DataW H → Nat
  | .lit (.string bytes) => bytes.length + 1
  | .lit _ => 1
  | .nil => 1
  | .ptr d => uptoBulk d + 1
  | .slice elems spare => uptoBulkAll elems + uptoBulkAll spare + 1
  | .agg parts => uptoBulkAll parts + 1
  | .iface _ d => uptoBulk d + 1
  | .map entries => uptoBulkEntries entries + 1
  | .held _ => 1
def uptoBulkAll {H : Type} : List (DataW H) → Nat
  | [] => 0
  | d :: r => uptoBulk d + uptoBulkAll r
def uptoBulkEntries {H : Type} : List (Lit × DataW H) → Nat
  | [] => 0
  | x :: r => uptoBulkEntry x + uptoBulkEntries r
def uptoBulkEntry {H : Type} : Lit × DataW H → Nat
  | (.string bytes, d) => bytes.length + uptoBulk d + 1
  | (_, d) => uptoBulk d + 1
 end
def uptoSmall : (H : Type) → List (DataW H) → Bool := fun _ ds => decide (uptoBulkAll ds ≤ 1048576)
def OpenSpec.upto (s : _root_.Go.ChangeSpec) : _root_.Go.OpenSpec := { _root_.Go.OpenSpec.ofChange s with cond := some uptoSmall }

/-- 'leafmeshlaw18.BestOrder', WHERE WHAT IT READS IS OF BULK AT MOST 1048576: true; the input reads as it did. -/
def bestOrderUptoRow : OpenClaim := { program := "ythcohphflhkceaa", sum := "bc74b4c364475200d74f8e2fee5355dcc783e13db01c7edf4220d3968d03d912", func := "leafmesh/leafmeshlaw18.BestOrder", spec := "bestOrder", unfollowed := true, recurses := true, apart := false, narrowed := true }
def BestOrderUptoSaid : Prop := bestOrderUptoRow.holds Try.pinned (OpenSpec.upto bestOrderSpec)

/-- 'leafmeshlaw18.BestSteps', WHERE WHAT IT READS IS OF BULK AT MOST 1048576: true; the input reads as it did. -/
def bestStepsUptoRow : OpenClaim := { program := "ythcohphflhkceaa", sum := "bc74b4c364475200d74f8e2fee5355dcc783e13db01c7edf4220d3968d03d912", func := "leafmesh/leafmeshlaw18.BestSteps", spec := "bestSteps", unfollowed := true, recurses := true, apart := false, narrowed := true }
def BestStepsUptoSaid : Prop := bestStepsUptoRow.holds Try.pinned (OpenSpec.upto bestStepsSpec)

/-- 'leafmeshlaw18.BestPicked', WHERE WHAT IT READS IS OF BULK AT MOST 1048576: true; the input reads as it did. -/
def bestPickedUptoRow : OpenClaim := { program := "ythcohphflhkceaa", sum := "bc74b4c364475200d74f8e2fee5355dcc783e13db01c7edf4220d3968d03d912", func := "leafmesh/leafmeshlaw18.BestPicked", spec := "bestPicked", unfollowed := true, recurses := true, apart := false, narrowed := true }
def BestPickedUptoSaid : Prop := bestPickedUptoRow.holds Try.pinned (OpenSpec.upto bestPickedSpec)

/-- 'leafmeshlaw18.BestNames', WHERE WHAT IT READS IS OF BULK AT MOST 1048576: true; the input reads as it did. -/
def bestNamesUptoRow : OpenClaim := { program := "ythcohphflhkceaa", sum := "bc74b4c364475200d74f8e2fee5355dcc783e13db01c7edf4220d3968d03d912", func := "leafmesh/leafmeshlaw18.BestNames", spec := "bestNames", unfollowed := true, recurses := true, apart := false, narrowed := true }
def BestNamesUptoSaid : Prop := bestNamesUptoRow.holds Try.pinned (OpenSpec.upto bestNamesSpec)

/-- 'leafmeshlaw18.BestCalls', WHERE WHAT IT READS IS OF BULK AT MOST 1048576: true; the input reads as it did. -/
def bestCallsUptoRow : OpenClaim := { program := "ythcohphflhkceaa", sum := "bc74b4c364475200d74f8e2fee5355dcc783e13db01c7edf4220d3968d03d912", func := "leafmesh/leafmeshlaw18.BestCalls", spec := "bestCalls", unfollowed := true, recurses := true, apart := false, narrowed := true }
def BestCallsUptoSaid : Prop := bestCallsUptoRow.holds Try.pinned (OpenSpec.upto bestCallsSpec)

/-- 'leafmeshlaw18.BestSelect', WHERE WHAT IT READS IS OF BULK AT MOST 1048576: true; the input reads as it did. -/
def bestSelectUptoRow : OpenClaim := { program := "ythcohphflhkceaa", sum := "bc74b4c364475200d74f8e2fee5355dcc783e13db01c7edf4220d3968d03d912", func := "leafmesh/leafmeshlaw18.BestSelect", spec := "bestSelect", unfollowed := true, recurses := true, apart := false, narrowed := true }
def BestSelectUptoSaid : Prop := bestSelectUptoRow.holds Try.pinned (OpenSpec.upto bestSelectSpec)

end Rows
end Go.Proofs.Ythcohphflhkceaa
