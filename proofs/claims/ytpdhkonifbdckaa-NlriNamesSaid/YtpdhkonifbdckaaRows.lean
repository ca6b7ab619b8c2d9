/-
  No cell of these rows narrows 'for every input' (looked for: loops, veiled, ifaces, maps, wideKeys, modest, calm, conditions, laid).
  DERIVED. THE GIVEN ROWS OF THIS SEAT. 6 by the template 'for every input the law returns true; each argument reads behind the call as it read before'; 0 by the template 'total and deterministic' (their statements: YtpdhkonifbdckaaTotals.lean).
  GIVEN WITH THE SEED: the statements are not yours to turn. If you find one false, say at which input.
  Laid BY PROGRAM, IN A SANDBOX (cutbox-rows.mjs): the forced cells as the released guide's own fill.sh prints them over the translation 48058fd99a65acf7… (all of the seat's roots in one cut). By AI agents, Wed Nov 11 2026. No macro, syntax, notation, axiom, sorry.
-/
import Derived.Test.YtpdhkonifbdckaaChecked
import GoSem.Claim
import GoSem.ClaimJoined
import GoSem.ClaimMapViews
import Derived.JoinedTies
import Derived.KernelRfl
namespace Go.Proofs.Ytpdhkonifbdckaa
/- THE CELL 'sum', in the pinned program and in every row, IS THE sha256 OF THE DUMP (.gsa) THAT YtpdhkonifbdckaaProg.lean LOADS. Nothing in Lean hashes anything: it is a label: what it is worth is what the hold of that sum in a sandbox is worth. -/
noncomputable def Try.pinned : Pinned := { name := "ytpdhkonifbdckaa", sum := "48058fd99a65acf71306f0c2bfbc362183a3519b77a9d0e64d3093b706a74bbb", checked := Try.checked }
namespace Rows
def none {H : Type} : Left H := { results := [], args := [] }

/-- 'leafmeshlaw04.NlriOrder': WHATEVER THE INPUT: true; the input reads as it did. -/
def nlriOrderSpec : ChangeSpec := { name := "nlriOrder", fn := fun _ => fun
  | [d1, d2, d3, d4] => { results := [.lit (.bool true)], args := [d1, d2, d3, d4] }
  | _ => none }
def nlriOrderRow : OpenClaim := { program := "ytpdhkonifbdckaa", sum := "48058fd99a65acf71306f0c2bfbc362183a3519b77a9d0e64d3093b706a74bbb", func := "leafmesh/leafmeshlaw04.NlriOrder", spec := "nlriOrder", unfollowed := true, recurses := true, apart := false }
def NlriOrderSaid : Prop := nlriOrderRow.holds Try.pinned (OpenSpec.ofChange nlriOrderSpec)

/-- ITS FALSE NEIGHBOUR: 'it returns false'. Refute it at one input. -/
def nlriOrderWrong : ChangeSpec := { name := "nlriOrder", fn := fun _ => fun
  | [d1, d2, d3, d4] => { results := [.lit (.bool false)], args := [d1, d2, d3, d4] }
  | _ => none }
def NlriOrderWrongFalsely : Prop := nlriOrderRow.holds Try.pinned (OpenSpec.ofChange nlriOrderWrong)

/-- 'leafmeshlaw04.NlriCalls': WHATEVER THE INPUT: true; the input reads as it did. -/
def nlriCallsSpec : ChangeSpec := { name := "nlriCalls", fn := fun _ => fun
  | [d1, d2, d3, d4, d5] => { results := [.lit (.bool true)], args := [d1, d2, d3, d4, d5] }
  | _ => none }
def nlriCallsRow : OpenClaim := { program := "ytpdhkonifbdckaa", sum := "48058fd99a65acf71306f0c2bfbc362183a3519b77a9d0e64d3093b706a74bbb", func := "leafmesh/leafmeshlaw04.NlriCalls", spec := "nlriCalls", unfollowed := true, recurses := true, apart := false }
def NlriCallsSaid : Prop := nlriCallsRow.holds Try.pinned (OpenSpec.ofChange nlriCallsSpec)

/-- ITS FALSE NEIGHBOUR: 'it returns false'. Refute it at one input. -/
def nlriCallsWrong : ChangeSpec := { name := "nlriCalls", fn := fun _ => fun
  | [d1, d2, d3, d4, d5] => { results := [.lit (.bool false)], args := [d1, d2, d3, d4, d5] }
  | _ => none }
def NlriCallsWrongFalsely : Prop := nlriCallsRow.holds Try.pinned (OpenSpec.ofChange nlriCallsWrong)

/-- 'leafmeshlaw04.NlriRead': WHATEVER THE INPUT: true; the input reads as it did. -/
def nlriReadSpec : ChangeSpec := { name := "nlriRead", fn := fun _ => fun
  | [d] => { results := [.lit (.bool true)], args := [d] }
  | _ => none }
def nlriReadRow : OpenClaim := { program := "ytpdhkonifbdckaa", sum := "48058fd99a65acf71306f0c2bfbc362183a3519b77a9d0e64d3093b706a74bbb", func := "leafmesh/leafmeshlaw04.NlriRead", spec := "nlriRead", unfollowed := true, recurses := true, apart := false }
def NlriReadSaid : Prop := nlriReadRow.holds Try.pinned (OpenSpec.ofChange nlriReadSpec)

/-- ITS FALSE NEIGHBOUR: 'it returns false'. Refute it at one input. -/
def nlriReadWrong : ChangeSpec := { name := "nlriRead", fn := fun _ => fun
  | [d] => { results := [.lit (.bool false)], args := [d] }
  | _ => none }
def NlriReadWrongFalsely : Prop := nlriReadRow.holds Try.pinned (OpenSpec.ofChange nlriReadWrong)

/-- 'leafmeshlaw04.NlriBack': WHATEVER THE INPUT: true; the input reads as it did. -/
def nlriBackSpec : ChangeSpec := { name := "nlriBack", fn := fun _ => fun
  | [d] => { results := [.lit (.bool true)], args := [d] }
  | _ => none }
def nlriBackRow : OpenClaim := { program := "ytpdhkonifbdckaa", sum := "48058fd99a65acf71306f0c2bfbc362183a3519b77a9d0e64d3093b706a74bbb", func := "leafmesh/leafmeshlaw04.NlriBack", spec := "nlriBack", unfollowed := true, recurses := true, apart := false }
def NlriBackSaid : Prop := nlriBackRow.holds Try.pinned (OpenSpec.ofChange nlriBackSpec)

/-- ITS FALSE NEIGHBOUR: 'it returns false'. Refute it at one input. -/
def nlriBackWrong : ChangeSpec := { name := "nlriBack", fn := fun _ => fun
  | [d] => { results := [.lit (.bool false)], args := [d] }
  | _ => none }
def NlriBackWrongFalsely : Prop := nlriBackRow.holds Try.pinned (OpenSpec.ofChange nlriBackWrong)

/-- 'leafmeshlaw04.NlriOnly': WHATEVER THE INPUT: true; the input reads as it did. -/
def nlriOnlySpec : ChangeSpec := { name := "nlriOnly", fn := fun _ => fun
  | [d1, d2] => { results := [.lit (.bool true)], args := [d1, d2] }
  | _ => none }
def nlriOnlyRow : OpenClaim := { program := "ytpdhkonifbdckaa", sum := "48058fd99a65acf71306f0c2bfbc362183a3519b77a9d0e64d3093b706a74bbb", func := "leafmesh/leafmeshlaw04.NlriOnly", spec := "nlriOnly", unfollowed := true, recurses := true, apart := false }
def NlriOnlySaid : Prop := nlriOnlyRow.holds Try.pinned (OpenSpec.ofChange nlriOnlySpec)

/-- ITS FALSE NEIGHBOUR: 'it returns false'. Refute it at one input. -/
def nlriOnlyWrong : ChangeSpec := { name := "nlriOnly", fn := fun _ => fun
  | [d1, d2] => { results := [.lit (.bool false)], args := [d1, d2] }
  | _ => none }
def NlriOnlyWrongFalsely : Prop := nlriOnlyRow.holds Try.pinned (OpenSpec.ofChange nlriOnlyWrong)

/-- 'leafmeshlaw04.NlriNames': WHATEVER THE INPUT: true; the input reads as it did. -/
def nlriNamesSpec : ChangeSpec := { name := "nlriNames", fn := fun _ => fun
  | [] => { results := [.lit (.bool true)], args := [] }
  | _ => none }
def nlriNamesRow : OpenClaim := { program := "ytpdhkonifbdckaa", sum := "48058fd99a65acf71306f0c2bfbc362183a3519b77a9d0e64d3093b706a74bbb", func := "leafmesh/leafmeshlaw04.NlriNames", spec := "nlriNames", unfollowed := true, recurses := true, apart := false }
def NlriNamesSaid : Prop := nlriNamesRow.holds Try.pinned (OpenSpec.ofChange nlriNamesSpec)

/-- ITS FALSE NEIGHBOUR: 'it returns false'. Refute it at one input. -/
def nlriNamesWrong : ChangeSpec := { name := "nlriNames", fn := fun _ => fun
  | [] => { results := [.lit (.bool false)], args := [] }
  | _ => none }
def NlriNamesWrongFalsely : Prop := nlriNamesRow.holds Try.pinned (OpenSpec.ofChange nlriNamesWrong)

/- THE SECOND FORM. 'bulk': how many values and letters a reading holds, each counted each time it is reached (what is shared counts as often as it is met; a slice's spare places count too). A statement '..UptoSaid' is the law's where the arguments, and the package variables that the reading takes, are together of bulk at most 1048576: NARROWER than '..Said'. Prove '..Said' where nothing that the law and all that it calls make is longer than what came in: it says more and counts as full. Else prove '..UptoSaid'. A law counts once. -/
mutual
def uptoBulk {H : Type} : DataW H → Nat
  | .lit (.string bytes) => bytes.length + 1
  | .lit _ => 1
  | .nil => 1
  | .ptr d => uptoBulk d + 1
  | .slice elems spare => uptoBulkAll elems + uptoBulkAll spare + 1
  | .agg parts => uptoBulkAll parts + 1
  | .iface _ d => uptoBulk d + 1
  | .map entries => uptoBulkEntries entries + 1
  | .held _ => 1
def uptoBulkAll {H : Type} : List (DataW H) → Nat
  | [] => 0
  | d :: r => uptoBulk d + uptoBulkAll r
def uptoBulkEntries {H : Type} : List (Lit × DataW H) → Nat
  | [] => 0
  | x :: r => uptoBulkEntry x + uptoBulkEntries r
def uptoBulkEntry {H : Type} : Lit × DataW H → Nat
  | (.string bytes, d) => bytes.length + uptoBulk d + 1
  | (_, d) => uptoBulk d + 1
 end
def uptoSmall : (H : Type) → List (DataW H) → Bool := fun _ ds => decide (uptoBulkAll ds ≤ 1048576)
def OpenSpec.upto (s : _root_.Go.ChangeSpec) : _root_.Go.OpenSpec := { _root_.Go.OpenSpec.ofChange s with cond := some uptoSmall }

/-- 'leafmeshlaw04.NlriOrder', WHERE WHAT IT READS IS OF BULK AT MOST 1048576: true; the input reads as it did. -/
def nlriOrderUptoRow : OpenClaim := { program := "ytpdhkonifbdckaa", sum := "48058fd99a65acf71306f0c2bfbc362183a3519b77a9d0e64d3093b706a74bbb", func := "leafmesh/leafmeshlaw04.NlriOrder", spec := "nlriOrder", unfollowed := true, recurses := true, apart := false, narrowed := true }
def NlriOrderUptoSaid : Prop := nlriOrderUptoRow.holds Try.pinned (OpenSpec.upto nlriOrderSpec)

/-- 'leafmeshlaw04.NlriCalls', WHERE WHAT IT READS IS OF BULK AT MOST 1048576: true; the input reads as it did. -/
def nlriCallsUptoRow : OpenClaim := { program := "ytpdhkonifbdckaa", sum := "48058fd99a65acf71306f0c2bfbc362183a3519b77a9d0e64d3093b706a74bbb", func := "leafmesh/leafmeshlaw04.NlriCalls", spec := "nlriCalls", unfollowed := true, recurses := true, apart := false, narrowed := true }
def NlriCallsUptoSaid : Prop := nlriCallsUptoRow.holds Try.pinned (OpenSpec.upto nlriCallsSpec)

/-- 'leafmeshlaw04.NlriRead', WHERE WHAT IT READS IS OF BULK AT MOST 1048576: true; the input reads as it did. -/
def nlriReadUptoRow : OpenClaim := { program := "ytpdhkonifbdckaa", sum := "48058fd99a65acf71306f0c2bfbc362183a3519b77a9d0e64d3093b706a74bbb", func := "leafmesh/leafmeshlaw04.NlriRead", spec := "nlriRead", unfollowed := true, recurses := true, apart := false, narrowed := true }
def NlriReadUptoSaid : Prop := nlriReadUptoRow.holds Try.pinned (OpenSpec.upto nlriReadSpec)

/-- 'leafmeshlaw04.NlriBack', WHERE WHAT IT READS IS OF BULK AT MOST 1048576: true; the input reads as it did. -/
def nlriBackUptoRow : OpenClaim := { program := "ytpdhkonifbdckaa", sum := "48058fd99a65acf71306f0c2bfbc362183a3519b77a9d0e64d3093b706a74bbb", func := "leafmesh/leafmeshlaw04.NlriBack", spec := "nlriBack", unfollowed := true, recurses := true, apart := false, narrowed := true }
def NlriBackUptoSaid : Prop := nlriBackUptoRow.holds Try.pinned (OpenSpec.upto nlriBackSpec)

/-- 'leafmeshlaw04.NlriOnly', WHERE WHAT IT READS IS OF BULK AT MOST 1048576: true; the input reads as it did. -/
def nlriOnlyUptoRow : OpenClaim := { program := "ytpdhkonifbdckaa", sum := "48058fd99a65acf71306f0c2bfbc362183a3519b77a9d0e64d3093b706a74bbb", func := "leafmesh/leafmeshlaw04.NlriOnly", spec := "nlriOnly", unfollowed := true, recurses := true, apart := false, narrowed := true }
def NlriOnlyUptoSaid : Prop := nlriOnlyUptoRow.holds Try.pinned (OpenSpec.upto nlriOnlySpec)

/-- 'leafmeshlaw04.NlriNames', WHERE WHAT IT READS IS OF BULK AT MOST 1048576: true; the input reads as it did. -/
def nlriNamesUptoRow : OpenClaim := { program := "ytpdhkonifbdckaa", sum := "48058fd99a65acf71306f0c2bfbc362183a3519b77a9d0e64d3093b706a74bbb", func := "leafmesh/leafmeshlaw04.NlriNames", spec := "nlriNames", unfollowed := true, recurses := true, apart := false, narrowed := true }
def NlriNamesUptoSaid : Prop := nlriNamesUptoRow.holds Try.pinned (OpenSpec.upto nlriNamesSpec)

end Rows
end Go.Proofs.Ytpdhkonifbdckaa
