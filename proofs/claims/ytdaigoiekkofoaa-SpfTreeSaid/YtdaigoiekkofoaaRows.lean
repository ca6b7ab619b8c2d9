/-
  No cell of these rows narrows 'for every input' (looked for: loops, veiled, ifaces, maps, wideKeys, modest, calm, conditions, laid).
  DERIVED. THE GIVEN ROWS OF THIS SEAT. 9 by the template 'for every input the law returns true; each argument reads behind the call as it read before'; 0 by the template 'total and deterministic' (their statements: YtdaigoiekkofoaaTotals.lean).
  GIVEN WITH THE SEED: the statements are not yours to turn. If you find one false, say at which input.
  Laid BY PROGRAM, IN A SANDBOX (cutbox-rows.mjs): the forced cells as the released guide's own fill.sh prints them over the translation 5281549a566f54bd… (all of the seat's roots in one cut). By AI agents, Wed Nov 11 2026. No macro, syntax, notation, axiom, sorry.
-/
import Derived.Test.YtdaigoiekkofoaaChecked
import GoSem.Claim
import GoSem.ClaimJoined
import GoSem.ClaimMapViews
import Derived.JoinedTies
import Derived.KernelRfl
namespace Go.Proofs.Ytdaigoiekkofoaa
/- THE CELL 'sum', in the pinned program and in every row, IS THE sha256 OF THE DUMP (.gsa) THAT YtdaigoiekkofoaaProg.lean LOADS. Nothing in Lean hashes anything: it is a label: what it is worth is what the hold of that sum in a sandbox is worth. -/
noncomputable def Try.pinned : Pinned := { name := "ytdaigoiekkofoaa", sum := "5281549a566f54bd47a552a1fabb0fc8bc40c3c81f8e678c3d34e00bb6a80a8c", checked := Try.checked }
namespace Rows
def none {H : Type} : Left H := { results := [], args := [] }

/-- 'leafmeshlaw10.SpfNext': WHATEVER THE INPUT: true; the input reads as it did. -/
def spfNextSpec : ChangeSpec := { name := "spfNext", fn := fun _ => fun
  | [d1, d2, d3, d4, d5] => { results := [.lit (.bool true)], args := [d1, d2, d3, d4, d5] }
  | _ => none }
def spfNextRow : OpenClaim := { program := "ytdaigoiekkofoaa", sum := "5281549a566f54bd47a552a1fabb0fc8bc40c3c81f8e678c3d34e00bb6a80a8c", func := "leafmesh/leafmeshlaw10.SpfNext", spec := "spfNext", unfollowed := true, recurses := true, apart := false }
def SpfNextSaid : Prop := spfNextRow.holds Try.pinned (OpenSpec.ofChange spfNextSpec)

/-- ITS FALSE NEIGHBOUR: 'it returns false'. Refute it at one input. -/
def spfNextWrong : ChangeSpec := { name := "spfNext", fn := fun _ => fun
  | [d1, d2, d3, d4, d5] => { results := [.lit (.bool false)], args := [d1, d2, d3, d4, d5] }
  | _ => none }
def SpfNextWrongFalsely : Prop := spfNextRow.holds Try.pinned (OpenSpec.ofChange spfNextWrong)

/-- 'leafmeshlaw10.SpfDist': WHATEVER THE INPUT: true; the input reads as it did. -/
def spfDistSpec : ChangeSpec := { name := "spfDist", fn := fun _ => fun
  | [d1, d2, d3, d4, d5] => { results := [.lit (.bool true)], args := [d1, d2, d3, d4, d5] }
  | _ => none }
def spfDistRow : OpenClaim := { program := "ytdaigoiekkofoaa", sum := "5281549a566f54bd47a552a1fabb0fc8bc40c3c81f8e678c3d34e00bb6a80a8c", func := "leafmesh/leafmeshlaw10.SpfDist", spec := "spfDist", unfollowed := true, recurses := true, apart := false }
def SpfDistSaid : Prop := spfDistRow.holds Try.pinned (OpenSpec.ofChange spfDistSpec)

/-- ITS FALSE NEIGHBOUR: 'it returns false'. Refute it at one input. -/
def spfDistWrong : ChangeSpec := { name := "spfDist", fn := fun _ => fun
  | [d1, d2, d3, d4, d5] => { results := [.lit (.bool false)], args := [d1, d2, d3, d4, d5] }
  | _ => none }
def SpfDistWrongFalsely : Prop := spfDistRow.holds Try.pinned (OpenSpec.ofChange spfDistWrong)

/-- 'leafmeshlaw10.SpfKnown': WHATEVER THE INPUT: true; the input reads as it did. -/
def spfKnownSpec : ChangeSpec := { name := "spfKnown", fn := fun _ => fun
  | [] => { results := [.lit (.bool true)], args := [] }
  | _ => none }
def spfKnownRow : OpenClaim := { program := "ytdaigoiekkofoaa", sum := "5281549a566f54bd47a552a1fabb0fc8bc40c3c81f8e678c3d34e00bb6a80a8c", func := "leafmesh/leafmeshlaw10.SpfKnown", spec := "spfKnown", unfollowed := true, recurses := true, apart := false }
def SpfKnownSaid : Prop := spfKnownRow.holds Try.pinned (OpenSpec.ofChange spfKnownSpec)

/-- ITS FALSE NEIGHBOUR: 'it returns false'. Refute it at one input. -/
def spfKnownWrong : ChangeSpec := { name := "spfKnown", fn := fun _ => fun
  | [] => { results := [.lit (.bool false)], args := [] }
  | _ => none }
def SpfKnownWrongFalsely : Prop := spfKnownRow.holds Try.pinned (OpenSpec.ofChange spfKnownWrong)

/-- 'leafmeshlaw10.SpfBellman': WHATEVER THE INPUT: true; the input reads as it did. -/
def spfBellmanSpec : ChangeSpec := { name := "spfBellman", fn := fun _ => fun
  | [d1, d2] => { results := [.lit (.bool true)], args := [d1, d2] }
  | _ => none }
def spfBellmanRow : OpenClaim := { program := "ytdaigoiekkofoaa", sum := "5281549a566f54bd47a552a1fabb0fc8bc40c3c81f8e678c3d34e00bb6a80a8c", func := "leafmesh/leafmeshlaw10.SpfBellman", spec := "spfBellman", unfollowed := true, recurses := true, apart := false }
def SpfBellmanSaid : Prop := spfBellmanRow.holds Try.pinned (OpenSpec.ofChange spfBellmanSpec)

/-- ITS FALSE NEIGHBOUR: 'it returns false'. Refute it at one input. -/
def spfBellmanWrong : ChangeSpec := { name := "spfBellman", fn := fun _ => fun
  | [d1, d2] => { results := [.lit (.bool false)], args := [d1, d2] }
  | _ => none }
def SpfBellmanWrongFalsely : Prop := spfBellmanRow.holds Try.pinned (OpenSpec.ofChange spfBellmanWrong)

/-- 'leafmeshlaw10.SpfTriangle': WHATEVER THE INPUT: true; the input reads as it did. -/
def spfTriangleSpec : ChangeSpec := { name := "spfTriangle", fn := fun _ => fun
  | [d1, d2, d3, d4] => { results := [.lit (.bool true)], args := [d1, d2, d3, d4] }
  | _ => none }
def spfTriangleRow : OpenClaim := { program := "ytdaigoiekkofoaa", sum := "5281549a566f54bd47a552a1fabb0fc8bc40c3c81f8e678c3d34e00bb6a80a8c", func := "leafmesh/leafmeshlaw10.SpfTriangle", spec := "spfTriangle", unfollowed := true, recurses := true, apart := false }
def SpfTriangleSaid : Prop := spfTriangleRow.holds Try.pinned (OpenSpec.ofChange spfTriangleSpec)

/-- ITS FALSE NEIGHBOUR: 'it returns false'. Refute it at one input. -/
def spfTriangleWrong : ChangeSpec := { name := "spfTriangle", fn := fun _ => fun
  | [d1, d2, d3, d4] => { results := [.lit (.bool false)], args := [d1, d2, d3, d4] }
  | _ => none }
def SpfTriangleWrongFalsely : Prop := spfTriangleRow.holds Try.pinned (OpenSpec.ofChange spfTriangleWrong)

/-- 'leafmeshlaw10.SpfWalk': WHATEVER THE INPUT: true; the input reads as it did. -/
def spfWalkSpec : ChangeSpec := { name := "spfWalk", fn := fun _ => fun
  | [d1, d2, d3, d4] => { results := [.lit (.bool true)], args := [d1, d2, d3, d4] }
  | _ => none }
def spfWalkRow : OpenClaim := { program := "ytdaigoiekkofoaa", sum := "5281549a566f54bd47a552a1fabb0fc8bc40c3c81f8e678c3d34e00bb6a80a8c", func := "leafmesh/leafmeshlaw10.SpfWalk", spec := "spfWalk", unfollowed := true, recurses := true, apart := false }
def SpfWalkSaid : Prop := spfWalkRow.holds Try.pinned (OpenSpec.ofChange spfWalkSpec)

/-- ITS FALSE NEIGHBOUR: 'it returns false'. Refute it at one input. -/
def spfWalkWrong : ChangeSpec := { name := "spfWalk", fn := fun _ => fun
  | [d1, d2, d3, d4] => { results := [.lit (.bool false)], args := [d1, d2, d3, d4] }
  | _ => none }
def SpfWalkWrongFalsely : Prop := spfWalkRow.holds Try.pinned (OpenSpec.ofChange spfWalkWrong)

/-- 'leafmeshlaw10.SpfCounts': WHATEVER THE INPUT: true; the input reads as it did. -/
def spfCountsSpec : ChangeSpec := { name := "spfCounts", fn := fun _ => fun
  | [d1, d2, d3] => { results := [.lit (.bool true)], args := [d1, d2, d3] }
  | _ => none }
def spfCountsRow : OpenClaim := { program := "ytdaigoiekkofoaa", sum := "5281549a566f54bd47a552a1fabb0fc8bc40c3c81f8e678c3d34e00bb6a80a8c", func := "leafmesh/leafmeshlaw10.SpfCounts", spec := "spfCounts", unfollowed := true, recurses := true, apart := false }
def SpfCountsSaid : Prop := spfCountsRow.holds Try.pinned (OpenSpec.ofChange spfCountsSpec)

/-- ITS FALSE NEIGHBOUR: 'it returns false'. Refute it at one input. -/
def spfCountsWrong : ChangeSpec := { name := "spfCounts", fn := fun _ => fun
  | [d1, d2, d3] => { results := [.lit (.bool false)], args := [d1, d2, d3] }
  | _ => none }
def SpfCountsWrongFalsely : Prop := spfCountsRow.holds Try.pinned (OpenSpec.ofChange spfCountsWrong)

/-- 'leafmeshlaw10.SpfCut': WHATEVER THE INPUT: true; the input reads as it did. -/
def spfCutSpec : ChangeSpec := { name := "spfCut", fn := fun _ => fun
  | [d1, d2, d3, d4] => { results := [.lit (.bool true)], args := [d1, d2, d3, d4] }
  | _ => none }
def spfCutRow : OpenClaim := { program := "ytdaigoiekkofoaa", sum := "5281549a566f54bd47a552a1fabb0fc8bc40c3c81f8e678c3d34e00bb6a80a8c", func := "leafmesh/leafmeshlaw10.SpfCut", spec := "spfCut", unfollowed := true, recurses := true, apart := false }
def SpfCutSaid : Prop := spfCutRow.holds Try.pinned (OpenSpec.ofChange spfCutSpec)

/-- ITS FALSE NEIGHBOUR: 'it returns false'. Refute it at one input. -/
def spfCutWrong : ChangeSpec := { name := "spfCut", fn := fun _ => fun
  | [d1, d2, d3, d4] => { results := [.lit (.bool false)], args := [d1, d2, d3, d4] }
  | _ => none }
def SpfCutWrongFalsely : Prop := spfCutRow.holds Try.pinned (OpenSpec.ofChange spfCutWrong)

/-- 'leafmeshlaw10.SpfTree': WHATEVER THE INPUT: true; the input reads as it did. -/
def spfTreeSpec : ChangeSpec := { name := "spfTree", fn := fun _ => fun
  | [d1, d2, d3] => { results := [.lit (.bool true)], args := [d1, d2, d3] }
  | _ => none }
def spfTreeRow : OpenClaim := { program := "ytdaigoiekkofoaa", sum := "5281549a566f54bd47a552a1fabb0fc8bc40c3c81f8e678c3d34e00bb6a80a8c", func := "leafmesh/leafmeshlaw10.SpfTree", spec := "spfTree", unfollowed := true, recurses := true, apart := false }
def SpfTreeSaid : Prop := spfTreeRow.holds Try.pinned (OpenSpec.ofChange spfTreeSpec)

/-- ITS FALSE NEIGHBOUR: 'it returns false'. Refute it at one input. -/
def spfTreeWrong : ChangeSpec := { name := "spfTree", fn := fun _ => fun
  | [d1, d2, d3] => { results := [.lit (.bool false)], args := [d1, d2, d3] }
  | _ => none }
def SpfTreeWrongFalsely : Prop := spfTreeRow.holds Try.pinned (OpenSpec.ofChange spfTreeWrong)

/- THE SECOND FORM. 'bulk': how many values and letters a reading holds, each counted each time it is reached (what is shared counts as often as it is met; a slice's spare places count too). A statement '..UptoSaid' is the law's where the arguments, and the package variables that the reading takes, are together of bulk at most 1048576: NARROWER than '..Said'. Prove '..Said' where nothing that the law and all that it calls make is longer than what came in: it says more and counts as full. Else prove '..UptoSaid'. A law counts once. -/
mutual
def uptoBulk {H : Type} : DataW H → Nat
  | .lit (.string bytes) => bytes.length + 1
  | .lit _ => 1
  | .nil => 1
  | .ptr d => uptoBulk d + 1
  | .slice elems spare => uptoBulkAll elems + uptoBulkAll spare + 1
  | .agg parts => uptoBulkAll parts + 1
  | .iface _ d => uptoBulk d + 1
  | .map entries => uptoBulkEntries entries + 1
  | .held _ => 1
def uptoBulkAll {H : Type} : List (DataW H) → Nat
  | [] => 0
  | d :: r => uptoBulk d + uptoBulkAll r
def uptoBulkEntries {H : Type} : List (Lit × DataW H) → Nat
  | [] => 0
  | x :: r => uptoBulkEntry x + uptoBulkEntries r
def uptoBulkEntry {H : Type} : Lit × DataW H → Nat
  | (.string bytes, d) => bytes.length + uptoBulk d + 1
  | (_, d) => uptoBulk d + 1
 end
def uptoSmall : (H : Type) → List (DataW H) → Bool := fun _ ds => decide (uptoBulkAll ds ≤ 1048576)
def OpenSpec.upto (s : _root_.Go.ChangeSpec) : _root_.Go.OpenSpec := { _root_.Go.OpenSpec.ofChange s with cond := some uptoSmall }

/-- 'leafmeshlaw10.SpfNext', WHERE WHAT IT READS IS OF BULK AT MOST 1048576: true; the input reads as it did. -/
def spfNextUptoRow : OpenClaim := { program := "ytdaigoiekkofoaa", sum := "5281549a566f54bd47a552a1fabb0fc8bc40c3c81f8e678c3d34e00bb6a80a8c", func := "leafmesh/leafmeshlaw10.SpfNext", spec := "spfNext", unfollowed := true, recurses := true, apart := false, narrowed := true }
def SpfNextUptoSaid : Prop := spfNextUptoRow.holds Try.pinned (OpenSpec.upto spfNextSpec)

/-- 'leafmeshlaw10.SpfDist', WHERE WHAT IT READS IS OF BULK AT MOST 1048576: true; the input reads as it did. -/
def spfDistUptoRow : OpenClaim := { program := "ytdaigoiekkofoaa", sum := "5281549a566f54bd47a552a1fabb0fc8bc40c3c81f8e678c3d34e00bb6a80a8c", func := "leafmesh/leafmeshlaw10.SpfDist", spec := "spfDist", unfollowed := true, recurses := true, apart := false, narrowed := true }
def SpfDistUptoSaid : Prop := spfDistUptoRow.holds Try.pinned (OpenSpec.upto spfDistSpec)

/-- 'leafmeshlaw10.SpfKnown', WHERE WHAT IT READS IS OF BULK AT MOST 1048576: true; the input reads as it did. -/
def spfKnownUptoRow : OpenClaim := { program := "ytdaigoiekkofoaa", sum := "5281549a566f54bd47a552a1fabb0fc8bc40c3c81f8e678c3d34e00bb6a80a8c", func := "leafmesh/leafmeshlaw10.SpfKnown", spec := "spfKnown", unfollowed := true, recurses := true, apart := false, narrowed := true }
def SpfKnownUptoSaid : Prop := spfKnownUptoRow.holds Try.pinned (OpenSpec.upto spfKnownSpec)

/-- 'leafmeshlaw10.SpfBellman', WHERE WHAT IT READS IS OF BULK AT MOST 1048576: true; the input reads as it did. -/
def spfBellmanUptoRow : OpenClaim := { program := "ytdaigoiekkofoaa", sum := "5281549a566f54bd47a552a1fabb0fc8bc40c3c81f8e678c3d34e00bb6a80a8c", func := "leafmesh/leafmeshlaw10.SpfBellman", spec := "spfBellman", unfollowed := true, recurses := true, apart := false, narrowed := true }
def SpfBellmanUptoSaid : Prop := spfBellmanUptoRow.holds Try.pinned (OpenSpec.upto spfBellmanSpec)

/-- 'leafmeshlaw10.SpfTriangle', WHERE WHAT IT READS IS OF BULK AT MOST 1048576: true; the input reads as it did. -/
def spfTriangleUptoRow : OpenClaim := { program := "ytdaigoiekkofoaa", sum := "5281549a566f54bd47a552a1fabb0fc8bc40c3c81f8e678c3d34e00bb6a80a8c", func := "leafmesh/leafmeshlaw10.SpfTriangle", spec := "spfTriangle", unfollowed := true, recurses := true, apart := false, narrowed := true }
def SpfTriangleUptoSaid : Prop := spfTriangleUptoRow.holds Try.pinned (OpenSpec.upto spfTriangleSpec)

/-- 'leafmeshlaw10.SpfWalk', WHERE WHAT IT READS IS OF BULK AT MOST 1048576: true; the input reads as it did. -/
def spfWalkUptoRow : OpenClaim := { program := "ytdaigoiekkofoaa", sum := "5281549a566f54bd47a552a1fabb0fc8bc40c3c81f8e678c3d34e00bb6a80a8c", func := "leafmesh/leafmeshlaw10.SpfWalk", spec := "spfWalk", unfollowed := true, recurses := true, apart := false, narrowed := true }
def SpfWalkUptoSaid : Prop := spfWalkUptoRow.holds Try.pinned (OpenSpec.upto spfWalkSpec)

/-- 'leafmeshlaw10.SpfCounts', WHERE WHAT IT READS IS OF BULK AT MOST 1048576: true; the input reads as it did. -/
def spfCountsUptoRow : OpenClaim := { program := "ytdaigoiekkofoaa", sum := "5281549a566f54bd47a552a1fabb0fc8bc40c3c81f8e678c3d34e00bb6a80a8c", func := "leafmesh/leafmeshlaw10.SpfCounts", spec := "spfCounts", unfollowed := true, recurses := true, apart := false, narrowed := true }
def SpfCountsUptoSaid : Prop := spfCountsUptoRow.holds Try.pinned (OpenSpec.upto spfCountsSpec)

/-- 'leafmeshlaw10.SpfCut', WHERE WHAT IT READS IS OF BULK AT MOST 1048576: true; the input reads as it did. -/
def spfCutUptoRow : OpenClaim := { program := "ytdaigoiekkofoaa", sum := "5281549a566f54bd47a552a1fabb0fc8bc40c3c81f8e678c3d34e00bb6a80a8c", func := "leafmesh/leafmeshlaw10.SpfCut", spec := "spfCut", unfollowed := true, recurses := true, apart := false, narrowed := true }
def SpfCutUptoSaid : Prop := spfCutUptoRow.holds Try.pinned (OpenSpec.upto spfCutSpec)

/-- 'leafmeshlaw10.SpfTree', WHERE WHAT IT READS IS OF BULK AT MOST 1048576: true; the input reads as it did. -/
def spfTreeUptoRow : OpenClaim := { program := "ytdaigoiekkofoaa", sum := "5281549a566f54bd47a552a1fabb0fc8bc40c3c81f8e678c3d34e00bb6a80a8c", func := "leafmesh/leafmeshlaw10.SpfTree", spec := "spfTree", unfollowed := true, recurses := true, apart := false, narrowed := true }
def SpfTreeUptoSaid : Prop := spfTreeUptoRow.holds Try.pinned (OpenSpec.upto spfTreeSpec)

end Rows
end Go.Proofs.Ytdaigoiekkofoaa
