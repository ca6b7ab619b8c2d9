/-
  No cell of these rows narrows 'for every input' (looked for: loops, veiled, ifaces, maps, wideKeys, modest, calm, conditions, laid).
  DERIVED. THE GIVEN ROWS OF THIS SEAT. 8 by the template 'for every input the law returns true; each argument reads behind the call as it read before'; 0 by the template 'total and deterministic' (their statements: YtojnbjandkbkmaaTotals.lean).
  GIVEN WITH THE SEED: the statements are not yours to turn. If you find one false, say at which input.
  Laid BY PROGRAM, IN A SANDBOX (cutbox-rows.mjs): the forced cells as the released guide's own fill.sh prints them over the translation 749986fd851fd9ee… (all of the seat's roots in one cut). By AI agents, Wed Nov 11 2026. No macro, syntax, notation, axiom, sorry.
-/
import Derived.Test.YtojnbjandkbkmaaChecked
import GoSem.Claim
import GoSem.ClaimJoined
import GoSem.ClaimMapViews
import Derived.JoinedTies
import Derived.KernelRfl
namespace Go.Proofs.Ytojnbjandkbkmaa
/- THE CELL 'sum', in the pinned program and in every row, IS THE sha256 OF THE DUMP (.gsa) THAT YtojnbjandkbkmaaProg.lean LOADS. Nothing in Lean hashes anything: it is a label: what it is worth is what the hold of that sum in a sandbox is worth. -/
noncomputable def Try.pinned : Pinned := { name := "ytojnbjandkbkmaa", sum := "749986fd851fd9ee579f001d7bc2e31f29b9189bb367cc7059ab45cc8d8a0ec3", checked := Try.checked }
namespace Rows
def none {H : Type} : Left H := { results := [], args := [] }

/-- 'leafmeshlaw23.LearnMany': WHATEVER THE INPUT: true; the input reads as it did. -/
def learnManySpec : ChangeSpec := { name := "learnMany", fn := fun _ => fun
  | [d1, d2, d3, d4] => { results := [.lit (.bool true)], args := [d1, d2, d3, d4] }
  | _ => none }
def learnManyRow : OpenClaim := { program := "ytojnbjandkbkmaa", sum := "749986fd851fd9ee579f001d7bc2e31f29b9189bb367cc7059ab45cc8d8a0ec3", func := "leafmesh/leafmeshlaw23.LearnMany", spec := "learnMany", unfollowed := true, recurses := true, plainKeys := false, apart := false }
def LearnManySaid : Prop := learnManyRow.holds Try.pinned (OpenSpec.ofChange learnManySpec)

/-- ITS FALSE NEIGHBOUR: 'it returns false'. Refute it at one input. -/
def learnManyWrong : ChangeSpec := { name := "learnMany", fn := fun _ => fun
  | [d1, d2, d3, d4] => { results := [.lit (.bool false)], args := [d1, d2, d3, d4] }
  | _ => none }
def LearnManyWrongFalsely : Prop := learnManyRow.holds Try.pinned (OpenSpec.ofChange learnManyWrong)

/-- 'leafmeshlaw23.LearnKnown': WHATEVER THE INPUT: true; the input reads as it did. -/
def learnKnownSpec : ChangeSpec := { name := "learnKnown", fn := fun _ => fun
  | [] => { results := [.lit (.bool true)], args := [] }
  | _ => none }
def learnKnownRow : OpenClaim := { program := "ytojnbjandkbkmaa", sum := "749986fd851fd9ee579f001d7bc2e31f29b9189bb367cc7059ab45cc8d8a0ec3", func := "leafmesh/leafmeshlaw23.LearnKnown", spec := "learnKnown", unfollowed := true, recurses := true, plainKeys := false, apart := false }
def LearnKnownSaid : Prop := learnKnownRow.holds Try.pinned (OpenSpec.ofChange learnKnownSpec)

/-- ITS FALSE NEIGHBOUR: 'it returns false'. Refute it at one input. -/
def learnKnownWrong : ChangeSpec := { name := "learnKnown", fn := fun _ => fun
  | [] => { results := [.lit (.bool false)], args := [] }
  | _ => none }
def LearnKnownWrongFalsely : Prop := learnKnownRow.holds Try.pinned (OpenSpec.ofChange learnKnownWrong)

/-- 'leafmeshlaw23.LearnFinds': WHATEVER THE INPUT: true; the input reads as it did. -/
def learnFindsSpec : ChangeSpec := { name := "learnFinds", fn := fun _ => fun
  | [d1, d2] => { results := [.lit (.bool true)], args := [d1, d2] }
  | _ => none }
def learnFindsRow : OpenClaim := { program := "ytojnbjandkbkmaa", sum := "749986fd851fd9ee579f001d7bc2e31f29b9189bb367cc7059ab45cc8d8a0ec3", func := "leafmesh/leafmeshlaw23.LearnFinds", spec := "learnFinds", unfollowed := true, recurses := true, plainKeys := false, apart := false }
def LearnFindsSaid : Prop := learnFindsRow.holds Try.pinned (OpenSpec.ofChange learnFindsSpec)

/-- ITS FALSE NEIGHBOUR: 'it returns false'. Refute it at one input. -/
def learnFindsWrong : ChangeSpec := { name := "learnFinds", fn := fun _ => fun
  | [d1, d2] => { results := [.lit (.bool false)], args := [d1, d2] }
  | _ => none }
def LearnFindsWrongFalsely : Prop := learnFindsRow.holds Try.pinned (OpenSpec.ofChange learnFindsWrong)

/-- 'leafmeshlaw23.LearnOrder': WHATEVER THE INPUT: true; the input reads as it did. -/
def learnOrderSpec : ChangeSpec := { name := "learnOrder", fn := fun _ => fun
  | [d1, d2] => { results := [.lit (.bool true)], args := [d1, d2] }
  | _ => none }
def learnOrderRow : OpenClaim := { program := "ytojnbjandkbkmaa", sum := "749986fd851fd9ee579f001d7bc2e31f29b9189bb367cc7059ab45cc8d8a0ec3", func := "leafmesh/leafmeshlaw23.LearnOrder", spec := "learnOrder", unfollowed := true, recurses := true, plainKeys := false, apart := false }
def LearnOrderSaid : Prop := learnOrderRow.holds Try.pinned (OpenSpec.ofChange learnOrderSpec)

/-- ITS FALSE NEIGHBOUR: 'it returns false'. Refute it at one input. -/
def learnOrderWrong : ChangeSpec := { name := "learnOrder", fn := fun _ => fun
  | [d1, d2] => { results := [.lit (.bool false)], args := [d1, d2] }
  | _ => none }
def LearnOrderWrongFalsely : Prop := learnOrderRow.holds Try.pinned (OpenSpec.ofChange learnOrderWrong)

/-- 'leafmeshlaw23.LearnAges': WHATEVER THE INPUT: true; the input reads as it did. -/
def learnAgesSpec : ChangeSpec := { name := "learnAges", fn := fun _ => fun
  | [d1, d2, d3] => { results := [.lit (.bool true)], args := [d1, d2, d3] }
  | _ => none }
def learnAgesRow : OpenClaim := { program := "ytojnbjandkbkmaa", sum := "749986fd851fd9ee579f001d7bc2e31f29b9189bb367cc7059ab45cc8d8a0ec3", func := "leafmesh/leafmeshlaw23.LearnAges", spec := "learnAges", unfollowed := true, recurses := true, plainKeys := false, apart := false }
def LearnAgesSaid : Prop := learnAgesRow.holds Try.pinned (OpenSpec.ofChange learnAgesSpec)

/-- ITS FALSE NEIGHBOUR: 'it returns false'. Refute it at one input. -/
def learnAgesWrong : ChangeSpec := { name := "learnAges", fn := fun _ => fun
  | [d1, d2, d3] => { results := [.lit (.bool false)], args := [d1, d2, d3] }
  | _ => none }
def LearnAgesWrongFalsely : Prop := learnAgesRow.holds Try.pinned (OpenSpec.ofChange learnAgesWrong)

/-- 'leafmeshlaw23.LearnFrozen': WHATEVER THE INPUT: true; the input reads as it did. -/
def learnFrozenSpec : ChangeSpec := { name := "learnFrozen", fn := fun _ => fun
  | [d1, d2, d3] => { results := [.lit (.bool true)], args := [d1, d2, d3] }
  | _ => none }
def learnFrozenRow : OpenClaim := { program := "ytojnbjandkbkmaa", sum := "749986fd851fd9ee579f001d7bc2e31f29b9189bb367cc7059ab45cc8d8a0ec3", func := "leafmesh/leafmeshlaw23.LearnFrozen", spec := "learnFrozen", unfollowed := true, recurses := true, plainKeys := false, apart := false }
def LearnFrozenSaid : Prop := learnFrozenRow.holds Try.pinned (OpenSpec.ofChange learnFrozenSpec)

/-- ITS FALSE NEIGHBOUR: 'it returns false'. Refute it at one input. -/
def learnFrozenWrong : ChangeSpec := { name := "learnFrozen", fn := fun _ => fun
  | [d1, d2, d3] => { results := [.lit (.bool false)], args := [d1, d2, d3] }
  | _ => none }
def LearnFrozenWrongFalsely : Prop := learnFrozenRow.holds Try.pinned (OpenSpec.ofChange learnFrozenWrong)

/-- 'leafmeshlaw23.LearnScript': WHATEVER THE INPUT: true; the input reads as it did. -/
def learnScriptSpec : ChangeSpec := { name := "learnScript", fn := fun _ => fun
  | [d1, d2] => { results := [.lit (.bool true)], args := [d1, d2] }
  | _ => none }
def learnScriptRow : OpenClaim := { program := "ytojnbjandkbkmaa", sum := "749986fd851fd9ee579f001d7bc2e31f29b9189bb367cc7059ab45cc8d8a0ec3", func := "leafmesh/leafmeshlaw23.LearnScript", spec := "learnScript", inPlace := ["maps.clone"], unfollowed := true, recurses := true, plainKeys := false, apart := false }
def LearnScriptSaid : Prop := learnScriptRow.holds Try.pinned (OpenSpec.ofChange learnScriptSpec)

/-- ITS FALSE NEIGHBOUR: 'it returns false'. Refute it at one input. -/
def learnScriptWrong : ChangeSpec := { name := "learnScript", fn := fun _ => fun
  | [d1, d2] => { results := [.lit (.bool false)], args := [d1, d2] }
  | _ => none }
def LearnScriptWrongFalsely : Prop := learnScriptRow.holds Try.pinned (OpenSpec.ofChange learnScriptWrong)

/-- 'leafmeshlaw23.LearnNone': WHATEVER THE INPUT: true; the input reads as it did. -/
def learnNoneSpec : ChangeSpec := { name := "learnNone", fn := fun _ => fun
  | [d1, d2] => { results := [.lit (.bool true)], args := [d1, d2] }
  | _ => none }
def learnNoneRow : OpenClaim := { program := "ytojnbjandkbkmaa", sum := "749986fd851fd9ee579f001d7bc2e31f29b9189bb367cc7059ab45cc8d8a0ec3", func := "leafmesh/leafmeshlaw23.LearnNone", spec := "learnNone", inPlace := ["maps.clone"], unfollowed := true, recurses := true, plainKeys := false, apart := false }
def LearnNoneSaid : Prop := learnNoneRow.holds Try.pinned (OpenSpec.ofChange learnNoneSpec)

/-- ITS FALSE NEIGHBOUR: 'it returns false'. Refute it at one input. -/
def learnNoneWrong : ChangeSpec := { name := "learnNone", fn := fun _ => fun
  | [d1, d2] => { results := [.lit (.bool false)], args := [d1, d2] }
  | _ => none }
def LearnNoneWrongFalsely : Prop := learnNoneRow.holds Try.pinned (OpenSpec.ofChange learnNoneWrong)

/- THE SECOND FORM. 'bulk': how many values and letters a reading holds, each counted each time it is reached (what is shared counts as often as it is met; a slice's spare places count too). A statement '..UptoSaid' is the law's where the arguments, and the package variables that the reading takes, are together of bulk at most 1048576: NARROWER than '..Said'. Prove '..Said' where nothing that the law and all that it calls make is longer than what came in: it says more and counts as full. Else prove '..UptoSaid'. A law counts once. -/
mutual
def uptoBulk {H : Type} : DataW H → Nat
  | .lit (.string bytes) => bytes.length + 1
  | .lit _ => 1
  | .nil => 1
  | .ptr d => uptoBulk d + 1
  | .slice elems spare => uptoBulkAll elems + uptoBulkAll spare + 1
  | .agg parts => uptoBulkAll parts + 1
  | .iface _ d => uptoBulk d + 1
  | .map entries => uptoBulkEntries entries + 1
  | .held _ => 1
def uptoBulkAll {H : Type} : List (DataW H) → Nat
  | [] => 0
  | d :: r => uptoBulk d + uptoBulkAll r
def uptoBulkEntries {H : Type} : List (Lit × DataW H) → Nat
  | [] => 0
  | x :: r => uptoBulkEntry x + uptoBulkEntries r
def uptoBulkEntry {H : Type} : Lit × DataW H → Nat
  | (.string bytes, d) => bytes.length + uptoBulk d + 1
  | (_, d) => uptoBulk d + 1
 end
def uptoSmall : (H : Type) → List (DataW H) → Bool := fun _ ds => decide (uptoBulkAll ds ≤ 1048576)
def OpenSpec.upto (s : _root_.Go.ChangeSpec) : _root_.Go.OpenSpec := { _root_.Go.OpenSpec.ofChange s with cond := some uptoSmall }

/-- 'leafmeshlaw23.LearnMany', WHERE WHAT IT READS IS OF BULK AT MOST 1048576: true; the input reads as it did. -/
def learnManyUptoRow : OpenClaim := { program := "ytojnbjandkbkmaa", sum := "749986fd851fd9ee579f001d7bc2e31f29b9189bb367cc7059ab45cc8d8a0ec3", func := "leafmesh/leafmeshlaw23.LearnMany", spec := "learnMany", unfollowed := true, recurses := true, plainKeys := false, apart := false, narrowed := true }
def LearnManyUptoSaid : Prop := learnManyUptoRow.holds Try.pinned (OpenSpec.upto learnManySpec)

/-- 'leafmeshlaw23.LearnKnown', WHERE WHAT IT READS IS OF BULK AT MOST 1048576: true; the input reads as it did. -/
def learnKnownUptoRow : OpenClaim := { program := "ytojnbjandkbkmaa", sum := "749986fd851fd9ee579f001d7bc2e31f29b9189bb367cc7059ab45cc8d8a0ec3", func := "leafmesh/leafmeshlaw23.LearnKnown", spec := "learnKnown", unfollowed := true, recurses := true, plainKeys := false, apart := false, narrowed := true }
def LearnKnownUptoSaid : Prop := learnKnownUptoRow.holds Try.pinned (OpenSpec.upto learnKnownSpec)

/-- 'leafmeshlaw23.LearnFinds', WHERE WHAT IT READS IS OF BULK AT MOST 1048576: true; the input reads as it did. -/
def learnFindsUptoRow : OpenClaim := { program := "ytojnbjandkbkmaa", sum := "749986fd851fd9ee579f001d7bc2e31f29b9189bb367cc7059ab45cc8d8a0ec3", func := "leafmesh/leafmeshlaw23.LearnFinds", spec := "learnFinds", unfollowed := true, recurses := true, plainKeys := false, apart := false, narrowed := true }
def LearnFindsUptoSaid : Prop := learnFindsUptoRow.holds Try.pinned (OpenSpec.upto learnFindsSpec)

/-- 'leafmeshlaw23.LearnOrder', WHERE WHAT IT READS IS OF BULK AT MOST 1048576: true; the input reads as it did. -/
def learnOrderUptoRow : OpenClaim := { program := "ytojnbjandkbkmaa", sum := "749986fd851fd9ee579f001d7bc2e31f29b9189bb367cc7059ab45cc8d8a0ec3", func := "leafmesh/leafmeshlaw23.LearnOrder", spec := "learnOrder", unfollowed := true, recurses := true, plainKeys := false, apart := false, narrowed := true }
def LearnOrderUptoSaid : Prop := learnOrderUptoRow.holds Try.pinned (OpenSpec.upto learnOrderSpec)

/-- 'leafmeshlaw23.LearnAges', WHERE WHAT IT READS IS OF BULK AT MOST 1048576: true; the input reads as it did. -/
def learnAgesUptoRow : OpenClaim := { program := "ytojnbjandkbkmaa", sum := "749986fd851fd9ee579f001d7bc2e31f29b9189bb367cc7059ab45cc8d8a0ec3", func := "leafmesh/leafmeshlaw23.LearnAges", spec := "learnAges", unfollowed := true, recurses := true, plainKeys := false, apart := false, narrowed := true }
def LearnAgesUptoSaid : Prop := learnAgesUptoRow.holds Try.pinned (OpenSpec.upto learnAgesSpec)

/-- 'leafmeshlaw23.LearnFrozen', WHERE WHAT IT READS IS OF BULK AT MOST 1048576: true; the input reads as it did. -/
def learnFrozenUptoRow : OpenClaim := { program := "ytojnbjandkbkmaa", sum := "749986fd851fd9ee579f001d7bc2e31f29b9189bb367cc7059ab45cc8d8a0ec3", func := "leafmesh/leafmeshlaw23.LearnFrozen", spec := "learnFrozen", unfollowed := true, recurses := true, plainKeys := false, apart := false, narrowed := true }
def LearnFrozenUptoSaid : Prop := learnFrozenUptoRow.holds Try.pinned (OpenSpec.upto learnFrozenSpec)

/-- 'leafmeshlaw23.LearnScript', WHERE WHAT IT READS IS OF BULK AT MOST 1048576: true; the input reads as it did. -/
def learnScriptUptoRow : OpenClaim := { program := "ytojnbjandkbkmaa", sum := "749986fd851fd9ee579f001d7bc2e31f29b9189bb367cc7059ab45cc8d8a0ec3", func := "leafmesh/leafmeshlaw23.LearnScript", spec := "learnScript", inPlace := ["maps.clone"], unfollowed := true, recurses := true, plainKeys := false, apart := false, narrowed := true }
def LearnScriptUptoSaid : Prop := learnScriptUptoRow.holds Try.pinned (OpenSpec.upto learnScriptSpec)

/-- 'leafmeshlaw23.LearnNone', WHERE WHAT IT READS IS OF BULK AT MOST 1048576: true; the input reads as it did. -/
def learnNoneUptoRow : OpenClaim := { program := "ytojnbjandkbkmaa", sum := "749986fd851fd9ee579f001d7bc2e31f29b9189bb367cc7059ab45cc8d8a0ec3", func := "leafmesh/leafmeshlaw23.LearnNone", spec := "learnNone", inPlace := ["maps.clone"], unfollowed := true, recurses := true, plainKeys := false, apart := false, narrowed := true }
def LearnNoneUptoSaid : Prop := learnNoneUptoRow.holds Try.pinned (OpenSpec.upto learnNoneSpec)

end Rows
end Go.Proofs.Ytojnbjandkbkmaa
