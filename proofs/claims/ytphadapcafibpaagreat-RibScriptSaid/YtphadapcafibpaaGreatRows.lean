/-
  No cell of these rows narrows 'for every input' (looked for: loops, veiled, ifaces, maps, wideKeys, modest, calm, conditions, laid).
  DERIVED. THE GIVEN ROWS OF THIS SEAT. 4 by the template 'for every input the law returns true; each argument reads behind the call as it read before'; 0 by the template 'total and deterministic' (their statements: YtphadapcafibpaaGreatTotals.lean).
  GIVEN WITH THE SEED: the statements are not yours to turn. If you find one false, say at which input.
  Laid BY PROGRAM, IN A SANDBOX (cutbox-rows.mjs): the forced cells as the released guide's own fill.sh prints them over the translation 2d1a2495ae1c36c4… (all of the seat's roots in one cut). By AI agents, Wed Nov 11 2026. No macro, syntax, notation, axiom, sorry.
-/
import Derived.Test.YtphadapcafibpaaGreatChecked
import GoSem.Claim
import GoSem.ClaimJoined
import GoSem.ClaimMapViews
import Derived.JoinedTies
import Derived.KernelRfl
namespace Go.Proofs.YtphadapcafibpaaGreat
/- THE CELL 'sum', in the pinned program and in every row, IS THE sha256 OF THE DUMP (.gsa) THAT YtphadapcafibpaaGreatProg.lean LOADS. Nothing in Lean hashes anything: it is a label: what it is worth is what the hold of that sum in a sandbox is worth. -/
noncomputable def Tryz.pinned : Pinned := { name := "ytphadapcafibpaagreat", sum := "2d1a2495ae1c36c426f99645e6f34e6829363df73e3c2d0f9ac851e9ec879b20", checked := Tryz.checked }
namespace Rows
def none {H : Type} : Left H := { results := [], args := [] }

/-- 'leafmeshlaw17.RibScript': WHATEVER THE INPUT: true; the input reads as it did. -/
def ribScriptSpec : ChangeSpec := { name := "ribScript", fn := fun _ => fun
  | [d1, d2] => { results := [.lit (.bool true)], args := [d1, d2] }
  | _ => none }
def ribScriptRow : OpenClaim := { program := "ytphadapcafibpaagreat", sum := "2d1a2495ae1c36c426f99645e6f34e6829363df73e3c2d0f9ac851e9ec879b20", func := "leafmesh/leafmeshlaw17.RibScript", spec := "ribScript", unfollowed := true, recurses := true, plainKeys := false, apart := false }
def RibScriptSaid : Prop := ribScriptRow.holds Tryz.pinned (OpenSpec.ofChange ribScriptSpec)

/-- ITS FALSE NEIGHBOUR: 'it returns false'. Refute it at one input. -/
def ribScriptWrong : ChangeSpec := { name := "ribScript", fn := fun _ => fun
  | [d1, d2] => { results := [.lit (.bool false)], args := [d1, d2] }
  | _ => none }
def RibScriptWrongFalsely : Prop := ribScriptRow.holds Tryz.pinned (OpenSpec.ofChange ribScriptWrong)

/-- 'leafmeshlaw17.RibRestart': WHATEVER THE INPUT: true; the input reads as it did. -/
def ribRestartSpec : ChangeSpec := { name := "ribRestart", fn := fun _ => fun
  | [d1, d2, d3] => { results := [.lit (.bool true)], args := [d1, d2, d3] }
  | _ => none }
def ribRestartRow : OpenClaim := { program := "ytphadapcafibpaagreat", sum := "2d1a2495ae1c36c426f99645e6f34e6829363df73e3c2d0f9ac851e9ec879b20", func := "leafmesh/leafmeshlaw17.RibRestart", spec := "ribRestart", unfollowed := true, recurses := true, plainKeys := false, apart := false }
def RibRestartSaid : Prop := ribRestartRow.holds Tryz.pinned (OpenSpec.ofChange ribRestartSpec)

/-- ITS FALSE NEIGHBOUR: 'it returns false'. Refute it at one input. -/
def ribRestartWrong : ChangeSpec := { name := "ribRestart", fn := fun _ => fun
  | [d1, d2, d3] => { results := [.lit (.bool false)], args := [d1, d2, d3] }
  | _ => none }
def RibRestartWrongFalsely : Prop := ribRestartRow.holds Tryz.pinned (OpenSpec.ofChange ribRestartWrong)

/-- 'leafmeshlaw17.RibApart': WHATEVER THE INPUT: true; the input reads as it did. -/
def ribApartSpec : ChangeSpec := { name := "ribApart", fn := fun _ => fun
  | [d1, d2] => { results := [.lit (.bool true)], args := [d1, d2] }
  | _ => none }
def ribApartRow : OpenClaim := { program := "ytphadapcafibpaagreat", sum := "2d1a2495ae1c36c426f99645e6f34e6829363df73e3c2d0f9ac851e9ec879b20", func := "leafmesh/leafmeshlaw17.RibApart", spec := "ribApart", unfollowed := true, recurses := true, plainKeys := false, apart := false }
def RibApartSaid : Prop := ribApartRow.holds Tryz.pinned (OpenSpec.ofChange ribApartSpec)

/-- ITS FALSE NEIGHBOUR: 'it returns false'. Refute it at one input. -/
def ribApartWrong : ChangeSpec := { name := "ribApart", fn := fun _ => fun
  | [d1, d2] => { results := [.lit (.bool false)], args := [d1, d2] }
  | _ => none }
def RibApartWrongFalsely : Prop := ribApartRow.holds Tryz.pinned (OpenSpec.ofChange ribApartWrong)

/-- 'leafmeshlaw17.RibOrder': WHATEVER THE INPUT: true; the input reads as it did. -/
def ribOrderSpec : ChangeSpec := { name := "ribOrder", fn := fun _ => fun
  | [d1, d2] => { results := [.lit (.bool true)], args := [d1, d2] }
  | _ => none }
def ribOrderRow : OpenClaim := { program := "ytphadapcafibpaagreat", sum := "2d1a2495ae1c36c426f99645e6f34e6829363df73e3c2d0f9ac851e9ec879b20", func := "leafmesh/leafmeshlaw17.RibOrder", spec := "ribOrder", unfollowed := true, recurses := true, plainKeys := false, apart := false }
def RibOrderSaid : Prop := ribOrderRow.holds Tryz.pinned (OpenSpec.ofChange ribOrderSpec)

/-- ITS FALSE NEIGHBOUR: 'it returns false'. Refute it at one input. -/
def ribOrderWrong : ChangeSpec := { name := "ribOrder", fn := fun _ => fun
  | [d1, d2] => { results := [.lit (.bool false)], args := [d1, d2] }
  | _ => none }
def RibOrderWrongFalsely : Prop := ribOrderRow.holds Tryz.pinned (OpenSpec.ofChange ribOrderWrong)

/- THE SECOND FORM. 'bulk': how many values and letters a reading holds, each counted each time it is reached (what is shared counts as often as it is met; a slice's spare places count too). A statement '..UptoSaid' is the law's where the arguments, and the package variables that the reading takes, are together of bulk at most 1048576: NARROWER than '..Said'. Prove '..Said' where nothing that the law and all that it calls make is longer than what came in: it says more and counts as full. Else prove '..UptoSaid'. A law counts once. -/
mutual
def uptoBulk {H : Type} : DataW H → Nat
  | .lit (.string bytes) => bytes.length + 1
  | .lit _ => 1
  | .nil => 1
  | .ptr d => uptoBulk d + 1
  | .slice elems spare => uptoBulkAll elems + uptoBulkAll spare + 1
  | .agg parts => uptoBulkAll parts + 1
  | .iface _ d => uptoBulk d + 1
  | .map entries => uptoBulkEntries entries + 1
  | .held _ => 1
def uptoBulkAll {H : Type} : List (DataW H) → Nat
  | [] => 0
  | d :: r => uptoBulk d + uptoBulkAll r
def uptoBulkEntries {H : Type} : List (Lit × DataW H) → Nat
  | [] => 0
  | x :: r => uptoBulkEntry x + uptoBulkEntries r
def uptoBulkEntry {H : Type} : Lit × DataW H → Nat
  | (.string bytes, d) => bytes.length + uptoBulk d + 1
  | (_, d) => uptoBulk d + 1
 end
def uptoSmall : (H : Type) → List (DataW H) → Bool := fun _ ds => decide (uptoBulkAll ds ≤ 1048576)
def OpenSpec.upto (s : _root_.Go.ChangeSpec) : _root_.Go.OpenSpec := { _root_.Go.OpenSpec.ofChange s with cond := some uptoSmall }

/-- 'leafmeshlaw17.RibScript', WHERE WHAT IT READS IS OF BULK AT MOST 1048576: true; the input reads as it did. -/
def ribScriptUptoRow : OpenClaim := { program := "ytphadapcafibpaagreat", sum := "2d1a2495ae1c36c426f99645e6f34e6829363df73e3c2d0f9ac851e9ec879b20", func := "leafmesh/leafmeshlaw17.RibScript", spec := "ribScript", unfollowed := true, recurses := true, plainKeys := false, apart := false, narrowed := true }
def RibScriptUptoSaid : Prop := ribScriptUptoRow.holds Tryz.pinned (OpenSpec.upto ribScriptSpec)

/-- 'leafmeshlaw17.RibRestart', WHERE WHAT IT READS IS OF BULK AT MOST 1048576: true; the input reads as it did. -/
def ribRestartUptoRow : OpenClaim := { program := "ytphadapcafibpaagreat", sum := "2d1a2495ae1c36c426f99645e6f34e6829363df73e3c2d0f9ac851e9ec879b20", func := "leafmesh/leafmeshlaw17.RibRestart", spec := "ribRestart", unfollowed := true, recurses := true, plainKeys := false, apart := false, narrowed := true }
def RibRestartUptoSaid : Prop := ribRestartUptoRow.holds Tryz.pinned (OpenSpec.upto ribRestartSpec)

/-- 'leafmeshlaw17.RibApart', WHERE WHAT IT READS IS OF BULK AT MOST 1048576: true; the input reads as it did. -/
def ribApartUptoRow : OpenClaim := { program := "ytphadapcafibpaagreat", sum := "2d1a2495ae1c36c426f99645e6f34e6829363df73e3c2d0f9ac851e9ec879b20", func := "leafmesh/leafmeshlaw17.RibApart", spec := "ribApart", unfollowed := true, recurses := true, plainKeys := false, apart := false, narrowed := true }
def RibApartUptoSaid : Prop := ribApartUptoRow.holds Tryz.pinned (OpenSpec.upto ribApartSpec)

/-- 'leafmeshlaw17.RibOrder', WHERE WHAT IT READS IS OF BULK AT MOST 1048576: true; the input reads as it did. -/
def ribOrderUptoRow : OpenClaim := { program := "ytphadapcafibpaagreat", sum := "2d1a2495ae1c36c426f99645e6f34e6829363df73e3c2d0f9ac851e9ec879b20", func := "leafmesh/leafmeshlaw17.RibOrder", spec := "ribOrder", unfollowed := true, recurses := true, plainKeys := false, apart := false, narrowed := true }
def RibOrderUptoSaid : Prop := ribOrderUptoRow.holds Tryz.pinned (OpenSpec.upto ribOrderSpec)

end Rows
end Go.Proofs.YtphadapcafibpaaGreat
