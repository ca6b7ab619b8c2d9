/-
  No cell of these rows narrows 'for every input' (looked for: loops, veiled, ifaces, maps, wideKeys, modest, calm, conditions, laid).
  DERIVED. THE GIVEN ROWS OF THIS SEAT. 8 by the template 'for every input the law returns true; each argument reads behind the call as it read before'; 0 by the template 'total and deterministic' (their statements: YtoimfchhmocgeaaTotals.lean).
  GIVEN WITH THE SEED: the statements are not yours to turn. If you find one false, say at which input.
  Laid BY PROGRAM, IN A SANDBOX (cutbox-rows.mjs): the forced cells as the released guide's own fill.sh prints them over the translation 3ea672933e6c7642… (all of the seat's roots in one cut). By AI agents, Wed Nov 11 2026. No macro, syntax, notation, axiom, sorry.
-/
import Derived.Test.YtoimfchhmocgeaaChecked
import GoSem.Claim
import GoSem.ClaimJoined
import GoSem.ClaimMapViews
import Derived.JoinedTies
import Derived.KernelRfl
namespace Go.Proofs.Ytoimfchhmocgeaa
/- THE CELL 'sum', in the pinned program and in every row, IS THE sha256 OF THE DUMP (.gsa) THAT YtoimfchhmocgeaaProg.lean LOADS. Nothing in Lean hashes anything: it is a label: what it is worth is what the hold of that sum in a sandbox is worth. -/
noncomputable def Try.pinned : Pinned := { name := "ytoimfchhmocgeaa", sum := "3ea672933e6c7642edafeba7392d3e83efb016930273663aba529694a618e6c6", checked := Try.checked }
namespace Rows
def none {H : Type} : Left H := { results := [], args := [] }

/-- 'leafmeshlaw24.MobilityNext': WHATEVER THE INPUT: true; the input reads as it did. -/
def mobilityNextSpec : ChangeSpec := { name := "mobilityNext", fn := fun _ => fun
  | [d1, d2, d3, d4] => { results := [.lit (.bool true)], args := [d1, d2, d3, d4] }
  | _ => none }
def mobilityNextRow : OpenClaim := { program := "ytoimfchhmocgeaa", sum := "3ea672933e6c7642edafeba7392d3e83efb016930273663aba529694a618e6c6", func := "leafmesh/leafmeshlaw24.MobilityNext", spec := "mobilityNext", unfollowed := true, recurses := true, plainKeys := false, apart := false }
def MobilityNextSaid : Prop := mobilityNextRow.holds Try.pinned (OpenSpec.ofChange mobilityNextSpec)

/-- ITS FALSE NEIGHBOUR: 'it returns false'. Refute it at one input. -/
def mobilityNextWrong : ChangeSpec := { name := "mobilityNext", fn := fun _ => fun
  | [d1, d2, d3, d4] => { results := [.lit (.bool false)], args := [d1, d2, d3, d4] }
  | _ => none }
def MobilityNextWrongFalsely : Prop := mobilityNextRow.holds Try.pinned (OpenSpec.ofChange mobilityNextWrong)

/-- 'leafmeshlaw24.MobilityKnown': WHATEVER THE INPUT: true; the input reads as it did. -/
def mobilityKnownSpec : ChangeSpec := { name := "mobilityKnown", fn := fun _ => fun
  | [] => { results := [.lit (.bool true)], args := [] }
  | _ => none }
def mobilityKnownRow : OpenClaim := { program := "ytoimfchhmocgeaa", sum := "3ea672933e6c7642edafeba7392d3e83efb016930273663aba529694a618e6c6", func := "leafmesh/leafmeshlaw24.MobilityKnown", spec := "mobilityKnown", unfollowed := true, recurses := true, plainKeys := false, apart := false }
def MobilityKnownSaid : Prop := mobilityKnownRow.holds Try.pinned (OpenSpec.ofChange mobilityKnownSpec)

/-- ITS FALSE NEIGHBOUR: 'it returns false'. Refute it at one input. -/
def mobilityKnownWrong : ChangeSpec := { name := "mobilityKnown", fn := fun _ => fun
  | [] => { results := [.lit (.bool false)], args := [] }
  | _ => none }
def MobilityKnownWrongFalsely : Prop := mobilityKnownRow.holds Try.pinned (OpenSpec.ofChange mobilityKnownWrong)

/-- 'leafmeshlaw24.MobilityClaims': WHATEVER THE INPUT: true; the input reads as it did. -/
def mobilityClaimsSpec : ChangeSpec := { name := "mobilityClaims", fn := fun _ => fun
  | [d1, d2, d3] => { results := [.lit (.bool true)], args := [d1, d2, d3] }
  | _ => none }
def mobilityClaimsRow : OpenClaim := { program := "ytoimfchhmocgeaa", sum := "3ea672933e6c7642edafeba7392d3e83efb016930273663aba529694a618e6c6", func := "leafmesh/leafmeshlaw24.MobilityClaims", spec := "mobilityClaims", unfollowed := true, recurses := true, plainKeys := false, apart := false }
def MobilityClaimsSaid : Prop := mobilityClaimsRow.holds Try.pinned (OpenSpec.ofChange mobilityClaimsSpec)

/-- ITS FALSE NEIGHBOUR: 'it returns false'. Refute it at one input. -/
def mobilityClaimsWrong : ChangeSpec := { name := "mobilityClaims", fn := fun _ => fun
  | [d1, d2, d3] => { results := [.lit (.bool false)], args := [d1, d2, d3] }
  | _ => none }
def MobilityClaimsWrongFalsely : Prop := mobilityClaimsRow.holds Try.pinned (OpenSpec.ofChange mobilityClaimsWrong)

/-- 'leafmeshlaw24.MobilityMeets': WHATEVER THE INPUT: true; the input reads as it did. -/
def mobilityMeetsSpec : ChangeSpec := { name := "mobilityMeets", fn := fun _ => fun
  | [d] => { results := [.lit (.bool true)], args := [d] }
  | _ => none }
def mobilityMeetsRow : OpenClaim := { program := "ytoimfchhmocgeaa", sum := "3ea672933e6c7642edafeba7392d3e83efb016930273663aba529694a618e6c6", func := "leafmesh/leafmeshlaw24.MobilityMeets", spec := "mobilityMeets", unfollowed := true, recurses := true, plainKeys := false, apart := false }
def MobilityMeetsSaid : Prop := mobilityMeetsRow.holds Try.pinned (OpenSpec.ofChange mobilityMeetsSpec)

/-- ITS FALSE NEIGHBOUR: 'it returns false'. Refute it at one input. -/
def mobilityMeetsWrong : ChangeSpec := { name := "mobilityMeets", fn := fun _ => fun
  | [d] => { results := [.lit (.bool false)], args := [d] }
  | _ => none }
def MobilityMeetsWrongFalsely : Prop := mobilityMeetsRow.holds Try.pinned (OpenSpec.ofChange mobilityMeetsWrong)

/-- 'leafmeshlaw24.MobilityRaces': WHATEVER THE INPUT: true; the input reads as it did. -/
def mobilityRacesSpec : ChangeSpec := { name := "mobilityRaces", fn := fun _ => fun
  | [d1, d2, d3] => { results := [.lit (.bool true)], args := [d1, d2, d3] }
  | _ => none }
def mobilityRacesRow : OpenClaim := { program := "ytoimfchhmocgeaa", sum := "3ea672933e6c7642edafeba7392d3e83efb016930273663aba529694a618e6c6", func := "leafmesh/leafmeshlaw24.MobilityRaces", spec := "mobilityRaces", unfollowed := true, recurses := true, plainKeys := false, apart := false }
def MobilityRacesSaid : Prop := mobilityRacesRow.holds Try.pinned (OpenSpec.ofChange mobilityRacesSpec)

/-- ITS FALSE NEIGHBOUR: 'it returns false'. Refute it at one input. -/
def mobilityRacesWrong : ChangeSpec := { name := "mobilityRaces", fn := fun _ => fun
  | [d1, d2, d3] => { results := [.lit (.bool false)], args := [d1, d2, d3] }
  | _ => none }
def MobilityRacesWrongFalsely : Prop := mobilityRacesRow.holds Try.pinned (OpenSpec.ofChange mobilityRacesWrong)

/-- 'leafmeshlaw24.MobilityLimits': WHATEVER THE INPUT: true; the input reads as it did. -/
def mobilityLimitsSpec : ChangeSpec := { name := "mobilityLimits", fn := fun _ => fun
  | [d1, d2, d3] => { results := [.lit (.bool true)], args := [d1, d2, d3] }
  | _ => none }
def mobilityLimitsRow : OpenClaim := { program := "ytoimfchhmocgeaa", sum := "3ea672933e6c7642edafeba7392d3e83efb016930273663aba529694a618e6c6", func := "leafmesh/leafmeshlaw24.MobilityLimits", spec := "mobilityLimits", unfollowed := true, recurses := true, plainKeys := false, apart := false }
def MobilityLimitsSaid : Prop := mobilityLimitsRow.holds Try.pinned (OpenSpec.ofChange mobilityLimitsSpec)

/-- ITS FALSE NEIGHBOUR: 'it returns false'. Refute it at one input. -/
def mobilityLimitsWrong : ChangeSpec := { name := "mobilityLimits", fn := fun _ => fun
  | [d1, d2, d3] => { results := [.lit (.bool false)], args := [d1, d2, d3] }
  | _ => none }
def MobilityLimitsWrongFalsely : Prop := mobilityLimitsRow.holds Try.pinned (OpenSpec.ofChange mobilityLimitsWrong)

/-- 'leafmeshlaw24.MobilityScript': WHATEVER THE INPUT: true; the input reads as it did. -/
def mobilityScriptSpec : ChangeSpec := { name := "mobilityScript", fn := fun _ => fun
  | [d1, d2, d3] => { results := [.lit (.bool true)], args := [d1, d2, d3] }
  | _ => none }
def mobilityScriptRow : OpenClaim := { program := "ytoimfchhmocgeaa", sum := "3ea672933e6c7642edafeba7392d3e83efb016930273663aba529694a618e6c6", func := "leafmesh/leafmeshlaw24.MobilityScript", spec := "mobilityScript", unfollowed := true, recurses := true, plainKeys := false, apart := false }
def MobilityScriptSaid : Prop := mobilityScriptRow.holds Try.pinned (OpenSpec.ofChange mobilityScriptSpec)

/-- ITS FALSE NEIGHBOUR: 'it returns false'. Refute it at one input. -/
def mobilityScriptWrong : ChangeSpec := { name := "mobilityScript", fn := fun _ => fun
  | [d1, d2, d3] => { results := [.lit (.bool false)], args := [d1, d2, d3] }
  | _ => none }
def MobilityScriptWrongFalsely : Prop := mobilityScriptRow.holds Try.pinned (OpenSpec.ofChange mobilityScriptWrong)

/-- 'leafmeshlaw24.MobilityNone': WHATEVER THE INPUT: true; the input reads as it did. -/
def mobilityNoneSpec : ChangeSpec := { name := "mobilityNone", fn := fun _ => fun
  | [d] => { results := [.lit (.bool true)], args := [d] }
  | _ => none }
def mobilityNoneRow : OpenClaim := { program := "ytoimfchhmocgeaa", sum := "3ea672933e6c7642edafeba7392d3e83efb016930273663aba529694a618e6c6", func := "leafmesh/leafmeshlaw24.MobilityNone", spec := "mobilityNone", unfollowed := true, recurses := true, plainKeys := false, apart := false }
def MobilityNoneSaid : Prop := mobilityNoneRow.holds Try.pinned (OpenSpec.ofChange mobilityNoneSpec)

/-- ITS FALSE NEIGHBOUR: 'it returns false'. Refute it at one input. -/
def mobilityNoneWrong : ChangeSpec := { name := "mobilityNone", fn := fun _ => fun
  | [d] => { results := [.lit (.bool false)], args := [d] }
  | _ => none }
def MobilityNoneWrongFalsely : Prop := mobilityNoneRow.holds Try.pinned (OpenSpec.ofChange mobilityNoneWrong)

/- THE SECOND FORM. 'bulk': how many values and letters a reading holds, each counted each time it is reached (what is shared counts as often as it is met; a slice's spare places count too). A statement '..UptoSaid' is the law's where the arguments, and the package variables that the reading takes, are together of bulk at most 1048576: NARROWER than '..Said'. Prove '..Said' where nothing that the law and all that it calls make is longer than what came in: it says more and counts as full. Else prove '..UptoSaid'. A law counts once. -/
mutual
def uptoBulk {H : Type} : DataW H → Nat
  | .lit (.string bytes) => bytes.length + 1
  | .lit _ => 1
  | .nil => 1
  | .ptr d => uptoBulk d + 1
  | .slice elems spare => uptoBulkAll elems + uptoBulkAll spare + 1
  | .agg parts => uptoBulkAll parts + 1
  | .iface _ d => uptoBulk d + 1
  | .map entries => uptoBulkEntries entries + 1
  | .held _ => 1
def uptoBulkAll {H : Type} : List (DataW H) → Nat
  | [] => 0
  | d :: r => uptoBulk d + uptoBulkAll r
def uptoBulkEntries {H : Type} : List (Lit × DataW H) → Nat
  | [] => 0
  | x :: r => uptoBulkEntry x + uptoBulkEntries r
def uptoBulkEntry {H : Type} : Lit × DataW H → Nat
  | (.string bytes, d) => bytes.length + uptoBulk d + 1
  | (_, d) => uptoBulk d + 1
 end
def uptoSmall : (H : Type) → List (DataW H) → Bool := fun _ ds => decide (uptoBulkAll ds ≤ 1048576)
def OpenSpec.upto (s : _root_.Go.ChangeSpec) : _root_.Go.OpenSpec := { _root_.Go.OpenSpec.ofChange s with cond := some uptoSmall }

/-- 'leafmeshlaw24.MobilityNext', WHERE WHAT IT READS IS OF BULK AT MOST 1048576: true; the input reads as it did. -/
def mobilityNextUptoRow : OpenClaim := { program := "ytoimfchhmocgeaa", sum := "3ea672933e6c7642edafeba7392d3e83efb016930273663aba529694a618e6c6", func := "leafmesh/leafmeshlaw24.MobilityNext", spec := "mobilityNext", unfollowed := true, recurses := true, plainKeys := false, apart := false, narrowed := true }
def MobilityNextUptoSaid : Prop := mobilityNextUptoRow.holds Try.pinned (OpenSpec.upto mobilityNextSpec)

/-- 'leafmeshlaw24.MobilityKnown', WHERE WHAT IT READS IS OF BULK AT MOST 1048576: true; the input reads as it did. -/
def mobilityKnownUptoRow : OpenClaim := { program := "ytoimfchhmocgeaa", sum := "3ea672933e6c7642edafeba7392d3e83efb016930273663aba529694a618e6c6", func := "leafmesh/leafmeshlaw24.MobilityKnown", spec := "mobilityKnown", unfollowed := true, recurses := true, plainKeys := false, apart := false, narrowed := true }
def MobilityKnownUptoSaid : Prop := mobilityKnownUptoRow.holds Try.pinned (OpenSpec.upto mobilityKnownSpec)

/-- 'leafmeshlaw24.MobilityClaims', WHERE WHAT IT READS IS OF BULK AT MOST 1048576: true; the input reads as it did. -/
def mobilityClaimsUptoRow : OpenClaim := { program := "ytoimfchhmocgeaa", sum := "3ea672933e6c7642edafeba7392d3e83efb016930273663aba529694a618e6c6", func := "leafmesh/leafmeshlaw24.MobilityClaims", spec := "mobilityClaims", unfollowed := true, recurses := true, plainKeys := false, apart := false, narrowed := true }
def MobilityClaimsUptoSaid : Prop := mobilityClaimsUptoRow.holds Try.pinned (OpenSpec.upto mobilityClaimsSpec)

/-- 'leafmeshlaw24.MobilityMeets', WHERE WHAT IT READS IS OF BULK AT MOST 1048576: true; the input reads as it did. -/
def mobilityMeetsUptoRow : OpenClaim := { program := "ytoimfchhmocgeaa", sum := "3ea672933e6c7642edafeba7392d3e83efb016930273663aba529694a618e6c6", func := "leafmesh/leafmeshlaw24.MobilityMeets", spec := "mobilityMeets", unfollowed := true, recurses := true, plainKeys := false, apart := false, narrowed := true }
def MobilityMeetsUptoSaid : Prop := mobilityMeetsUptoRow.holds Try.pinned (OpenSpec.upto mobilityMeetsSpec)

/-- 'leafmeshlaw24.MobilityRaces', WHERE WHAT IT READS IS OF BULK AT MOST 1048576: true; the input reads as it did. -/
def mobilityRacesUptoRow : OpenClaim := { program := "ytoimfchhmocgeaa", sum := "3ea672933e6c7642edafeba7392d3e83efb016930273663aba529694a618e6c6", func := "leafmesh/leafmeshlaw24.MobilityRaces", spec := "mobilityRaces", unfollowed := true, recurses := true, plainKeys := false, apart := false, narrowed := true }
def MobilityRacesUptoSaid : Prop := mobilityRacesUptoRow.holds Try.pinned (OpenSpec.upto mobilityRacesSpec)

/-- 'leafmeshlaw24.MobilityLimits', WHERE WHAT IT READS IS OF BULK AT MOST 1048576: true; the input reads as it did. -/
def mobilityLimitsUptoRow : OpenClaim := { program := "ytoimfchhmocgeaa", sum := "3ea672933e6c7642edafeba7392d3e83efb016930273663aba529694a618e6c6", func := "leafmesh/leafmeshlaw24.MobilityLimits", spec := "mobilityLimits", unfollowed := true, recurses := true, plainKeys := false, apart := false, narrowed := true }
def MobilityLimitsUptoSaid : Prop := mobilityLimitsUptoRow.holds Try.pinned (OpenSpec.upto mobilityLimitsSpec)

/-- 'leafmeshlaw24.MobilityScript', WHERE WHAT IT READS IS OF BULK AT MOST 1048576: true; the input reads as it did. -/
def mobilityScriptUptoRow : OpenClaim := { program := "ytoimfchhmocgeaa", sum := "3ea672933e6c7642edafeba7392d3e83efb016930273663aba529694a618e6c6", func := "leafmesh/leafmeshlaw24.MobilityScript", spec := "mobilityScript", unfollowed := true, recurses := true, plainKeys := false, apart := false, narrowed := true }
def MobilityScriptUptoSaid : Prop := mobilityScriptUptoRow.holds Try.pinned (OpenSpec.upto mobilityScriptSpec)

/-- 'leafmeshlaw24.MobilityNone', WHERE WHAT IT READS IS OF BULK AT MOST 1048576: true; the input reads as it did. -/
def mobilityNoneUptoRow : OpenClaim := { program := "ytoimfchhmocgeaa", sum := "3ea672933e6c7642edafeba7392d3e83efb016930273663aba529694a618e6c6", func := "leafmesh/leafmeshlaw24.MobilityNone", spec := "mobilityNone", unfollowed := true, recurses := true, plainKeys := false, apart := false, narrowed := true }
def MobilityNoneUptoSaid : Prop := mobilityNoneUptoRow.holds Try.pinned (OpenSpec.upto mobilityNoneSpec)

end Rows
end Go.Proofs.Ytoimfchhmocgeaa
