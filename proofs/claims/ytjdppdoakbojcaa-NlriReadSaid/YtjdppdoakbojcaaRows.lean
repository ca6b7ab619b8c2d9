/-
  No cell of these rows narrows 'for every input' (looked for: loops, veiled, ifaces, maps, wideKeys, modest, calm, conditions, laid).
  DERIVED. THE GIVEN ROWS OF THIS SEAT. 17 by the template 'for every input the law returns true; each argument reads behind the call as it read before'; 0 by the template 'total and deterministic' (their statements: YtjdppdoakbojcaaTotals.lean).
  GIVEN WITH THE SEED: the statements are not yours to turn. If you find one false, say at which input.
  Laid BY PROGRAM, IN A SANDBOX (cutbox-rows.mjs): the forced cells as the released guide's own fill.sh prints them over the translation 2a4b4d087d426364… (all of the seat's roots in one cut). By AI agents, Wed Nov 11 2026. No macro, syntax, notation, axiom, sorry.
-/
import Derived.Test.YtjdppdoakbojcaaChecked
import GoSem.Claim
import GoSem.ClaimJoined
import GoSem.ClaimMapViews
import Derived.JoinedTies
import Derived.KernelRfl
namespace Go.Proofs.Ytjdppdoakbojcaa
/- THE CELL 'sum', in the pinned program and in every row, IS THE sha256 OF THE DUMP (.gsa) THAT YtjdppdoakbojcaaProg.lean LOADS. Nothing in Lean hashes anything: it is a label: what it is worth is what the hold of that sum in a sandbox is worth. -/
noncomputable def Try.pinned : Pinned := { name := "ytjdppdoakbojcaa", sum := "2a4b4d087d426364c2de1d05902d79e30884923b27b1614bdf1280b3e1d322c1", checked := Try.checked }
namespace Rows
def none {H : Type} : Left H := { results := [], args := [] }

/-- 'leafmeshlaw08.VxlanCalls': WHATEVER THE INPUT: true; the input reads as it did. -/
def vxlanCallsSpec : ChangeSpec := { name := "vxlanCalls", fn := fun _ => fun
  | [d1, d2] => { results := [.lit (.bool true)], args := [d1, d2] }
  | _ => none }
def vxlanCallsRow : OpenClaim := { program := "ytjdppdoakbojcaa", sum := "2a4b4d087d426364c2de1d05902d79e30884923b27b1614bdf1280b3e1d322c1", func := "leafmesh/leafmeshlaw08.VxlanCalls", spec := "vxlanCalls", unfollowed := true, recurses := true, apart := false }
def VxlanCallsSaid : Prop := vxlanCallsRow.holds Try.pinned (OpenSpec.ofChange vxlanCallsSpec)

/-- ITS FALSE NEIGHBOUR: 'it returns false'. Refute it at one input. -/
def vxlanCallsWrong : ChangeSpec := { name := "vxlanCalls", fn := fun _ => fun
  | [d1, d2] => { results := [.lit (.bool false)], args := [d1, d2] }
  | _ => none }
def VxlanCallsWrongFalsely : Prop := vxlanCallsRow.holds Try.pinned (OpenSpec.ofChange vxlanCallsWrong)

/-- 'leafmeshlaw08.VxlanFlows': WHATEVER THE INPUT: true; the input reads as it did. -/
def vxlanFlowsSpec : ChangeSpec := { name := "vxlanFlows", fn := fun _ => fun
  | [d1, d2] => { results := [.lit (.bool true)], args := [d1, d2] }
  | _ => none }
def vxlanFlowsRow : OpenClaim := { program := "ytjdppdoakbojcaa", sum := "2a4b4d087d426364c2de1d05902d79e30884923b27b1614bdf1280b3e1d322c1", func := "leafmesh/leafmeshlaw08.VxlanFlows", spec := "vxlanFlows", unfollowed := true, recurses := true, apart := false }
def VxlanFlowsSaid : Prop := vxlanFlowsRow.holds Try.pinned (OpenSpec.ofChange vxlanFlowsSpec)

/-- ITS FALSE NEIGHBOUR: 'it returns false'. Refute it at one input. -/
def vxlanFlowsWrong : ChangeSpec := { name := "vxlanFlows", fn := fun _ => fun
  | [d1, d2] => { results := [.lit (.bool false)], args := [d1, d2] }
  | _ => none }
def VxlanFlowsWrongFalsely : Prop := vxlanFlowsRow.holds Try.pinned (OpenSpec.ofChange vxlanFlowsWrong)

/-- 'leafmeshlaw08.VxlanNames': WHATEVER THE INPUT: true; the input reads as it did. -/
def vxlanNamesSpec : ChangeSpec := { name := "vxlanNames", fn := fun _ => fun
  | [] => { results := [.lit (.bool true)], args := [] }
  | _ => none }
def vxlanNamesRow : OpenClaim := { program := "ytjdppdoakbojcaa", sum := "2a4b4d087d426364c2de1d05902d79e30884923b27b1614bdf1280b3e1d322c1", func := "leafmesh/leafmeshlaw08.VxlanNames", spec := "vxlanNames", unfollowed := true, recurses := true, apart := false }
def VxlanNamesSaid : Prop := vxlanNamesRow.holds Try.pinned (OpenSpec.ofChange vxlanNamesSpec)

/-- ITS FALSE NEIGHBOUR: 'it returns false'. Refute it at one input. -/
def vxlanNamesWrong : ChangeSpec := { name := "vxlanNames", fn := fun _ => fun
  | [] => { results := [.lit (.bool false)], args := [] }
  | _ => none }
def VxlanNamesWrongFalsely : Prop := vxlanNamesRow.holds Try.pinned (OpenSpec.ofChange vxlanNamesWrong)

/-- 'leafmeshlaw08.VxlanRead': WHATEVER THE INPUT: true; the input reads as it did. -/
def vxlanReadSpec : ChangeSpec := { name := "vxlanRead", fn := fun _ => fun
  | [d] => { results := [.lit (.bool true)], args := [d] }
  | _ => none }
def vxlanReadRow : OpenClaim := { program := "ytjdppdoakbojcaa", sum := "2a4b4d087d426364c2de1d05902d79e30884923b27b1614bdf1280b3e1d322c1", func := "leafmesh/leafmeshlaw08.VxlanRead", spec := "vxlanRead", unfollowed := true, recurses := true, apart := false }
def VxlanReadSaid : Prop := vxlanReadRow.holds Try.pinned (OpenSpec.ofChange vxlanReadSpec)

/-- ITS FALSE NEIGHBOUR: 'it returns false'. Refute it at one input. -/
def vxlanReadWrong : ChangeSpec := { name := "vxlanRead", fn := fun _ => fun
  | [d] => { results := [.lit (.bool false)], args := [d] }
  | _ => none }
def VxlanReadWrongFalsely : Prop := vxlanReadRow.holds Try.pinned (OpenSpec.ofChange vxlanReadWrong)

/-- 'leafmeshlaw08.VxlanBack': WHATEVER THE INPUT: true; the input reads as it did. -/
def vxlanBackSpec : ChangeSpec := { name := "vxlanBack", fn := fun _ => fun
  | [d1, d2] => { results := [.lit (.bool true)], args := [d1, d2] }
  | _ => none }
def vxlanBackRow : OpenClaim := { program := "ytjdppdoakbojcaa", sum := "2a4b4d087d426364c2de1d05902d79e30884923b27b1614bdf1280b3e1d322c1", func := "leafmesh/leafmeshlaw08.VxlanBack", spec := "vxlanBack", unfollowed := true, recurses := true, apart := false }
def VxlanBackSaid : Prop := vxlanBackRow.holds Try.pinned (OpenSpec.ofChange vxlanBackSpec)

/-- ITS FALSE NEIGHBOUR: 'it returns false'. Refute it at one input. -/
def vxlanBackWrong : ChangeSpec := { name := "vxlanBack", fn := fun _ => fun
  | [d1, d2] => { results := [.lit (.bool false)], args := [d1, d2] }
  | _ => none }
def VxlanBackWrongFalsely : Prop := vxlanBackRow.holds Try.pinned (OpenSpec.ofChange vxlanBackWrong)

/-- 'leafmeshlaw08.VxlanChanges': WHATEVER THE INPUT: true; the input reads as it did. -/
def vxlanChangesSpec : ChangeSpec := { name := "vxlanChanges", fn := fun _ => fun
  | [d1, d2, d3] => { results := [.lit (.bool true)], args := [d1, d2, d3] }
  | _ => none }
def vxlanChangesRow : OpenClaim := { program := "ytjdppdoakbojcaa", sum := "2a4b4d087d426364c2de1d05902d79e30884923b27b1614bdf1280b3e1d322c1", func := "leafmesh/leafmeshlaw08.VxlanChanges", spec := "vxlanChanges", unfollowed := true, recurses := true, apart := false }
def VxlanChangesSaid : Prop := vxlanChangesRow.holds Try.pinned (OpenSpec.ofChange vxlanChangesSpec)

/-- ITS FALSE NEIGHBOUR: 'it returns false'. Refute it at one input. -/
def vxlanChangesWrong : ChangeSpec := { name := "vxlanChanges", fn := fun _ => fun
  | [d1, d2, d3] => { results := [.lit (.bool false)], args := [d1, d2, d3] }
  | _ => none }
def VxlanChangesWrongFalsely : Prop := vxlanChangesRow.holds Try.pinned (OpenSpec.ofChange vxlanChangesWrong)

/-- 'leafmeshlaw04.NlriOrder': WHATEVER THE INPUT: true; the input reads as it did. -/
def nlriOrderSpec : ChangeSpec := { name := "nlriOrder", fn := fun _ => fun
  | [d1, d2, d3, d4] => { results := [.lit (.bool true)], args := [d1, d2, d3, d4] }
  | _ => none }
def nlriOrderRow : OpenClaim := { program := "ytjdppdoakbojcaa", sum := "2a4b4d087d426364c2de1d05902d79e30884923b27b1614bdf1280b3e1d322c1", func := "leafmesh/leafmeshlaw04.NlriOrder", spec := "nlriOrder", unfollowed := true, recurses := true, apart := false }
def NlriOrderSaid : Prop := nlriOrderRow.holds Try.pinned (OpenSpec.ofChange nlriOrderSpec)

/-- ITS FALSE NEIGHBOUR: 'it returns false'. Refute it at one input. -/
def nlriOrderWrong : ChangeSpec := { name := "nlriOrder", fn := fun _ => fun
  | [d1, d2, d3, d4] => { results := [.lit (.bool false)], args := [d1, d2, d3, d4] }
  | _ => none }
def NlriOrderWrongFalsely : Prop := nlriOrderRow.holds Try.pinned (OpenSpec.ofChange nlriOrderWrong)

/-- 'leafmeshlaw04.NlriCalls': WHATEVER THE INPUT: true; the input reads as it did. -/
def nlriCallsSpec : ChangeSpec := { name := "nlriCalls", fn := fun _ => fun
  | [d1, d2, d3, d4, d5] => { results := [.lit (.bool true)], args := [d1, d2, d3, d4, d5] }
  | _ => none }
def nlriCallsRow : OpenClaim := { program := "ytjdppdoakbojcaa", sum := "2a4b4d087d426364c2de1d05902d79e30884923b27b1614bdf1280b3e1d322c1", func := "leafmesh/leafmeshlaw04.NlriCalls", spec := "nlriCalls", unfollowed := true, recurses := true, apart := false }
def NlriCallsSaid : Prop := nlriCallsRow.holds Try.pinned (OpenSpec.ofChange nlriCallsSpec)

/-- ITS FALSE NEIGHBOUR: 'it returns false'. Refute it at one input. -/
def nlriCallsWrong : ChangeSpec := { name := "nlriCalls", fn := fun _ => fun
  | [d1, d2, d3, d4, d5] => { results := [.lit (.bool false)], args := [d1, d2, d3, d4, d5] }
  | _ => none }
def NlriCallsWrongFalsely : Prop := nlriCallsRow.holds Try.pinned (OpenSpec.ofChange nlriCallsWrong)

/-- 'leafmeshlaw04.NlriRead': WHATEVER THE INPUT: true; the input reads as it did. -/
def nlriReadSpec : ChangeSpec := { name := "nlriRead", fn := fun _ => fun
  | [d] => { results := [.lit (.bool true)], args := [d] }
  | _ => none }
def nlriReadRow : OpenClaim := { program := "ytjdppdoakbojcaa", sum := "2a4b4d087d426364c2de1d05902d79e30884923b27b1614bdf1280b3e1d322c1", func := "leafmesh/leafmeshlaw04.NlriRead", spec := "nlriRead", unfollowed := true, recurses := true, apart := false }
def NlriReadSaid : Prop := nlriReadRow.holds Try.pinned (OpenSpec.ofChange nlriReadSpec)

/-- ITS FALSE NEIGHBOUR: 'it returns false'. Refute it at one input. -/
def nlriReadWrong : ChangeSpec := { name := "nlriRead", fn := fun _ => fun
  | [d] => { results := [.lit (.bool false)], args := [d] }
  | _ => none }
def NlriReadWrongFalsely : Prop := nlriReadRow.holds Try.pinned (OpenSpec.ofChange nlriReadWrong)

/-- 'leafmeshlaw04.NlriBack': WHATEVER THE INPUT: true; the input reads as it did. -/
def nlriBackSpec : ChangeSpec := { name := "nlriBack", fn := fun _ => fun
  | [d] => { results := [.lit (.bool true)], args := [d] }
  | _ => none }
def nlriBackRow : OpenClaim := { program := "ytjdppdoakbojcaa", sum := "2a4b4d087d426364c2de1d05902d79e30884923b27b1614bdf1280b3e1d322c1", func := "leafmesh/leafmeshlaw04.NlriBack", spec := "nlriBack", unfollowed := true, recurses := true, apart := false }
def NlriBackSaid : Prop := nlriBackRow.holds Try.pinned (OpenSpec.ofChange nlriBackSpec)

/-- ITS FALSE NEIGHBOUR: 'it returns false'. Refute it at one input. -/
def nlriBackWrong : ChangeSpec := { name := "nlriBack", fn := fun _ => fun
  | [d] => { results := [.lit (.bool false)], args := [d] }
  | _ => none }
def NlriBackWrongFalsely : Prop := nlriBackRow.holds Try.pinned (OpenSpec.ofChange nlriBackWrong)

/-- 'leafmeshlaw04.NlriOnly': WHATEVER THE INPUT: true; the input reads as it did. -/
def nlriOnlySpec : ChangeSpec := { name := "nlriOnly", fn := fun _ => fun
  | [d1, d2] => { results := [.lit (.bool true)], args := [d1, d2] }
  | _ => none }
def nlriOnlyRow : OpenClaim := { program := "ytjdppdoakbojcaa", sum := "2a4b4d087d426364c2de1d05902d79e30884923b27b1614bdf1280b3e1d322c1", func := "leafmesh/leafmeshlaw04.NlriOnly", spec := "nlriOnly", unfollowed := true, recurses := true, apart := false }
def NlriOnlySaid : Prop := nlriOnlyRow.holds Try.pinned (OpenSpec.ofChange nlriOnlySpec)

/-- ITS FALSE NEIGHBOUR: 'it returns false'. Refute it at one input. -/
def nlriOnlyWrong : ChangeSpec := { name := "nlriOnly", fn := fun _ => fun
  | [d1, d2] => { results := [.lit (.bool false)], args := [d1, d2] }
  | _ => none }
def NlriOnlyWrongFalsely : Prop := nlriOnlyRow.holds Try.pinned (OpenSpec.ofChange nlriOnlyWrong)

/-- 'leafmeshlaw04.NlriNames': WHATEVER THE INPUT: true; the input reads as it did. -/
def nlriNamesSpec : ChangeSpec := { name := "nlriNames", fn := fun _ => fun
  | [] => { results := [.lit (.bool true)], args := [] }
  | _ => none }
def nlriNamesRow : OpenClaim := { program := "ytjdppdoakbojcaa", sum := "2a4b4d087d426364c2de1d05902d79e30884923b27b1614bdf1280b3e1d322c1", func := "leafmesh/leafmeshlaw04.NlriNames", spec := "nlriNames", unfollowed := true, recurses := true, apart := false }
def NlriNamesSaid : Prop := nlriNamesRow.holds Try.pinned (OpenSpec.ofChange nlriNamesSpec)

/-- ITS FALSE NEIGHBOUR: 'it returns false'. Refute it at one input. -/
def nlriNamesWrong : ChangeSpec := { name := "nlriNames", fn := fun _ => fun
  | [] => { results := [.lit (.bool false)], args := [] }
  | _ => none }
def NlriNamesWrongFalsely : Prop := nlriNamesRow.holds Try.pinned (OpenSpec.ofChange nlriNamesWrong)

/-- 'leafmeshlaw07.PacketCalls': WHATEVER THE INPUT: true; the input reads as it did. -/
def packetCallsSpec : ChangeSpec := { name := "packetCalls", fn := fun _ => fun
  | [d1, d2, d3] => { results := [.lit (.bool true)], args := [d1, d2, d3] }
  | _ => none }
def packetCallsRow : OpenClaim := { program := "ytjdppdoakbojcaa", sum := "2a4b4d087d426364c2de1d05902d79e30884923b27b1614bdf1280b3e1d322c1", func := "leafmesh/leafmeshlaw07.PacketCalls", spec := "packetCalls", unfollowed := true, recurses := true, apart := false }
def PacketCallsSaid : Prop := packetCallsRow.holds Try.pinned (OpenSpec.ofChange packetCallsSpec)

/-- ITS FALSE NEIGHBOUR: 'it returns false'. Refute it at one input. -/
def packetCallsWrong : ChangeSpec := { name := "packetCalls", fn := fun _ => fun
  | [d1, d2, d3] => { results := [.lit (.bool false)], args := [d1, d2, d3] }
  | _ => none }
def PacketCallsWrongFalsely : Prop := packetCallsRow.holds Try.pinned (OpenSpec.ofChange packetCallsWrong)

/-- 'leafmeshlaw07.PacketRead': WHATEVER THE INPUT: true; the input reads as it did. -/
def packetReadSpec : ChangeSpec := { name := "packetRead", fn := fun _ => fun
  | [d] => { results := [.lit (.bool true)], args := [d] }
  | _ => none }
def packetReadRow : OpenClaim := { program := "ytjdppdoakbojcaa", sum := "2a4b4d087d426364c2de1d05902d79e30884923b27b1614bdf1280b3e1d322c1", func := "leafmesh/leafmeshlaw07.PacketRead", spec := "packetRead", unfollowed := true, recurses := true, apart := false }
def PacketReadSaid : Prop := packetReadRow.holds Try.pinned (OpenSpec.ofChange packetReadSpec)

/-- ITS FALSE NEIGHBOUR: 'it returns false'. Refute it at one input. -/
def packetReadWrong : ChangeSpec := { name := "packetRead", fn := fun _ => fun
  | [d] => { results := [.lit (.bool false)], args := [d] }
  | _ => none }
def PacketReadWrongFalsely : Prop := packetReadRow.holds Try.pinned (OpenSpec.ofChange packetReadWrong)

/-- 'leafmeshlaw07.PacketBack': WHATEVER THE INPUT: true; the input reads as it did. -/
def packetBackSpec : ChangeSpec := { name := "packetBack", fn := fun _ => fun
  | [d] => { results := [.lit (.bool true)], args := [d] }
  | _ => none }
def packetBackRow : OpenClaim := { program := "ytjdppdoakbojcaa", sum := "2a4b4d087d426364c2de1d05902d79e30884923b27b1614bdf1280b3e1d322c1", func := "leafmesh/leafmeshlaw07.PacketBack", spec := "packetBack", unfollowed := true, recurses := true, apart := false }
def PacketBackSaid : Prop := packetBackRow.holds Try.pinned (OpenSpec.ofChange packetBackSpec)

/-- ITS FALSE NEIGHBOUR: 'it returns false'. Refute it at one input. -/
def packetBackWrong : ChangeSpec := { name := "packetBack", fn := fun _ => fun
  | [d] => { results := [.lit (.bool false)], args := [d] }
  | _ => none }
def PacketBackWrongFalsely : Prop := packetBackRow.holds Try.pinned (OpenSpec.ofChange packetBackWrong)

/-- 'leafmeshlaw07.PacketOnly': WHATEVER THE INPUT: true; the input reads as it did. -/
def packetOnlySpec : ChangeSpec := { name := "packetOnly", fn := fun _ => fun
  | [d1, d2, d3] => { results := [.lit (.bool true)], args := [d1, d2, d3] }
  | _ => none }
def packetOnlyRow : OpenClaim := { program := "ytjdppdoakbojcaa", sum := "2a4b4d087d426364c2de1d05902d79e30884923b27b1614bdf1280b3e1d322c1", func := "leafmesh/leafmeshlaw07.PacketOnly", spec := "packetOnly", unfollowed := true, recurses := true, apart := false }
def PacketOnlySaid : Prop := packetOnlyRow.holds Try.pinned (OpenSpec.ofChange packetOnlySpec)

/-- ITS FALSE NEIGHBOUR: 'it returns false'. Refute it at one input. -/
def packetOnlyWrong : ChangeSpec := { name := "packetOnly", fn := fun _ => fun
  | [d1, d2, d3] => { results := [.lit (.bool false)], args := [d1, d2, d3] }
  | _ => none }
def PacketOnlyWrongFalsely : Prop := packetOnlyRow.holds Try.pinned (OpenSpec.ofChange packetOnlyWrong)

/-- 'leafmeshlaw07.PacketSums': WHATEVER THE INPUT: true; the input reads as it did. -/
def packetSumsSpec : ChangeSpec := { name := "packetSums", fn := fun _ => fun
  | [d1, d2, d3] => { results := [.lit (.bool true)], args := [d1, d2, d3] }
  | _ => none }
def packetSumsRow : OpenClaim := { program := "ytjdppdoakbojcaa", sum := "2a4b4d087d426364c2de1d05902d79e30884923b27b1614bdf1280b3e1d322c1", func := "leafmesh/leafmeshlaw07.PacketSums", spec := "packetSums", unfollowed := true, recurses := true, apart := false }
def PacketSumsSaid : Prop := packetSumsRow.holds Try.pinned (OpenSpec.ofChange packetSumsSpec)

/-- ITS FALSE NEIGHBOUR: 'it returns false'. Refute it at one input. -/
def packetSumsWrong : ChangeSpec := { name := "packetSums", fn := fun _ => fun
  | [d1, d2, d3] => { results := [.lit (.bool false)], args := [d1, d2, d3] }
  | _ => none }
def PacketSumsWrongFalsely : Prop := packetSumsRow.holds Try.pinned (OpenSpec.ofChange packetSumsWrong)

/- THE SECOND FORM. 'bulk': how many values and letters a reading holds, each counted each time it is reached (what is shared counts as often as it is met; a slice's spare places count too). A statement '..UptoSaid' is the law's where the arguments, and the package variables that the reading takes, are together of bulk at most 1048576: NARROWER than '..Said'. Prove '..Said' where nothing that the law and all that it calls make is longer than what came in: it says more and counts as full. Else prove '..UptoSaid'. A law counts once. -/
mutual
def uptoBulk {H : Type} : DataW H → Nat
  | .lit (.string bytes) => bytes.length + 1
  | .lit _ => 1
  | .nil => 1
  | .ptr d => uptoBulk d + 1
  | .slice elems spare => uptoBulkAll elems + uptoBulkAll spare + 1
  | .agg parts => uptoBulkAll parts + 1
  | .iface _ d => uptoBulk d + 1
  | .map entries => uptoBulkEntries entries + 1
  | .held _ => 1
def uptoBulkAll {H : Type} : List (DataW H) → Nat
  | [] => 0
  | d :: r => uptoBulk d + uptoBulkAll r
def uptoBulkEntries {H : Type} : List (Lit × DataW H) → Nat
  | [] => 0
  | x :: r => uptoBulkEntry x + uptoBulkEntries r
def uptoBulkEntry {H : Type} : Lit × DataW H → Nat
  | (.string bytes, d) => bytes.length + uptoBulk d + 1
  | (_, d) => uptoBulk d + 1
 end
def uptoSmall : (H : Type) → List (DataW H) → Bool := fun _ ds => decide (uptoBulkAll ds ≤ 1048576)
def OpenSpec.upto (s : _root_.Go.ChangeSpec) : _root_.Go.OpenSpec := { _root_.Go.OpenSpec.ofChange s with cond := some uptoSmall }

/-- 'leafmeshlaw08.VxlanCalls', WHERE WHAT IT READS IS OF BULK AT MOST 1048576: true; the input reads as it did. -/
def vxlanCallsUptoRow : OpenClaim := { program := "ytjdppdoakbojcaa", sum := "2a4b4d087d426364c2de1d05902d79e30884923b27b1614bdf1280b3e1d322c1", func := "leafmesh/leafmeshlaw08.VxlanCalls", spec := "vxlanCalls", unfollowed := true, recurses := true, apart := false, narrowed := true }
def VxlanCallsUptoSaid : Prop := vxlanCallsUptoRow.holds Try.pinned (OpenSpec.upto vxlanCallsSpec)

/-- 'leafmeshlaw08.VxlanFlows', WHERE WHAT IT READS IS OF BULK AT MOST 1048576: true; the input reads as it did. -/
def vxlanFlowsUptoRow : OpenClaim := { program := "ytjdppdoakbojcaa", sum := "2a4b4d087d426364c2de1d05902d79e30884923b27b1614bdf1280b3e1d322c1", func := "leafmesh/leafmeshlaw08.VxlanFlows", spec := "vxlanFlows", unfollowed := true, recurses := true, apart := false, narrowed := true }
def VxlanFlowsUptoSaid : Prop := vxlanFlowsUptoRow.holds Try.pinned (OpenSpec.upto vxlanFlowsSpec)

/-- 'leafmeshlaw08.VxlanNames', WHERE WHAT IT READS IS OF BULK AT MOST 1048576: true; the input reads as it did. -/
def vxlanNamesUptoRow : OpenClaim := { program := "ytjdppdoakbojcaa", sum := "2a4b4d087d426364c2de1d05902d79e30884923b27b1614bdf1280b3e1d322c1", func := "leafmesh/leafmeshlaw08.VxlanNames", spec := "vxlanNames", unfollowed := true, recurses := true, apart := false, narrowed := true }
def VxlanNamesUptoSaid : Prop := vxlanNamesUptoRow.holds Try.pinned (OpenSpec.upto vxlanNamesSpec)

/-- 'leafmeshlaw08.VxlanRead', WHERE WHAT IT READS IS OF BULK AT MOST 1048576: true; the input reads as it did. -/
def vxlanReadUptoRow : OpenClaim := { program := "ytjdppdoakbojcaa", sum := "2a4b4d087d426364c2de1d05902d79e30884923b27b1614bdf1280b3e1d322c1", func := "leafmesh/leafmeshlaw08.VxlanRead", spec := "vxlanRead", unfollowed := true, recurses := true, apart := false, narrowed := true }
def VxlanReadUptoSaid : Prop := vxlanReadUptoRow.holds Try.pinned (OpenSpec.upto vxlanReadSpec)

/-- 'leafmeshlaw08.VxlanBack', WHERE WHAT IT READS IS OF BULK AT MOST 1048576: true; the input reads as it did. -/
def vxlanBackUptoRow : OpenClaim := { program := "ytjdppdoakbojcaa", sum := "2a4b4d087d426364c2de1d05902d79e30884923b27b1614bdf1280b3e1d322c1", func := "leafmesh/leafmeshlaw08.VxlanBack", spec := "vxlanBack", unfollowed := true, recurses := true, apart := false, narrowed := true }
def VxlanBackUptoSaid : Prop := vxlanBackUptoRow.holds Try.pinned (OpenSpec.upto vxlanBackSpec)

/-- 'leafmeshlaw08.VxlanChanges', WHERE WHAT IT READS IS OF BULK AT MOST 1048576: true; the input reads as it did. -/
def vxlanChangesUptoRow : OpenClaim := { program := "ytjdppdoakbojcaa", sum := "2a4b4d087d426364c2de1d05902d79e30884923b27b1614bdf1280b3e1d322c1", func := "leafmesh/leafmeshlaw08.VxlanChanges", spec := "vxlanChanges", unfollowed := true, recurses := true, apart := false, narrowed := true }
def VxlanChangesUptoSaid : Prop := vxlanChangesUptoRow.holds Try.pinned (OpenSpec.upto vxlanChangesSpec)

/-- 'leafmeshlaw04.NlriOrder', WHERE WHAT IT READS IS OF BULK AT MOST 1048576: true; the input reads as it did. -/
def nlriOrderUptoRow : OpenClaim := { program := "ytjdppdoakbojcaa", sum := "2a4b4d087d426364c2de1d05902d79e30884923b27b1614bdf1280b3e1d322c1", func := "leafmesh/leafmeshlaw04.NlriOrder", spec := "nlriOrder", unfollowed := true, recurses := true, apart := false, narrowed := true }
def NlriOrderUptoSaid : Prop := nlriOrderUptoRow.holds Try.pinned (OpenSpec.upto nlriOrderSpec)

/-- 'leafmeshlaw04.NlriCalls', WHERE WHAT IT READS IS OF BULK AT MOST 1048576: true; the input reads as it did. -/
def nlriCallsUptoRow : OpenClaim := { program := "ytjdppdoakbojcaa", sum := "2a4b4d087d426364c2de1d05902d79e30884923b27b1614bdf1280b3e1d322c1", func := "leafmesh/leafmeshlaw04.NlriCalls", spec := "nlriCalls", unfollowed := true, recurses := true, apart := false, narrowed := true }
def NlriCallsUptoSaid : Prop := nlriCallsUptoRow.holds Try.pinned (OpenSpec.upto nlriCallsSpec)

/-- 'leafmeshlaw04.NlriRead', WHERE WHAT IT READS IS OF BULK AT MOST 1048576: true; the input reads as it did. -/
def nlriReadUptoRow : OpenClaim := { program := "ytjdppdoakbojcaa", sum := "2a4b4d087d426364c2de1d05902d79e30884923b27b1614bdf1280b3e1d322c1", func := "leafmesh/leafmeshlaw04.NlriRead", spec := "nlriRead", unfollowed := true, recurses := true, apart := false, narrowed := true }
def NlriReadUptoSaid : Prop := nlriReadUptoRow.holds Try.pinned (OpenSpec.upto nlriReadSpec)

/-- 'leafmeshlaw04.NlriBack', WHERE WHAT IT READS IS OF BULK AT MOST 1048576: true; the input reads as it did. -/
def nlriBackUptoRow : OpenClaim := { program := "ytjdppdoakbojcaa", sum := "2a4b4d087d426364c2de1d05902d79e30884923b27b1614bdf1280b3e1d322c1", func := "leafmesh/leafmeshlaw04.NlriBack", spec := "nlriBack", unfollowed := true, recurses := true, apart := false, narrowed := true }
def NlriBackUptoSaid : Prop := nlriBackUptoRow.holds Try.pinned (OpenSpec.upto nlriBackSpec)

/-- 'leafmeshlaw04.NlriOnly', WHERE WHAT IT READS IS OF BULK AT MOST 1048576: true; the input reads as it did. -/
def nlriOnlyUptoRow : OpenClaim := { program := "ytjdppdoakbojcaa", sum := "2a4b4d087d426364c2de1d05902d79e30884923b27b1614bdf1280b3e1d322c1", func := "leafmesh/leafmeshlaw04.NlriOnly", spec := "nlriOnly", unfollowed := true, recurses := true, apart := false, narrowed := true }
def NlriOnlyUptoSaid : Prop := nlriOnlyUptoRow.holds Try.pinned (OpenSpec.upto nlriOnlySpec)

/-- 'leafmeshlaw04.NlriNames', WHERE WHAT IT READS IS OF BULK AT MOST 1048576: true; the input reads as it did. -/
def nlriNamesUptoRow : OpenClaim := { program := "ytjdppdoakbojcaa", sum := "2a4b4d087d426364c2de1d05902d79e30884923b27b1614bdf1280b3e1d322c1", func := "leafmesh/leafmeshlaw04.NlriNames", spec := "nlriNames", unfollowed := true, recurses := true, apart := false, narrowed := true }
def NlriNamesUptoSaid : Prop := nlriNamesUptoRow.holds Try.pinned (OpenSpec.upto nlriNamesSpec)

/-- 'leafmeshlaw07.PacketCalls', WHERE WHAT IT READS IS OF BULK AT MOST 1048576: true; the input reads as it did. -/
def packetCallsUptoRow : OpenClaim := { program := "ytjdppdoakbojcaa", sum := "2a4b4d087d426364c2de1d05902d79e30884923b27b1614bdf1280b3e1d322c1", func := "leafmesh/leafmeshlaw07.PacketCalls", spec := "packetCalls", unfollowed := true, recurses := true, apart := false, narrowed := true }
def PacketCallsUptoSaid : Prop := packetCallsUptoRow.holds Try.pinned (OpenSpec.upto packetCallsSpec)

/-- 'leafmeshlaw07.PacketRead', WHERE WHAT IT READS IS OF BULK AT MOST 1048576: true; the input reads as it did. -/
def packetReadUptoRow : OpenClaim := { program := "ytjdppdoakbojcaa", sum := "2a4b4d087d426364c2de1d05902d79e30884923b27b1614bdf1280b3e1d322c1", func := "leafmesh/leafmeshlaw07.PacketRead", spec := "packetRead", unfollowed := true, recurses := true, apart := false, narrowed := true }
def PacketReadUptoSaid : Prop := packetReadUptoRow.holds Try.pinned (OpenSpec.upto packetReadSpec)

/-- 'leafmeshlaw07.PacketBack', WHERE WHAT IT READS IS OF BULK AT MOST 1048576: true; the input reads as it did. -/
def packetBackUptoRow : OpenClaim := { program := "ytjdppdoakbojcaa", sum := "2a4b4d087d426364c2de1d05902d79e30884923b27b1614bdf1280b3e1d322c1", func := "leafmesh/leafmeshlaw07.PacketBack", spec := "packetBack", unfollowed := true, recurses := true, apart := false, narrowed := true }
def PacketBackUptoSaid : Prop := packetBackUptoRow.holds Try.pinned (OpenSpec.upto packetBackSpec)

/-- 'leafmeshlaw07.PacketOnly', WHERE WHAT IT READS IS OF BULK AT MOST 1048576: true; the input reads as it did. -/
def packetOnlyUptoRow : OpenClaim := { program := "ytjdppdoakbojcaa", sum := "2a4b4d087d426364c2de1d05902d79e30884923b27b1614bdf1280b3e1d322c1", func := "leafmesh/leafmeshlaw07.PacketOnly", spec := "packetOnly", unfollowed := true, recurses := true, apart := false, narrowed := true }
def PacketOnlyUptoSaid : Prop := packetOnlyUptoRow.holds Try.pinned (OpenSpec.upto packetOnlySpec)

/-- 'leafmeshlaw07.PacketSums', WHERE WHAT IT READS IS OF BULK AT MOST 1048576: true; the input reads as it did. -/
def packetSumsUptoRow : OpenClaim := { program := "ytjdppdoakbojcaa", sum := "2a4b4d087d426364c2de1d05902d79e30884923b27b1614bdf1280b3e1d322c1", func := "leafmesh/leafmeshlaw07.PacketSums", spec := "packetSums", unfollowed := true, recurses := true, apart := false, narrowed := true }
def PacketSumsUptoSaid : Prop := packetSumsUptoRow.holds Try.pinned (OpenSpec.upto packetSumsSpec)

end Rows
end Go.Proofs.Ytjdppdoakbojcaa
