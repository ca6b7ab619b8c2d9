/- What is read of the arguments; the contract of the closed examples. -/
import Derived.Test.YtcbifjbmbceipaaCx
import Derived.Test.YtcbifjbmbceipaaSep3
import Derived.Test.YtcbifjbmbceipaaSep6
import Derived.Test.YtcbifjbmbceipaaRd1
import Derived.WalkKit
import Derived.ProofKit
import Derived.OpenShut
namespace Go.Proofs.Ytcbifjbmbceipaa.Abs
open Go Go.RowKit
set_option linter.unusedVariables false
set_option maxRecDepth 100000
set_option maxHeartbeats 2000000


theorem livesRun : acall (cell0 Try.prog) ansB 60 9 [] st0 isTrue = true := by kernel_rfl
theorem extOk [Tok] (B0 : Nat) (old : Nat → Option (List Value)) : ExtOk (cx B0 old) := by
  intro f args v h0
  have h : extS f args = some v := h0
  clear h0
  unfold extS at h
  split at h
  · rename_i e
    have e := Nat.eq_of_beq_eq_true e
    subst e
    cases h
    refine ⟨rfl, fun φ N args' w ha => ?_⟩
    cases ha
    exact closedX 60 9 livesRun w
  · cases h
theorem lv5 : leaves Try.prog 10 5 = some [5] := by kernel_rfl
theorem lv3 : leaves Try.prog 10 3 = some [3] := by kernel_rfl
section
variable {H : Type} {enc : TypeId × Value → H} {w : World} {base : Nat} {spare : Nat → Bool} {held : Bool}
theorem byte_read {hs fuel : Nat} {cs : List Value} {x : DataW H × List MemPlace} (h : DataW.trod enc Try.prog w base spare held fuel 5 cs = some x) : cs.length = 1 ∧ ∃ p : Int, cs.map (normV hs) = encB p ∧ (Lit.int .u8 p).wf = true := by
  have hh := leaves_ok 10 5 _ lv5 _ _ _ h
  refine ⟨hh.1, ?_⟩
  obtain ⟨v0, cs0, rfl, l0, h0⟩ := LeafOk.next hh
  obtain rfl := LeafOk.done h0
  obtain ⟨n0, rfl, w0⟩ := leaf_int (k := .u8) Try.underlying5 l0
  exact ⟨n0, rfl, w0⟩
theorem int_read {hs fuel : Nat} {cs : List Value} {x : DataW H × List MemPlace} (h : DataW.trod enc Try.prog w base spare held fuel 3 cs = some x) : cs.length = 1 ∧ ∃ p : Int, cs.map (normV hs) = encI p ∧ (Lit.int .i64 p).wf = true := by
  have hh := leaves_ok 10 3 _ lv3 _ _ _ h
  refine ⟨hh.1, ?_⟩
  obtain ⟨v0, cs0, rfl, l0, h0⟩ := LeafOk.next hh
  obtain rfl := LeafOk.done h0
  obtain ⟨n0, rfl, w0⟩ := leaf_int (k := .i64) Try.underlying3 l0
  exact ⟨n0, rfl, w0⟩
end
end Go.Proofs.Ytcbifjbmbceipaa.Abs
