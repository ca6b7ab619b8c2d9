/- The contract of the chapter's closed examples. -/
import Derived.Test.YtphadapcafibpaaCx
import Derived.Test.YtphadapcafibpaaSep3
namespace Go.Proofs.Ytphadapcafibpaa.Abs
open Go Go.RowKit
set_option linter.unusedVariables false
set_option maxRecDepth 100000
set_option maxHeartbeats 2000000
theorem livesRun : acall (cell0 Try.prog) ansB 60 5 [] st0 isTrue = true := by kernel_rfl
theorem extOk [Tok] (B0 : Nat) (old : Nat → Option (List Value)) : ExtOk (cx B0 old) := by
  intro f args v h0
  have h : extS f args = some v := h0
  clear h0
  unfold extS at h
  split at h
  · rename_i e
    have e := Nat.eq_of_beq_eq_true e
    subst e
    cases h
    refine ⟨rfl, fun φ N args' w ha => ?_⟩
    cases ha
    exact closedX 60 5 livesRun w
  · cases h
end Go.Proofs.Ytphadapcafibpaa.Abs
