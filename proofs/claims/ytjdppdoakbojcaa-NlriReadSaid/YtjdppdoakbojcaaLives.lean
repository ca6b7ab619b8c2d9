/- The closed examples of the three chapters answer true. -/
import Derived.Test.YtjdppdoakbojcaaCx
import Derived.Test.YtjdppdoakbojcaaSep3
namespace Go.Proofs.Ytjdppdoakbojcaa.Abs
open Go Go.RowKit
set_option linter.unusedVariables false
set_option maxRecDepth 100000
set_option maxHeartbeats 2000000
theorem livesRun20 : acall (cell0 Try.prog) ansB 60 20 [] st0 isTrue = true := by kernel_rfl
theorem livesRun34 : acall (cell0 Try.prog) ansB 60 34 [] st0 isTrue = true := by kernel_rfl
theorem livesRun52 : acall (cell0 Try.prog) ansB 60 52 [] st0 isTrue = true := by kernel_rfl
theorem extOk [Tok] (B0 : Nat) (old : Nat → Option (List Value)) : ExtOk (cx B0 old) := by
  intro f args v h0
  have h : extS f args = some v := h0
  clear h0
  unfold extS at h
  split at h
  · rename_i e
    cases h
    rw [Bool.or_eq_true, Bool.or_eq_true] at e
    rcases e with (e | e) | e <;> have e := Nat.eq_of_beq_eq_true e <;> subst e
    · refine ⟨rfl, fun φ N args' w ha => ?_⟩
      cases ha
      exact closedX 60 20 livesRun20 w
    · refine ⟨rfl, fun φ N args' w ha => ?_⟩
      cases ha
      exact closedX 60 34 livesRun34 w
    · refine ⟨rfl, fun φ N args' w ha => ?_⟩
      cases ha
      exact closedX 60 52 livesRun52 w
  · cases h
end Go.Proofs.Ytjdppdoakbojcaa.Abs
