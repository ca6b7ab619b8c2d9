/- The closed examples answer true. -/
import Derived.Test.YtdaigoiekkofoaaCx
import Derived.Test.YtdaigoiekkofoaaSep3
import Derived.Test.YtdaigoiekkofoaaMh
namespace Go.Proofs.Ytdaigoiekkofoaa.Abs
open Go Go.RowKit
set_option linter.unusedVariables false
set_option maxRecDepth 100000
set_option maxHeartbeats 2000000
theorem livesRun : acall (cell0 Try.prog) ansB 60 12 [] st0 isTrue = true := by kernel_rfl
theorem extOk [Tok] (B0 : Nat) (old : Nat → Option (List Value)) : ExtOk (cx B0 old) := by
  intro f args v h0
  have h : extS f args = some v := h0
  clear h0
  unfold extS at h
  split at h
  · rename_i e
    have e := Nat.eq_of_beq_eq_true e
    subst e
    cases h
    refine ⟨rfl, fun φ N args' w ha => ?_⟩
    cases ha
    exact closedX 60 12 livesRun w
  · cases h
end Go.Proofs.Ytdaigoiekkofoaa.Abs

/- What is read of links and of flags. -/
namespace Go.Proofs.Ytdaigoiekkofoaa.Abs
open Go Go.RowKit
set_option linter.unusedVariables false
set_option maxRecDepth 100000
set_option maxHeartbeats 2000000
theorem lv27 : leaves Try.prog 10 27 = some [3, 3, 3] := by kernel_rfl
theorem lv4 : leaves Try.prog 10 4 = some [4] := by kernel_rfl
section
variable {H : Type} {enc : TypeId × Value → H} {w : World} {base : Nat} {spare : Nat → Bool} {held : Bool}
theorem link_read {hs fuel : Nat} {cs : List Value} {x : DataW H × List MemPlace} (h : DataW.trod enc Try.prog w base spare held fuel 27 cs = some x) : cs.length = 3 ∧ ∃ p : Ln, cs.map (normV hs) = encLn p ∧ True := by
  have hh := leaves_ok 10 27 _ lv27 _ _ _ h
  refine ⟨hh.1, ?_⟩
  obtain ⟨v0, cs0, rfl, l0, h0⟩ := LeafOk.next hh
  obtain ⟨v1, cs1, rfl, l1, h1⟩ := LeafOk.next h0
  obtain ⟨v2, cs2, rfl, l2, h2⟩ := LeafOk.next h1
  obtain rfl := LeafOk.done h2
  obtain ⟨n0, rfl, w0⟩ := leaf_int (k := .i64) Try.underlying3 l0
  obtain ⟨n1, rfl, w1⟩ := leaf_int (k := .i64) Try.underlying3 l1
  obtain ⟨n2, rfl, w2⟩ := leaf_int (k := .i64) Try.underlying3 l2
  exact ⟨⟨n0, n1, n2⟩, rfl, trivial⟩
theorem bool_read {hs fuel : Nat} {cs : List Value} {x : DataW H × List MemPlace} (h : DataW.trod enc Try.prog w base spare held fuel 4 cs = some x) : cs.length = 1 ∧ ∃ p : Bool, cs.map (normV hs) = encBo p ∧ True := by
  have hh := leaves_ok 10 4 _ lv4 _ _ _ h
  refine ⟨hh.1, ?_⟩
  obtain ⟨v0, cs0, rfl, l0, h0⟩ := LeafOk.next hh
  obtain rfl := LeafOk.done h0
  obtain ⟨n0, rfl⟩ := leaf_bool Try.underlying4 l0
  exact ⟨n0, rfl, trivial⟩
end
end Go.Proofs.Ytdaigoiekkofoaa.Abs
