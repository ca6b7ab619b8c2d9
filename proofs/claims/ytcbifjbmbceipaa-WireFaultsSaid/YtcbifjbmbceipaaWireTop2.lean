/- What is read of steps. -/
import Derived.Test.YtcbifjbmbceipaaReads0
namespace Go.Proofs.Ytcbifjbmbceipaa.Abs
open Go Go.RowKit
set_option linter.unusedVariables false
set_option maxRecDepth 100000
theorem lv45 : leaves Try.prog 10 45 = some [3, 3] := by kernel_rfl
theorem isB_wf {n : Int} (h : (Lit.int .u8 n).wf = true) : isB n := by
  simp [Lit.wf, IntKind.min, IntKind.max, IntKind.signed, IntKind.bits] at h; exact ⟨h.1, by omega⟩
section
variable {H : Type} {enc : TypeId × Value → H} {w : World} {base : Nat} {spare : Nat → Bool} {held : Bool}
theorem step_read {hs fuel : Nat} {cs : List Value} {x : DataW H × List MemPlace} (h : DataW.trod enc Try.prog w base spare held fuel 45 cs = some x) : cs.length = 2 ∧ ∃ p : Int × Int, cs.map (normV hs) = encS p ∧ True := by
  have hh := leaves_ok 10 45 _ lv45 _ _ _ h
  refine ⟨hh.1, ?_⟩
  obtain ⟨v0, cs0, rfl, l0, h0⟩ := LeafOk.next hh
  obtain ⟨v1, cs1, rfl, l1, h1⟩ := LeafOk.next h0
  obtain rfl := LeafOk.done h1
  obtain ⟨n0, rfl, w0⟩ := leaf_int (k := .i64) Try.underlying3 l0
  obtain ⟨n1, rfl, w1⟩ := leaf_int (k := .i64) Try.underlying3 l1
  exact ⟨(n0, n1), rfl, trivial⟩
end
end Go.Proofs.Ytcbifjbmbceipaa.Abs
