/- Readings of arguments for the statements of chapter 07. -/
import Derived.Test.YtjdppdoakbojcaaNf
import Derived.Test.YtjdppdoakbojcaaTop
namespace Go.Proofs.Ytjdppdoakbojcaa.Abs
open Go Go.RowKit
set_option linter.unusedVariables false
set_option maxRecDepth 100000
set_option maxHeartbeats 2000000
theorem lt_EL {c : Nat} (h : c ≤ maxLen) : c < EL := by unfold maxLen at h; unfold EL; omega
theorem le_i64 {n c : Nat} (h : n ≤ c) (h2 : c ≤ maxLen) : n ≤ 9223372036854775807 := by unfold maxLen at h2; omega
theorem isY_wf {n : Int} (h : (Lit.int .u8 n).wf = true) : isY n := by
  have := wf_u8 h
  unfold isY
  omega
theorem lv5 : leaves Try.prog 10 5 = some [5] := by kernel_rfl
section
variable {H : Type} {enc : TypeId × Value → H} {w : World} {base : Nat} {spare : Nat → Bool} {held : Bool}
theorem u8_read {hs fuel : Nat} {cs : List Value} {x : DataW H × List MemPlace} (h : DataW.trod enc Try.prog w base spare held fuel 5 cs = some x) : cs.length = 1 ∧ ∃ p : Int, cs.map (normV hs) = encY p ∧ isY p := by
  have hh := leaves_ok 10 5 _ lv5 _ _ _ h
  refine ⟨hh.1, ?_⟩
  obtain ⟨v0, cs0, rfl, l0, h0⟩ := LeafOk.next hh
  obtain rfl := LeafOk.done h0
  obtain ⟨n0, rfl, w0⟩ := leaf_int (k := .u8) Try.underlying5 l0
  exact ⟨n0, rfl, isY_wf w0⟩
end
end Go.Proofs.Ytjdppdoakbojcaa.Abs
