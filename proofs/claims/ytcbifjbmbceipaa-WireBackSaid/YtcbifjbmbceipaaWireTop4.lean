/- What is read of acts whose bytes are not used. -/
import Derived.Test.YtcbifjbmbceipaaBack0
namespace Go.Proofs.Ytcbifjbmbceipaa.Abs
open Go Go.RowKit
set_option linter.unusedVariables false
set_option maxRecDepth 100000
theorem lv63b : leaves Try.prog 10 63 = some [3, 3, 31, 22] := by kernel_rfl
theorem u64_wf {n : Int} (h : (Lit.int .u64 n).wf = true) : 0 ≤ n ∧ n < 18446744073709551616 := by
  simp [Lit.wf, IntKind.min, IntKind.max, IntKind.signed, IntKind.bits] at h; omega
section
variable {H : Type} {enc : TypeId × Value → H} {w : World} {base : Nat} {spare : Nat → Bool} {held : Bool}
theorem act2_read {hs fuel : Nat} {cs : List Value} {x : DataW H × List MemPlace} (h : DataW.trod enc Try.prog w base spare held fuel 63 cs = some x) : cs.length = 4 ∧ ∃ p : Ac2, cs.map (normV hs) = encA2 p ∧ (0 ≤ p.n ∧ p.n < 18446744073709551616) := by
  have hh := leaves_ok 10 63 _ lv63b _ _ _ h
  refine ⟨hh.1, ?_⟩
  obtain ⟨v0, cs0, rfl, l0, h0⟩ := LeafOk.next hh
  obtain ⟨v1, cs1, rfl, l1, h1⟩ := LeafOk.next h0
  obtain ⟨v2, cs2, rfl, l2, h2⟩ := LeafOk.next h1
  obtain ⟨v3, cs3, rfl, l3, h3⟩ := LeafOk.next h2
  obtain rfl := LeafOk.done h3
  obtain ⟨n0, rfl, w0⟩ := leaf_int (k := .i64) Try.underlying3 l0
  obtain ⟨n1, rfl, w1⟩ := leaf_int (k := .i64) Try.underlying3 l1
  obtain ⟨n2, rfl, w2⟩ := leaf_int (k := .u64) Try.underlying31 l2
  exact ⟨⟨n0, n1, n2, normV hs v3⟩, rfl, u64_wf w2⟩
end
end Go.Proofs.Ytcbifjbmbceipaa.Abs
