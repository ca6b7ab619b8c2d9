/- What is read of acts. -/
import Derived.Test.YtcbifjbmbceipaaWrites0
namespace Go.Proofs.Ytcbifjbmbceipaa.Abs
open Go Go.RowKit
set_option linter.unusedVariables false
set_option maxRecDepth 100000
theorem lv63 : leaves Try.prog 10 63 = some [3, 3, 31, 22] := by kernel_rfl
theorem u64_wf {n : Int} (h : (Lit.int .u64 n).wf = true) : 0 ≤ n ∧ n < 18446744073709551616 := by
  simp [Lit.wf, IntKind.min, IntKind.max, IntKind.signed, IntKind.bits] at h; omega
section
variable {H : Type} {enc : TypeId × Value → H} {W : World} {spare : Nat → Bool} {held : Bool}
theorem act_read {fuel : Nat} {cs : List Value} {x : DataW H × List MemPlace} (h : DataW.trod enc Try.prog W 0 spare held fuel 63 cs = some x) : cs.length = 4 ∧ ∃ p : Ac, cs.map (normV W.heap.size) = encA p ∧ AcOk (cx (W.heap.size + 1) (oldW W)) [] p := by
  have hh := leaves_ok 10 63 _ lv63 _ _ _ h
  refine ⟨hh.1, ?_⟩
  obtain ⟨v0, cs0, rfl, l0, h0⟩ := LeafOk.next hh
  obtain ⟨v1, cs1, rfl, l1, h1⟩ := LeafOk.next h0
  obtain ⟨v2, cs2, rfl, l2, h2⟩ := LeafOk.next h1
  obtain ⟨v3, cs3, rfl, l3, h3⟩ := LeafOk.next h2
  obtain rfl := LeafOk.done h3
  obtain ⟨n0, rfl, w0⟩ := leaf_int (k := .i64) Try.underlying3 l0
  obtain ⟨n1, rfl, w1⟩ := leaf_int (k := .i64) Try.underlying3 l1
  obtain ⟨n2, rfl, w2⟩ := leaf_int (k := .u64) Try.underlying31 l2
  obtain ⟨a3, c3, L3, e3, g3, m3, ar3, _⟩ := arr_read (C := cx (W.heap.size + 1) (oldW W)) (k := 1) (en := encB) rfl (fun _ => rfl) Try.underlying22 (by kernel_rfl) (by decide) (fun cs m y h => byte_read h) l3
  refine ⟨⟨n0, n1, n2, a3, L3.length, c3⟩, ?_, (u64_wf w2).1, (u64_wf w2).2, by dsimp only; unfold maxLen at m3; omega, L3, rfl, ar3.toW⟩
  simp only [List.map_cons, List.map_nil, e3]
  rfl
end
end Go.Proofs.Ytcbifjbmbceipaa.Abs
