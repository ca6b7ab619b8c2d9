/- The contract of the chapter's closed examples; what is read of arguments. -/
import Derived.Test.YtoimfchhmocgeaaStr
import Derived.Test.YtoimfchhmocgeaaSep3
namespace Go.Proofs.Ytoimfchhmocgeaa.Abs
open Go Go.RowKit
set_option linter.unusedVariables false
set_option maxRecDepth 100000
set_option maxHeartbeats 2000000
theorem livesRun : acall (cell0 Try.prog) ansB 60 13 [] st0 isTrue = true := by kernel_rfl
theorem knownRun : acall (cell0 Try.prog) ansB 60 4 [] st0 isTrue = true := by kernel_rfl
theorem extOk [Tok] (B0 : Nat) (old : Nat → Option (List Value)) : ExtOk (cx B0 old) := by
  intro f args v h0
  have h : extS f args = some v := h0
  clear h0
  unfold extS at h
  split at h
  · rename_i e
    cases h
    rcases (Bool.or_eq_true _ _).mp e with e | e <;> (have e := Nat.eq_of_beq_eq_true e; subst e)
    · refine ⟨rfl, fun φ N args' w ha => ?_⟩
      cases ha
      exact closedX 60 13 livesRun w
    · refine ⟨rfl, fun φ N args' w ha => ?_⟩
      cases ha
      exact closedX 60 4 knownRun w
  · cases h
theorem wf_i64 {n : Int} (h : (Lit.int .i64 n).wf = true) : -9223372036854775808 ≤ n ∧ n ≤ 9223372036854775807 := by
  simp [Lit.wf, IntKind.min, IntKind.max, IntKind.signed, IntKind.bits] at h; omega
theorem wf_u64 {n : Int} (h : (Lit.int .u64 n).wf = true) : 0 ≤ n ∧ n ≤ 18446744073709551615 := by
  simp [Lit.wf, IntKind.min, IntKind.max, IntKind.signed, IntKind.bits] at h; omega
theorem wf_u32 {n : Int} (h : (Lit.int .u32 n).wf = true) : 0 ≤ n ∧ n ≤ 4294967295 := by
  simp [Lit.wf, IntKind.min, IntKind.max, IntKind.signed, IntKind.bits] at h; omega
theorem wf_u16 {n : Int} (h : (Lit.int .u16 n).wf = true) : 0 ≤ n ∧ n ≤ 65535 := by
  simp [Lit.wf, IntKind.min, IntKind.max, IntKind.signed, IntKind.bits] at h; omega
theorem wf_u8 {n : Int} (h : (Lit.int .u8 n).wf = true) : 0 ≤ n ∧ n ≤ 255 := by
  simp [Lit.wf, IntKind.min, IntKind.max, IntKind.signed, IntKind.bits] at h; omega
theorem wf_i32 {n : Int} (h : (Lit.int .i32 n).wf = true) : -2147483648 ≤ n ∧ n ≤ 2147483647 := by
  simp [Lit.wf, IntKind.min, IntKind.max, IntKind.signed, IntKind.bits] at h; omega
section
variable {H : Type} {enc : TypeId × Value → H} {W : World} {base : Nat} {spare : Nat → Bool} {held : Bool}
theorem lv27 : leaves Try.prog 10 27 = some [3, 25, 22, 23, 4] := by kernel_rfl
theorem read27 {hs fuel : Nat} {cs : List Value} {x : DataW H × List MemPlace} (h : DataW.trod enc Try.prog W base spare held fuel 27 cs = some x) : cs.length = 5 ∧ ∃ p : S27, cs.map (normV hs) = en27 p ∧ p.wf := by
  have hh := leaves_ok 10 27 _ lv27 _ _ _ h
  clear h
  refine ⟨hh.1, ?_⟩
  obtain ⟨v0, cs0, rfl, l0, h0⟩ := LeafOk.next hh
  obtain ⟨v1, cs1, rfl, l1, h1⟩ := LeafOk.next h0
  obtain ⟨v2, cs2, rfl, l2, h2⟩ := LeafOk.next h1
  obtain ⟨v3, cs3, rfl, l3, h3⟩ := LeafOk.next h2
  obtain ⟨v4, cs4, rfl, l4, h4⟩ := LeafOk.next h3
  obtain rfl := LeafOk.done h4
  obtain ⟨n0, rfl, w0⟩ := leaf_int (k := .i64) Try.underlying3 l0
  obtain ⟨n1, rfl, w1⟩ := leaf_int (k := .u64) Try.underlying25 l1
  obtain ⟨n2, rfl, w2⟩ := leaf_int (k := .u32) Try.underlying22 l2
  obtain ⟨n3, rfl, w3⟩ := leaf_int (k := .u32) Try.underlying23 l3
  obtain ⟨n4, rfl⟩ := leaf_bool Try.underlying4 l4
  refine ⟨⟨n0, n1, n2, n3, n4⟩, ?_, ⟨wf_i64 w0, wf_u64 w1, wf_u32 w2, wf_u32 w3⟩⟩
  simp only [List.map_cons, List.map_nil]
  rfl
theorem lv52 : leaves Try.prog 10 52 = some [3, 3, 23, 44, 38, 3, 25] := by kernel_rfl
theorem read52 {hs fuel : Nat} {cs : List Value} {x : DataW H × List MemPlace} (h : DataW.trod enc Try.prog W base spare held fuel 52 cs = some x) : cs.length = 7 ∧ ∃ p : S52, cs.map (normV hs) = en52 p ∧ p.wf := by
  have hh := leaves_ok 10 52 _ lv52 _ _ _ h
  clear h
  refine ⟨hh.1, ?_⟩
  obtain ⟨v0, cs0, rfl, l0, h0⟩ := LeafOk.next hh
  obtain ⟨v1, cs1, rfl, l1, h1⟩ := LeafOk.next h0
  obtain ⟨v2, cs2, rfl, l2, h2⟩ := LeafOk.next h1
  obtain ⟨v3, cs3, rfl, l3, h3⟩ := LeafOk.next h2
  obtain ⟨v4, cs4, rfl, l4, h4⟩ := LeafOk.next h3
  obtain ⟨v5, cs5, rfl, l5, h5⟩ := LeafOk.next h4
  obtain ⟨v6, cs6, rfl, l6, h6⟩ := LeafOk.next h5
  obtain rfl := LeafOk.done h6
  obtain ⟨n0, rfl, w0⟩ := leaf_int (k := .i64) Try.underlying3 l0
  obtain ⟨n1, rfl, w1⟩ := leaf_int (k := .i64) Try.underlying3 l1
  obtain ⟨n2, rfl, w2⟩ := leaf_int (k := .u32) Try.underlying23 l2
  obtain ⟨p3, m3, q3, e3, _, _⟩ := leaf_slice hs Try.underlying44 l3
  obtain ⟨p4, m4, q4, e4, _, _⟩ := leaf_slice hs Try.underlying38 l4
  obtain ⟨n5, rfl, w5⟩ := leaf_int (k := .i64) Try.underlying3 l5
  obtain ⟨n6, rfl, w6⟩ := leaf_int (k := .u64) Try.underlying25 l6
  refine ⟨⟨n0, n1, n2, (p3, m3, q3), (p4, m4, q4), n5, n6⟩, ?_, ⟨wf_i64 w0, wf_i64 w1, wf_u32 w2, wf_i64 w5, wf_u64 w6⟩⟩
  simp only [List.map_cons, List.map_nil, e3, e4]
  rfl
end
end Go.Proofs.Ytoimfchhmocgeaa.Abs
