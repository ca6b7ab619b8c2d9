/- What is read of a route and of a next hop; the contract of the closed examples. -/
import Derived.Test.YthcohphflhkceaaBestLaw
namespace Go.Proofs.Ythcohphflhkceaa.Abs
open Go Go.RowKit
set_option linter.unusedVariables false
set_option maxRecDepth 100000
set_option maxHeartbeats 2000000

theorem livesRun : acall (cell0 Try.prog) ansB 60 9 [] st0 isTrue = true := by kernel_rfl
theorem extOk [Tok] (B0 : Nat) (old : Nat → Option (List Value)) : ExtOk (cx B0 old) := by
  intro f args v h0
  have h : extS f args = some v := h0
  clear h0
  unfold extS at h
  split at h
  · rename_i e
    have e := Nat.eq_of_beq_eq_true e
    subst e
    cases h
    refine ⟨rfl, fun φ N args' w ha => ?_⟩
    cases ha
    exact closedX 60 9 livesRun w
  · cases h
theorem lv40 : leaves Try.prog 10 40 = some [3, 22, 5, 5, 5, 5, 5, 5, 5, 5, 5, 5, 25, 26, 27, 4, 27, 3, 27, 25, 25, 3, 32, 27, 4, 25, 4, 25, 4, 27, 33, 34, 3, 25, 27, 27, 27, 4] := by kernel_rfl
theorem lv49 : leaves Try.prog 10 49 = some [27, 3] := by kernel_rfl
section
variable {H : Type} {enc : TypeId × Value → H} {w : World} {base : Nat} {spare : Nat → Bool} {held : Bool}
theorem u32 {n : Int} (h : (Lit.int .u32 n).wf = true) : 0 ≤ n ∧ n < 4294967296 := by
  simp [Lit.wf, IntKind.min, IntKind.max, IntKind.signed, IntKind.bits] at h; omega
theorem route_read {hs fuel : Nat} {cs : List Value} {x : DataW H × List MemPlace} (h : DataW.trod enc Try.prog w base spare held fuel 40 cs = some x) : cs.length = 38 ∧ ∃ r : Rt, cs.map (normV hs) = encR r ∧ r.WF := by
  have hh := leaves_ok 10 40 _ lv40 _ _ _ h
  clear h
  refine ⟨hh.1, ?_⟩
  obtain ⟨v0, cs0, rfl, l0, h0⟩ := LeafOk.next hh
  obtain ⟨v1, cs1, rfl, l1, h1⟩ := LeafOk.next h0
  obtain ⟨v2, cs2, rfl, l2, h2⟩ := LeafOk.next h1
  obtain ⟨v3, cs3, rfl, l3, h3⟩ := LeafOk.next h2
  obtain ⟨v4, cs4, rfl, l4, h4⟩ := LeafOk.next h3
  obtain ⟨v5, cs5, rfl, l5, h5⟩ := LeafOk.next h4
  obtain ⟨v6, cs6, rfl, l6, h6⟩ := LeafOk.next h5
  obtain ⟨v7, cs7, rfl, l7, h7⟩ := LeafOk.next h6
  obtain ⟨v8, cs8, rfl, l8, h8⟩ := LeafOk.next h7
  obtain ⟨v9, cs9, rfl, l9, h9⟩ := LeafOk.next h8
  obtain ⟨v10, cs10, rfl, l10, h10⟩ := LeafOk.next h9
  obtain ⟨v11, cs11, rfl, l11, h11⟩ := LeafOk.next h10
  obtain ⟨v12, cs12, rfl, l12, h12⟩ := LeafOk.next h11
  obtain ⟨v13, cs13, rfl, l13, h13⟩ := LeafOk.next h12
  obtain ⟨v14, cs14, rfl, l14, h14⟩ := LeafOk.next h13
  obtain ⟨v15, cs15, rfl, l15, h15⟩ := LeafOk.next h14
  obtain ⟨v16, cs16, rfl, l16, h16⟩ := LeafOk.next h15
  obtain ⟨v17, cs17, rfl, l17, h17⟩ := LeafOk.next h16
  obtain ⟨v18, cs18, rfl, l18, h18⟩ := LeafOk.next h17
  obtain ⟨v19, cs19, rfl, l19, h19⟩ := LeafOk.next h18
  obtain ⟨v20, cs20, rfl, l20, h20⟩ := LeafOk.next h19
  obtain ⟨v21, cs21, rfl, l21, h21⟩ := LeafOk.next h20
  obtain ⟨v22, cs22, rfl, l22, h22⟩ := LeafOk.next h21
  obtain ⟨v23, cs23, rfl, l23, h23⟩ := LeafOk.next h22
  obtain ⟨v24, cs24, rfl, l24, h24⟩ := LeafOk.next h23
  obtain ⟨v25, cs25, rfl, l25, h25⟩ := LeafOk.next h24
  obtain ⟨v26, cs26, rfl, l26, h26⟩ := LeafOk.next h25
  obtain ⟨v27, cs27, rfl, l27, h27⟩ := LeafOk.next h26
  obtain ⟨v28, cs28, rfl, l28, h28⟩ := LeafOk.next h27
  obtain ⟨v29, cs29, rfl, l29, h29⟩ := LeafOk.next h28
  obtain ⟨v30, cs30, rfl, l30, h30⟩ := LeafOk.next h29
  obtain ⟨v31, cs31, rfl, l31, h31⟩ := LeafOk.next h30
  obtain ⟨v32, cs32, rfl, l32, h32⟩ := LeafOk.next h31
  obtain ⟨v33, cs33, rfl, l33, h33⟩ := LeafOk.next h32
  obtain ⟨v34, cs34, rfl, l34, h34⟩ := LeafOk.next h33
  obtain ⟨v35, cs35, rfl, l35, h35⟩ := LeafOk.next h34
  obtain ⟨v36, cs36, rfl, l36, h36⟩ := LeafOk.next h35
  obtain ⟨v37, cs37, rfl, l37, h37⟩ := LeafOk.next h36
  obtain rfl := LeafOk.done h37
  obtain ⟨n0, rfl, w0⟩ := leaf_int (k := .i64) Try.underlying3 l0
  obtain ⟨n1, rfl, w1⟩ := leaf_int (k := .u64) Try.underlying22 l1
  obtain ⟨n2, rfl, w2⟩ := leaf_int (k := .u8) Try.underlying5 l2
  obtain ⟨n3, rfl, w3⟩ := leaf_int (k := .u8) Try.underlying5 l3
  obtain ⟨n4, rfl, w4⟩ := leaf_int (k := .u8) Try.underlying5 l4
  obtain ⟨n5, rfl, w5⟩ := leaf_int (k := .u8) Try.underlying5 l5
  obtain ⟨n6, rfl, w6⟩ := leaf_int (k := .u8) Try.underlying5 l6
  obtain ⟨n7, rfl, w7⟩ := leaf_int (k := .u8) Try.underlying5 l7
  obtain ⟨n8, rfl, w8⟩ := leaf_int (k := .u8) Try.underlying5 l8
  obtain ⟨n9, rfl, w9⟩ := leaf_int (k := .u8) Try.underlying5 l9
  obtain ⟨n10, rfl, w10⟩ := leaf_int (k := .u8) Try.underlying5 l10
  obtain ⟨n11, rfl, w11⟩ := leaf_int (k := .u8) Try.underlying5 l11
  obtain ⟨n12, rfl, w12⟩ := leaf_int (k := .u32) Try.underlying25 l12
  obtain ⟨n13, rfl, w13⟩ := leaf_int (k := .u64) Try.underlying26 l13
  obtain ⟨n14, rfl, w14⟩ := leaf_int (k := .u32) Try.underlying27 l14
  obtain ⟨n15, rfl⟩ := leaf_bool Try.underlying4 l15
  obtain ⟨n16, rfl, w16⟩ := leaf_int (k := .u32) Try.underlying27 l16
  obtain ⟨n17, rfl, w17⟩ := leaf_int (k := .i64) Try.underlying3 l17
  obtain ⟨n18, rfl, w18⟩ := leaf_int (k := .u32) Try.underlying27 l18
  obtain ⟨n19, rfl, w19⟩ := leaf_int (k := .u32) Try.underlying25 l19
  obtain ⟨n20, rfl, w20⟩ := leaf_int (k := .u32) Try.underlying25 l20
  obtain ⟨n21, rfl, w21⟩ := leaf_int (k := .i64) Try.underlying3 l21
  obtain ⟨a22, n22, c22, e22, _, _⟩ := leaf_slice hs Try.underlying32 l22
  obtain ⟨n23, rfl, w23⟩ := leaf_int (k := .u32) Try.underlying27 l23
  obtain ⟨n24, rfl⟩ := leaf_bool Try.underlying4 l24
  obtain ⟨n25, rfl, w25⟩ := leaf_int (k := .u32) Try.underlying25 l25
  obtain ⟨n26, rfl⟩ := leaf_bool Try.underlying4 l26
  obtain ⟨n27, rfl, w27⟩ := leaf_int (k := .u32) Try.underlying25 l27
  obtain ⟨n28, rfl⟩ := leaf_bool Try.underlying4 l28
  obtain ⟨n29, rfl, w29⟩ := leaf_int (k := .u32) Try.underlying27 l29
  obtain ⟨a30, n30, c30, e30, _, _⟩ := leaf_slice hs Try.underlying33 l30
  obtain ⟨a31, n31, c31, e31, _, _⟩ := leaf_slice hs Try.underlying34 l31
  obtain ⟨n32, rfl, w32⟩ := leaf_int (k := .i64) Try.underlying3 l32
  obtain ⟨n33, rfl, w33⟩ := leaf_int (k := .u32) Try.underlying25 l33
  obtain ⟨n34, rfl, w34⟩ := leaf_int (k := .u32) Try.underlying27 l34
  obtain ⟨n35, rfl, w35⟩ := leaf_int (k := .u32) Try.underlying27 l35
  obtain ⟨n36, rfl, w36⟩ := leaf_int (k := .u32) Try.underlying27 l36
  obtain ⟨n37, rfl⟩ := leaf_bool Try.underlying4 l37
  refine ⟨⟨⟨n0, n1, n2, n3, n4, n5, n6, n7, n8, n9, n10, n11, n12, n13, n14, n15, n16, n17, n18, n19, n20⟩, ⟨n21, ⟨a22, n22, c22⟩, n23, n24, n25, n26, n27, n28, n29, ⟨a30, n30, c30⟩, ⟨a31, n31, c31⟩, n32, n33, n34, n35⟩, n36, n37⟩, ?_, ⟨u32 w25, u32 w27, u32 w29, u32 w36⟩⟩
  simp only [List.map_cons, List.map_nil, e22, e30, e31]
  rfl
theorem hop_read {hs fuel : Nat} {cs : List Value} {x : DataW H × List MemPlace} (h : DataW.trod enc Try.prog w base spare held fuel 49 cs = some x) : cs.length = 2 ∧ ∃ p : Int × Int, cs.map (normV hs) = encH p ∧ True := by
  have hh := leaves_ok 10 49 _ lv49 _ _ _ h
  clear h
  refine ⟨hh.1, ?_⟩
  obtain ⟨v0, cs0, rfl, l0, h0⟩ := LeafOk.next hh
  obtain ⟨v1, cs1, rfl, l1, h1⟩ := LeafOk.next h0
  obtain rfl := LeafOk.done h1
  obtain ⟨n0, rfl, w0⟩ := leaf_int (k := .u32) Try.underlying27 l0
  obtain ⟨n1, rfl, w1⟩ := leaf_int (k := .i64) Try.underlying3 l1
  exact ⟨(n0, n1), rfl, trivial⟩
end
end Go.Proofs.Ythcohphflhkceaa.Abs
