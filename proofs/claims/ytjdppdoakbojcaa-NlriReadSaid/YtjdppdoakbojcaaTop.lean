/- The contract of the chapter's closed examples; what is read of arguments. -/
import Derived.Test.YtjdppdoakbojcaaStr
import Derived.Test.YtjdppdoakbojcaaSep3
import Derived.Test.YtjdppdoakbojcaaLives
namespace Go.Proofs.Ytjdppdoakbojcaa.Abs
open Go Go.RowKit
set_option linter.unusedVariables false
set_option maxRecDepth 100000
set_option maxHeartbeats 2000000
theorem wf_i64 {n : Int} (h : (Lit.int .i64 n).wf = true) : -9223372036854775808 ≤ n ∧ n ≤ 9223372036854775807 := by
  simp [Lit.wf, IntKind.min, IntKind.max, IntKind.signed, IntKind.bits] at h; omega
theorem wf_u64 {n : Int} (h : (Lit.int .u64 n).wf = true) : 0 ≤ n ∧ n ≤ 18446744073709551615 := by
  simp [Lit.wf, IntKind.min, IntKind.max, IntKind.signed, IntKind.bits] at h; omega
theorem wf_u32 {n : Int} (h : (Lit.int .u32 n).wf = true) : 0 ≤ n ∧ n ≤ 4294967295 := by
  simp [Lit.wf, IntKind.min, IntKind.max, IntKind.signed, IntKind.bits] at h; omega
theorem wf_u16 {n : Int} (h : (Lit.int .u16 n).wf = true) : 0 ≤ n ∧ n ≤ 65535 := by
  simp [Lit.wf, IntKind.min, IntKind.max, IntKind.signed, IntKind.bits] at h; omega
theorem wf_u8 {n : Int} (h : (Lit.int .u8 n).wf = true) : 0 ≤ n ∧ n ≤ 255 := by
  simp [Lit.wf, IntKind.min, IntKind.max, IntKind.signed, IntKind.bits] at h; omega
theorem wf_i32 {n : Int} (h : (Lit.int .i32 n).wf = true) : -2147483648 ≤ n ∧ n ≤ 2147483647 := by
  simp [Lit.wf, IntKind.min, IntKind.max, IntKind.signed, IntKind.bits] at h; omega
section
variable {H : Type} {enc : TypeId × Value → H} {W : World} {base : Nat} {spare : Nat → Bool} {held : Bool}
theorem lv31 : leaves Try.prog 10 31 = some [25, 25, 3, 3, 25, 23, 25, 23, 23, 23, 3, 3, 3, 3, 24] := by kernel_rfl
theorem read31 {hs fuel : Nat} {cs : List Value} {x : DataW H × List MemPlace} (h : DataW.trod enc Try.prog W base spare held fuel 31 cs = some x) : cs.length = 15 ∧ ∃ p : S31, cs.map (normV hs) = en31 p ∧ p.wf := by
  have hh := leaves_ok 10 31 _ lv31 _ _ _ h
  clear h
  refine ⟨hh.1, ?_⟩
  obtain ⟨v0, cs0, rfl, l0, h0⟩ := LeafOk.next hh
  obtain ⟨v1, cs1, rfl, l1, h1⟩ := LeafOk.next h0
  obtain ⟨v2, cs2, rfl, l2, h2⟩ := LeafOk.next h1
  obtain ⟨v3, cs3, rfl, l3, h3⟩ := LeafOk.next h2
  obtain ⟨v4, cs4, rfl, l4, h4⟩ := LeafOk.next h3
  obtain ⟨v5, cs5, rfl, l5, h5⟩ := LeafOk.next h4
  obtain ⟨v6, cs6, rfl, l6, h6⟩ := LeafOk.next h5
  obtain ⟨v7, cs7, rfl, l7, h7⟩ := LeafOk.next h6
  obtain ⟨v8, cs8, rfl, l8, h8⟩ := LeafOk.next h7
  obtain ⟨v9, cs9, rfl, l9, h9⟩ := LeafOk.next h8
  obtain ⟨v10, cs10, rfl, l10, h10⟩ := LeafOk.next h9
  obtain ⟨v11, cs11, rfl, l11, h11⟩ := LeafOk.next h10
  obtain ⟨v12, cs12, rfl, l12, h12⟩ := LeafOk.next h11
  obtain ⟨v13, cs13, rfl, l13, h13⟩ := LeafOk.next h12
  obtain ⟨v14, cs14, rfl, l14, h14⟩ := LeafOk.next h13
  obtain rfl := LeafOk.done h14
  obtain ⟨n0, rfl, w0⟩ := leaf_int (k := .u64) Try.underlying25 l0
  obtain ⟨n1, rfl, w1⟩ := leaf_int (k := .u64) Try.underlying25 l1
  obtain ⟨n2, rfl, w2⟩ := leaf_int (k := .i64) Try.underlying3 l2
  obtain ⟨n3, rfl, w3⟩ := leaf_int (k := .i64) Try.underlying3 l3
  obtain ⟨n4, rfl, w4⟩ := leaf_int (k := .u64) Try.underlying25 l4
  obtain ⟨n5, rfl, w5⟩ := leaf_int (k := .u32) Try.underlying23 l5
  obtain ⟨n6, rfl, w6⟩ := leaf_int (k := .u64) Try.underlying25 l6
  obtain ⟨n7, rfl, w7⟩ := leaf_int (k := .u32) Try.underlying23 l7
  obtain ⟨n8, rfl, w8⟩ := leaf_int (k := .u32) Try.underlying23 l8
  obtain ⟨n9, rfl, w9⟩ := leaf_int (k := .u32) Try.underlying23 l9
  obtain ⟨n10, rfl, w10⟩ := leaf_int (k := .i64) Try.underlying3 l10
  obtain ⟨n11, rfl, w11⟩ := leaf_int (k := .i64) Try.underlying3 l11
  obtain ⟨n12, rfl, w12⟩ := leaf_int (k := .i64) Try.underlying3 l12
  obtain ⟨n13, rfl, w13⟩ := leaf_int (k := .i64) Try.underlying3 l13
  obtain ⟨n14, rfl, w14⟩ := leaf_int (k := .u64) Try.underlying24 l14
  refine ⟨⟨n0, n1, n2, n3, n4, n5, n6, n7, n8, n9, n10, n11, n12, n13, n14⟩, ?_, ⟨wf_u64 w0, wf_u64 w1, wf_i64 w2, wf_i64 w3, wf_u64 w4, wf_u32 w5, wf_u64 w6, wf_u32 w7, wf_u32 w8, wf_u32 w9, wf_i64 w10, wf_i64 w11, wf_i64 w12, wf_i64 w13, wf_u64 w14⟩⟩
  simp only [List.map_cons, List.map_nil]
  rfl
theorem lv33 : leaves Try.prog 10 33 = some [23, 23, 3, 3, 22, 22, 25, 25, 3, 3, 25, 23, 25, 23, 23, 23, 3, 3, 3, 3, 24] := by kernel_rfl
theorem read33 {hs fuel : Nat} {cs : List Value} {x : DataW H × List MemPlace} (h : DataW.trod enc Try.prog W base spare held fuel 33 cs = some x) : cs.length = 21 ∧ ∃ p : S33, cs.map (normV hs) = en33 p ∧ p.wf := by
  have hh := leaves_ok 10 33 _ lv33 _ _ _ h
  clear h
  refine ⟨hh.1, ?_⟩
  obtain ⟨v0, cs0, rfl, l0, h0⟩ := LeafOk.next hh
  obtain ⟨v1, cs1, rfl, l1, h1⟩ := LeafOk.next h0
  obtain ⟨v2, cs2, rfl, l2, h2⟩ := LeafOk.next h1
  obtain ⟨v3, cs3, rfl, l3, h3⟩ := LeafOk.next h2
  obtain ⟨v4, cs4, rfl, l4, h4⟩ := LeafOk.next h3
  obtain ⟨v5, cs5, rfl, l5, h5⟩ := LeafOk.next h4
  obtain ⟨v6, cs6, rfl, l6, h6⟩ := LeafOk.next h5
  obtain ⟨v7, cs7, rfl, l7, h7⟩ := LeafOk.next h6
  obtain ⟨v8, cs8, rfl, l8, h8⟩ := LeafOk.next h7
  obtain ⟨v9, cs9, rfl, l9, h9⟩ := LeafOk.next h8
  obtain ⟨v10, cs10, rfl, l10, h10⟩ := LeafOk.next h9
  obtain ⟨v11, cs11, rfl, l11, h11⟩ := LeafOk.next h10
  obtain ⟨v12, cs12, rfl, l12, h12⟩ := LeafOk.next h11
  obtain ⟨v13, cs13, rfl, l13, h13⟩ := LeafOk.next h12
  obtain ⟨v14, cs14, rfl, l14, h14⟩ := LeafOk.next h13
  obtain ⟨v15, cs15, rfl, l15, h15⟩ := LeafOk.next h14
  obtain ⟨v16, cs16, rfl, l16, h16⟩ := LeafOk.next h15
  obtain ⟨v17, cs17, rfl, l17, h17⟩ := LeafOk.next h16
  obtain ⟨v18, cs18, rfl, l18, h18⟩ := LeafOk.next h17
  obtain ⟨v19, cs19, rfl, l19, h19⟩ := LeafOk.next h18
  obtain ⟨v20, cs20, rfl, l20, h20⟩ := LeafOk.next h19
  obtain rfl := LeafOk.done h20
  obtain ⟨n0, rfl, w0⟩ := leaf_int (k := .u32) Try.underlying23 l0
  obtain ⟨n1, rfl, w1⟩ := leaf_int (k := .u32) Try.underlying23 l1
  obtain ⟨n2, rfl, w2⟩ := leaf_int (k := .i64) Try.underlying3 l2
  obtain ⟨n3, rfl, w3⟩ := leaf_int (k := .i64) Try.underlying3 l3
  obtain ⟨n4, rfl, w4⟩ := leaf_int (k := .u32) Try.underlying22 l4
  obtain ⟨n5, rfl, w5⟩ := leaf_int (k := .u32) Try.underlying22 l5
  obtain ⟨n6, rfl, w6⟩ := leaf_int (k := .u64) Try.underlying25 l6
  obtain ⟨n7, rfl, w7⟩ := leaf_int (k := .u64) Try.underlying25 l7
  obtain ⟨n8, rfl, w8⟩ := leaf_int (k := .i64) Try.underlying3 l8
  obtain ⟨n9, rfl, w9⟩ := leaf_int (k := .i64) Try.underlying3 l9
  obtain ⟨n10, rfl, w10⟩ := leaf_int (k := .u64) Try.underlying25 l10
  obtain ⟨n11, rfl, w11⟩ := leaf_int (k := .u32) Try.underlying23 l11
  obtain ⟨n12, rfl, w12⟩ := leaf_int (k := .u64) Try.underlying25 l12
  obtain ⟨n13, rfl, w13⟩ := leaf_int (k := .u32) Try.underlying23 l13
  obtain ⟨n14, rfl, w14⟩ := leaf_int (k := .u32) Try.underlying23 l14
  obtain ⟨n15, rfl, w15⟩ := leaf_int (k := .u32) Try.underlying23 l15
  obtain ⟨n16, rfl, w16⟩ := leaf_int (k := .i64) Try.underlying3 l16
  obtain ⟨n17, rfl, w17⟩ := leaf_int (k := .i64) Try.underlying3 l17
  obtain ⟨n18, rfl, w18⟩ := leaf_int (k := .i64) Try.underlying3 l18
  obtain ⟨n19, rfl, w19⟩ := leaf_int (k := .i64) Try.underlying3 l19
  obtain ⟨n20, rfl, w20⟩ := leaf_int (k := .u64) Try.underlying24 l20
  refine ⟨⟨n0, n1, n2, n3, n4, n5, n6, n7, n8, n9, n10, n11, n12, n13, n14, n15, n16, n17, n18, n19, n20⟩, ?_, ⟨wf_u32 w0, wf_u32 w1, wf_i64 w2, wf_i64 w3, wf_u32 w4, wf_u32 w5, wf_u64 w6, wf_u64 w7, wf_i64 w8, wf_i64 w9, wf_u64 w10, wf_u32 w11, wf_u64 w12, wf_u32 w13, wf_u32 w14, wf_u32 w15, wf_i64 w16, wf_i64 w17, wf_i64 w18, wf_i64 w19, wf_u64 w20⟩⟩
  simp only [List.map_cons, List.map_nil]
  rfl
theorem lv60 : leaves Try.prog 10 60 = some [3, 24, 5, 5, 5, 5, 5, 5, 5, 5, 5, 5, 22, 25, 23, 4, 23, 3, 23, 22, 22] := by kernel_rfl
theorem read60 {hs fuel : Nat} {cs : List Value} {x : DataW H × List MemPlace} (h : DataW.trod enc Try.prog W base spare held fuel 60 cs = some x) : cs.length = 21 ∧ ∃ p : S60, cs.map (normV hs) = en60 p ∧ p.wf := by
  have hh := leaves_ok 10 60 _ lv60 _ _ _ h
  clear h
  refine ⟨hh.1, ?_⟩
  obtain ⟨v0, cs0, rfl, l0, h0⟩ := LeafOk.next hh
  obtain ⟨v1, cs1, rfl, l1, h1⟩ := LeafOk.next h0
  obtain ⟨v2, cs2, rfl, l2, h2⟩ := LeafOk.next h1
  obtain ⟨v3, cs3, rfl, l3, h3⟩ := LeafOk.next h2
  obtain ⟨v4, cs4, rfl, l4, h4⟩ := LeafOk.next h3
  obtain ⟨v5, cs5, rfl, l5, h5⟩ := LeafOk.next h4
  obtain ⟨v6, cs6, rfl, l6, h6⟩ := LeafOk.next h5
  obtain ⟨v7, cs7, rfl, l7, h7⟩ := LeafOk.next h6
  obtain ⟨v8, cs8, rfl, l8, h8⟩ := LeafOk.next h7
  obtain ⟨v9, cs9, rfl, l9, h9⟩ := LeafOk.next h8
  obtain ⟨v10, cs10, rfl, l10, h10⟩ := LeafOk.next h9
  obtain ⟨v11, cs11, rfl, l11, h11⟩ := LeafOk.next h10
  obtain ⟨v12, cs12, rfl, l12, h12⟩ := LeafOk.next h11
  obtain ⟨v13, cs13, rfl, l13, h13⟩ := LeafOk.next h12
  obtain ⟨v14, cs14, rfl, l14, h14⟩ := LeafOk.next h13
  obtain ⟨v15, cs15, rfl, l15, h15⟩ := LeafOk.next h14
  obtain ⟨v16, cs16, rfl, l16, h16⟩ := LeafOk.next h15
  obtain ⟨v17, cs17, rfl, l17, h17⟩ := LeafOk.next h16
  obtain ⟨v18, cs18, rfl, l18, h18⟩ := LeafOk.next h17
  obtain ⟨v19, cs19, rfl, l19, h19⟩ := LeafOk.next h18
  obtain ⟨v20, cs20, rfl, l20, h20⟩ := LeafOk.next h19
  obtain rfl := LeafOk.done h20
  obtain ⟨n0, rfl, w0⟩ := leaf_int (k := .i64) Try.underlying3 l0
  obtain ⟨n1, rfl, w1⟩ := leaf_int (k := .u64) Try.underlying24 l1
  obtain ⟨n2, rfl, w2⟩ := leaf_int (k := .u8) Try.underlying5 l2
  obtain ⟨n3, rfl, w3⟩ := leaf_int (k := .u8) Try.underlying5 l3
  obtain ⟨n4, rfl, w4⟩ := leaf_int (k := .u8) Try.underlying5 l4
  obtain ⟨n5, rfl, w5⟩ := leaf_int (k := .u8) Try.underlying5 l5
  obtain ⟨n6, rfl, w6⟩ := leaf_int (k := .u8) Try.underlying5 l6
  obtain ⟨n7, rfl, w7⟩ := leaf_int (k := .u8) Try.underlying5 l7
  obtain ⟨n8, rfl, w8⟩ := leaf_int (k := .u8) Try.underlying5 l8
  obtain ⟨n9, rfl, w9⟩ := leaf_int (k := .u8) Try.underlying5 l9
  obtain ⟨n10, rfl, w10⟩ := leaf_int (k := .u8) Try.underlying5 l10
  obtain ⟨n11, rfl, w11⟩ := leaf_int (k := .u8) Try.underlying5 l11
  obtain ⟨n12, rfl, w12⟩ := leaf_int (k := .u32) Try.underlying22 l12
  obtain ⟨n13, rfl, w13⟩ := leaf_int (k := .u64) Try.underlying25 l13
  obtain ⟨n14, rfl, w14⟩ := leaf_int (k := .u32) Try.underlying23 l14
  obtain ⟨n15, rfl⟩ := leaf_bool Try.underlying4 l15
  obtain ⟨n16, rfl, w16⟩ := leaf_int (k := .u32) Try.underlying23 l16
  obtain ⟨n17, rfl, w17⟩ := leaf_int (k := .i64) Try.underlying3 l17
  obtain ⟨n18, rfl, w18⟩ := leaf_int (k := .u32) Try.underlying23 l18
  obtain ⟨n19, rfl, w19⟩ := leaf_int (k := .u32) Try.underlying22 l19
  obtain ⟨n20, rfl, w20⟩ := leaf_int (k := .u32) Try.underlying22 l20
  refine ⟨⟨n0, n1, n2, n3, n4, n5, n6, n7, n8, n9, n10, n11, n12, n13, n14, n15, n16, n17, n18, n19, n20⟩, ?_, ⟨wf_i64 w0, wf_u64 w1, wf_u8 w2, wf_u8 w3, wf_u8 w4, wf_u8 w5, wf_u8 w6, wf_u8 w7, wf_u8 w8, wf_u8 w9, wf_u8 w10, wf_u8 w11, wf_u32 w12, wf_u64 w13, wf_u32 w14, wf_u32 w16, wf_i64 w17, wf_u32 w18, wf_u32 w19, wf_u32 w20⟩⟩
  simp only [List.map_cons, List.map_nil]
  rfl
end
end Go.Proofs.Ytjdppdoakbojcaa.Abs
