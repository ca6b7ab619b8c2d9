/- What is read of the arguments; the contract of the closed examples (printed by gentz.py). -/
import Derived.Test.YthcohphflhkceaaYd
import Derived.Test.YthcohphflhkceaaSep3
import Derived.Test.YthcohphflhkceaaSep6
import Derived.Test.YthcohphflhkceaaYe
namespace Go.Proofs.Ythcohphflhkceaa.Abs
open Go Go.RowKit
set_option linter.unusedVariables false
set_option maxRecDepth 100000
set_option maxHeartbeats 2000000
theorem livesRun : acall (cell0 Try.prog) ansB 60 9 [] st0 isTrue = true := by kernel_rfl
theorem extOk [Tok] (B0 : Nat) (old : Nat → Option (List Value)) : ExtOk (cx B0 old) := by
  intro f args v h0
  have h : extS f args = some v := h0
  clear h0
  unfold extS at h
  split at h
  · rename_i e
    have e := Nat.eq_of_beq_eq_true e
    subst e
    cases h
    refine ⟨rfl, fun φ N args' w ha => ?_⟩
    cases ha
    exact closedX 60 9 livesRun w
  · cases h
theorem wfz_i64 {n : Int} (h : (Lit.int .i64 n).wf = true) : -9223372036854775808 ≤ n ∧ n ≤ 9223372036854775807 := by
  simp [Lit.wf, IntKind.min, IntKind.max, IntKind.signed, IntKind.bits] at h; omega
theorem wfy_i64 {n : Int} (h : (Lit.int .i64 n).wf = true) : -9223372036854775808 ≤ n ∧ n < 9223372036854775808 := by
  have := wfz_i64 h; omega
theorem wfz_u64 {n : Int} (h : (Lit.int .u64 n).wf = true) : 0 ≤ n ∧ n ≤ 18446744073709551615 := by
  simp [Lit.wf, IntKind.min, IntKind.max, IntKind.signed, IntKind.bits] at h; omega
theorem wfz_u32 {n : Int} (h : (Lit.int .u32 n).wf = true) : 0 ≤ n ∧ n ≤ 4294967295 := by
  simp [Lit.wf, IntKind.min, IntKind.max, IntKind.signed, IntKind.bits] at h; omega
theorem wfy_u32 {n : Int} (h : (Lit.int .u32 n).wf = true) : 0 ≤ n ∧ n < 4294967296 := by
  have := wfz_u32 h; omega
theorem wfz_u8 {n : Int} (h : (Lit.int .u8 n).wf = true) : 0 ≤ n ∧ n ≤ 255 := by
  simp [Lit.wf, IntKind.min, IntKind.max, IntKind.signed, IntKind.bits] at h; omega
theorem lv25 : leaves Try.prog 10 25 = some [25] := by kernel_rfl
theorem lv27 : leaves Try.prog 10 27 = some [27] := by kernel_rfl
theorem lv94 : leaves Try.prog 10 94 = some [5, 5, 5, 5, 5, 5, 5, 5] := by kernel_rfl
theorem lv40 : leaves Try.prog 10 40 = some [3, 22, 5, 5, 5, 5, 5, 5, 5, 5, 5, 5, 25, 26, 27, 4, 27, 3, 27, 25, 25, 3, 32, 27, 4, 25, 4, 25, 4, 27, 33, 34, 3, 25, 27, 27, 27, 4] := by kernel_rfl
theorem lv49 : leaves Try.prog 10 49 = some [27, 3] := by kernel_rfl
section
variable {H : Type} {enc : TypeId × Value → H} {W : World} {base : Nat} {spare : Nat → Bool} {held : Bool}
theorem u32_read {hs fuel : Nat} {cs : List Value} {x : DataW H × List MemPlace} (h : DataW.trod enc Try.prog W base spare held fuel 25 cs = some x) : cs.length = 1 ∧ ∃ p : Int, cs.map (normV hs) = enU p ∧ True := by
  have hh := leaves_ok 10 25 _ lv25 _ _ _ h
  refine ⟨hh.1, ?_⟩
  obtain ⟨v0, cs0, rfl, l0, h0⟩ := LeafOk.next hh
  obtain rfl := LeafOk.done h0
  obtain ⟨n0, rfl, w0⟩ := leaf_int (k := .u32) Try.underlying25 l0
  exact ⟨n0, rfl, trivial⟩
theorem ip_read {hs fuel : Nat} {cs : List Value} {x : DataW H × List MemPlace} (h : DataW.trod enc Try.prog W base spare held fuel 27 cs = some x) : cs.length = 1 ∧ ∃ p : Int, cs.map (normV hs) = enU p ∧ True := by
  have hh := leaves_ok 10 27 _ lv27 _ _ _ h
  refine ⟨hh.1, ?_⟩
  obtain ⟨v0, cs0, rfl, l0, h0⟩ := LeafOk.next hh
  obtain rfl := LeafOk.done h0
  obtain ⟨n0, rfl, w0⟩ := leaf_int (k := .u32) Try.underlying27 l0
  exact ⟨n0, rfl, trivial⟩
theorem comm_read {hs fuel : Nat} {cs : List Value} {x : DataW H × List MemPlace} (h : DataW.trod enc Try.prog W base spare held fuel 94 cs = some x) : cs.length = 8 ∧ ∃ p : C8, cs.map (normV hs) = enC p ∧ True := by
  have hh := leaves_ok 10 94 _ lv94 _ _ _ h
  refine ⟨hh.1, ?_⟩
  obtain ⟨v0, cs0, rfl, l0, h0⟩ := LeafOk.next hh
  obtain ⟨v1, cs1, rfl, l1, h1⟩ := LeafOk.next h0
  obtain ⟨v2, cs2, rfl, l2, h2⟩ := LeafOk.next h1
  obtain ⟨v3, cs3, rfl, l3, h3⟩ := LeafOk.next h2
  obtain ⟨v4, cs4, rfl, l4, h4⟩ := LeafOk.next h3
  obtain ⟨v5, cs5, rfl, l5, h5⟩ := LeafOk.next h4
  obtain ⟨v6, cs6, rfl, l6, h6⟩ := LeafOk.next h5
  obtain ⟨v7, cs7, rfl, l7, h7⟩ := LeafOk.next h6
  obtain rfl := LeafOk.done h7
  obtain ⟨n0, rfl, w0⟩ := leaf_int (k := .u8) Try.underlying5 l0
  obtain ⟨n1, rfl, w1⟩ := leaf_int (k := .u8) Try.underlying5 l1
  obtain ⟨n2, rfl, w2⟩ := leaf_int (k := .u8) Try.underlying5 l2
  obtain ⟨n3, rfl, w3⟩ := leaf_int (k := .u8) Try.underlying5 l3
  obtain ⟨n4, rfl, w4⟩ := leaf_int (k := .u8) Try.underlying5 l4
  obtain ⟨n5, rfl, w5⟩ := leaf_int (k := .u8) Try.underlying5 l5
  obtain ⟨n6, rfl, w6⟩ := leaf_int (k := .u8) Try.underlying5 l6
  obtain ⟨n7, rfl, w7⟩ := leaf_int (k := .u8) Try.underlying5 l7
  exact ⟨⟨n0, n1, n2, n3, n4, n5, n6, n7⟩, rfl, trivial⟩
theorem hop_read {hs fuel : Nat} {cs : List Value} {x : DataW H × List MemPlace} (h : DataW.trod enc Try.prog W base spare held fuel 49 cs = some x) : cs.length = 2 ∧ ∃ p : Int × Int, cs.map (normV hs) = encH p ∧ True := by
  have hh := leaves_ok 10 49 _ lv49 _ _ _ h
  refine ⟨hh.1, ?_⟩
  obtain ⟨v0, cs0, rfl, l0, h0⟩ := LeafOk.next hh
  obtain ⟨v1, cs1, rfl, l1, h1⟩ := LeafOk.next h0
  obtain rfl := LeafOk.done h1
  obtain ⟨n0, rfl, w0⟩ := leaf_int (k := .u32) Try.underlying27 l0
  obtain ⟨n1, rfl, w1⟩ := leaf_int (k := .i64) Try.underlying3 l1
  exact ⟨(n0, n1), rfl, trivial⟩
theorem route_readW {fuel : Nat} {cs : List Value} {x : DataW H × List MemPlace} (h : DataW.trod enc Try.prog W 0 spare held fuel 40 cs = some x) : cs.length = 38 ∧ ∃ r : Rw, cs.map (normV W.heap.size) = enW r ∧ (r.r.WF ∧ Rd (cx (W.heap.size + 1) (oldW W)) [] r) := by
  have hh := leaves_ok 10 40 _ lv40 _ _ _ h
  clear h
  refine ⟨hh.1, ?_⟩
  obtain ⟨v0, cs0, rfl, l0, h0⟩ := LeafOk.next hh
  obtain ⟨v1, cs1, rfl, l1, h1⟩ := LeafOk.next h0
  obtain ⟨v2, cs2, rfl, l2, h2⟩ := LeafOk.next h1
  obtain ⟨v3, cs3, rfl, l3, h3⟩ := LeafOk.next h2
  obtain ⟨v4, cs4, rfl, l4, h4⟩ := LeafOk.next h3
  obtain ⟨v5, cs5, rfl, l5, h5⟩ := LeafOk.next h4
  obtain ⟨v6, cs6, rfl, l6, h6⟩ := LeafOk.next h5
  obtain ⟨v7, cs7, rfl, l7, h7⟩ := LeafOk.next h6
  obtain ⟨v8, cs8, rfl, l8, h8⟩ := LeafOk.next h7
  obtain ⟨v9, cs9, rfl, l9, h9⟩ := LeafOk.next h8
  obtain ⟨v10, cs10, rfl, l10, h10⟩ := LeafOk.next h9
  obtain ⟨v11, cs11, rfl, l11, h11⟩ := LeafOk.next h10
  obtain ⟨v12, cs12, rfl, l12, h12⟩ := LeafOk.next h11
  obtain ⟨v13, cs13, rfl, l13, h13⟩ := LeafOk.next h12
  obtain ⟨v14, cs14, rfl, l14, h14⟩ := LeafOk.next h13
  obtain ⟨v15, cs15, rfl, l15, h15⟩ := LeafOk.next h14
  obtain ⟨v16, cs16, rfl, l16, h16⟩ := LeafOk.next h15
  obtain ⟨v17, cs17, rfl, l17, h17⟩ := LeafOk.next h16
  obtain ⟨v18, cs18, rfl, l18, h18⟩ := LeafOk.next h17
  obtain ⟨v19, cs19, rfl, l19, h19⟩ := LeafOk.next h18
  obtain ⟨v20, cs20, rfl, l20, h20⟩ := LeafOk.next h19
  obtain ⟨v21, cs21, rfl, l21, h21⟩ := LeafOk.next h20
  obtain ⟨v22, cs22, rfl, l22, h22⟩ := LeafOk.next h21
  obtain ⟨v23, cs23, rfl, l23, h23⟩ := LeafOk.next h22
  obtain ⟨v24, cs24, rfl, l24, h24⟩ := LeafOk.next h23
  obtain ⟨v25, cs25, rfl, l25, h25⟩ := LeafOk.next h24
  obtain ⟨v26, cs26, rfl, l26, h26⟩ := LeafOk.next h25
  obtain ⟨v27, cs27, rfl, l27, h27⟩ := LeafOk.next h26
  obtain ⟨v28, cs28, rfl, l28, h28⟩ := LeafOk.next h27
  obtain ⟨v29, cs29, rfl, l29, h29⟩ := LeafOk.next h28
  obtain ⟨v30, cs30, rfl, l30, h30⟩ := LeafOk.next h29
  obtain ⟨v31, cs31, rfl, l31, h31⟩ := LeafOk.next h30
  obtain ⟨v32, cs32, rfl, l32, h32⟩ := LeafOk.next h31
  obtain ⟨v33, cs33, rfl, l33, h33⟩ := LeafOk.next h32
  obtain ⟨v34, cs34, rfl, l34, h34⟩ := LeafOk.next h33
  obtain ⟨v35, cs35, rfl, l35, h35⟩ := LeafOk.next h34
  obtain ⟨v36, cs36, rfl, l36, h36⟩ := LeafOk.next h35
  obtain ⟨v37, cs37, rfl, l37, h37⟩ := LeafOk.next h36
  obtain rfl := LeafOk.done h37
  obtain ⟨n0, rfl, w0⟩ := leaf_int (k := .i64) Try.underlying3 l0
  obtain ⟨n1, rfl, w1⟩ := leaf_int (k := .u64) Try.underlying22 l1
  obtain ⟨n2, rfl, w2⟩ := leaf_int (k := .u8) Try.underlying5 l2
  obtain ⟨n3, rfl, w3⟩ := leaf_int (k := .u8) Try.underlying5 l3
  obtain ⟨n4, rfl, w4⟩ := leaf_int (k := .u8) Try.underlying5 l4
  obtain ⟨n5, rfl, w5⟩ := leaf_int (k := .u8) Try.underlying5 l5
  obtain ⟨n6, rfl, w6⟩ := leaf_int (k := .u8) Try.underlying5 l6
  obtain ⟨n7, rfl, w7⟩ := leaf_int (k := .u8) Try.underlying5 l7
  obtain ⟨n8, rfl, w8⟩ := leaf_int (k := .u8) Try.underlying5 l8
  obtain ⟨n9, rfl, w9⟩ := leaf_int (k := .u8) Try.underlying5 l9
  obtain ⟨n10, rfl, w10⟩ := leaf_int (k := .u8) Try.underlying5 l10
  obtain ⟨n11, rfl, w11⟩ := leaf_int (k := .u8) Try.underlying5 l11
  obtain ⟨n12, rfl, w12⟩ := leaf_int (k := .u32) Try.underlying25 l12
  obtain ⟨n13, rfl, w13⟩ := leaf_int (k := .u64) Try.underlying26 l13
  obtain ⟨n14, rfl, w14⟩ := leaf_int (k := .u32) Try.underlying27 l14
  obtain ⟨n15, rfl⟩ := leaf_bool Try.underlying4 l15
  obtain ⟨n16, rfl, w16⟩ := leaf_int (k := .u32) Try.underlying27 l16
  obtain ⟨n17, rfl, w17⟩ := leaf_int (k := .i64) Try.underlying3 l17
  obtain ⟨n18, rfl, w18⟩ := leaf_int (k := .u32) Try.underlying27 l18
  obtain ⟨n19, rfl, w19⟩ := leaf_int (k := .u32) Try.underlying25 l19
  obtain ⟨n20, rfl, w20⟩ := leaf_int (k := .u32) Try.underlying25 l20
  obtain ⟨n21, rfl, w21⟩ := leaf_int (k := .i64) Try.underlying3 l21
  obtain ⟨a22, c22, L22, e22, g22, m22, ar22, _⟩ := arr_read (C := cx (W.heap.size + 1) (oldW W)) (k := 1) (en := enU) (Pr := fun _ => True) rfl (fun _ => rfl) Try.underlying32 (by kernel_rfl) (by decide) (fun cs m y h => u32_read h) l22
  obtain ⟨n23, rfl, w23⟩ := leaf_int (k := .u32) Try.underlying27 l23
  obtain ⟨n24, rfl⟩ := leaf_bool Try.underlying4 l24
  obtain ⟨n25, rfl, w25⟩ := leaf_int (k := .u32) Try.underlying25 l25
  obtain ⟨n26, rfl⟩ := leaf_bool Try.underlying4 l26
  obtain ⟨n27, rfl, w27⟩ := leaf_int (k := .u32) Try.underlying25 l27
  obtain ⟨n28, rfl⟩ := leaf_bool Try.underlying4 l28
  obtain ⟨n29, rfl, w29⟩ := leaf_int (k := .u32) Try.underlying27 l29
  obtain ⟨a30, c30, L30, e30, g30, m30, ar30, _⟩ := arr_read (C := cx (W.heap.size + 1) (oldW W)) (k := 1) (en := enU) (Pr := fun _ => True) rfl (fun _ => rfl) Try.underlying33 (by kernel_rfl) (by decide) (fun cs m y h => ip_read h) l30
  obtain ⟨a31, c31, L31, e31, g31, m31, ar31, _⟩ := arr_read (C := cx (W.heap.size + 1) (oldW W)) (k := 8) (en := enC) (Pr := fun _ => True) rfl (fun _ => rfl) Try.underlying34 (by kernel_rfl) (by decide) (fun cs m y h => comm_read h) l31
  obtain ⟨n32, rfl, w32⟩ := leaf_int (k := .i64) Try.underlying3 l32
  obtain ⟨n33, rfl, w33⟩ := leaf_int (k := .u32) Try.underlying25 l33
  obtain ⟨n34, rfl, w34⟩ := leaf_int (k := .u32) Try.underlying27 l34
  obtain ⟨n35, rfl, w35⟩ := leaf_int (k := .u32) Try.underlying27 l35
  obtain ⟨n36, rfl, w36⟩ := leaf_int (k := .u32) Try.underlying27 l36
  obtain ⟨n37, rfl⟩ := leaf_bool Try.underlying4 l37
  refine ⟨⟨⟨⟨n0, n1, n2, n3, n4, n5, n6, n7, n8, n9, n10, n11, n12, n13, n14, n15, n16, n17, n18, n19, n20⟩, ⟨n21, L22, n23, n24, n25, n26, n27, n28, n29, L30, L31, n32, n33, n34, n35⟩, n36, n37⟩, a22, c22, a30, c30, a31, c31⟩, ?_, ⟨⟨⟨wfz_i64 w0, wfz_u64 w1, wfz_u8 w2, wfz_u8 w3, wfz_u8 w4, wfz_u8 w5, wfz_u8 w6, wfz_u8 w7, wfz_u8 w8, wfz_u8 w9, wfz_u8 w10, wfz_u8 w11, wfz_u32 w12, wfz_u64 w13, wfz_u32 w14, wfz_u32 w16, wfz_i64 w17, wfz_u32 w18, wfz_u32 w19, wfz_u32 w20⟩, wfy_i64 w21, wfy_u32 w23, wfy_u32 w25, wfy_u32 w27, wfy_u32 w29, wfy_u32 w36⟩, ⟨ar22.toW, ar30.toW, ar31.toW⟩⟩⟩
  simp only [List.map_cons, List.map_nil, e22, e30, e31]
  rfl
end
end Go.Proofs.Ythcohphflhkceaa.Abs

/- The law of BestCalls. -/
namespace Go.Proofs.Ythcohphflhkceaa.Abs
open Go
set_option linter.unusedVariables false
section
variable {B0 : Nat} {old : Nat → Option (List Value)} {n : Nat} {Q : Value → Hp → Prop} {ad ad2 : Option Addr} {c c2 : Nat}
set_option maxRecDepth 10000
set_option maxHeartbeats 32000000
theorem calls7_ct (L : List Rw) (R : List (Int × Int)) (i k : Int) (hA : Arr (cx B0 old) [] ad 38 enW L) (hL : ∀ x ∈ L, x.r.WF ∧ Rd (cx B0 old) [] x) (hl : L.length ≤ 9223372036854775807)
    (hR : Arr (cx B0 old) [] ad2 2 encH R) (hl2 : R.length ≤ 9223372036854775807) (hQ : ∀ H, Q (.bool true) H) :
    CallT (cx B0 old) (acall (cx B0 old) ansP (n + 60)) 7 [.slice ad L.length c, .slice ad2 R.length c2, .int .i64 i, .int .i64 k] [] Q := by
  refine call_in4 104 rfl Try.func7 rfl rfl ?_
  repeat (refine ZX ?_; try with_reducible intro _)
  refine rt_step rfl rfl rfl (st_call rfl rfl rfl rfl (call_ext rfl ?_))
  repeat (refine ZX ?_; try with_reducible intro _)
  refine rt_step rfl rfl rfl (st_call rfl rfl rfl rfl (light10_ct hA hl hl2 fun t ht => ?_))
  cases t with
  | false =>
    repeat (refine ZX ?_; try with_reducible intro _)
    exact re_1 rfl rfl (by exact drop_auto) (hQ [])
  | true =>
  obtain ⟨hlt, hl30, hr30⟩ := ht rfl
  have hwf : ∀ x ∈ L, x.r.WF := fun x hx => (hL x hx).1
  have hrd : ∀ x ∈ L, Rd (cx B0 old) [] x := fun x hx => (hL x hx).2
  have hlg : ∀ x ∈ L, x.r.a.light := fun x hx => (hlt x hx).light
  repeat (refine ZX ?_; try with_reducible intro _)
  refine rt_step rfl rfl rfl (st_call rfl rfl rfl rfl (own18_ct hA hrd hlg (by omega) fun w9 Gs Gr K oK hK hKm => ?_))
  have hKl : K.length = L.length := by have := congrArg List.length hKm; rwa [List.length_map, List.length_map] at this
  have hKr : ∀ x ∈ K, ∃ y ∈ L, y.r = x.r := fun x hx => by
    have : x.r ∈ L.map (·.r) := by rw [← hKm]; exact List.mem_map_of_mem hx
    obtain ⟨y, hy, e⟩ := List.mem_map.1 this
    exact ⟨y, hy, e⟩
  have hKw : ∀ x ∈ K, x.r.WF := fun x hx => by obtain ⟨y, hy, e⟩ := hKr x hx; rw [← e]; exact hwf y hy
  have hKg : ∀ x ∈ K, x.r.a.light := fun x hx => by obtain ⟨y, hy, e⟩ := hKr x hx; rw [← e]; exact hlg y hy
  repeat (refine ZX ?_; try with_reducible intro _)
  refine rt_step rfl rfl rfl (st_call rfl rfl rfl rfl (ownH19_ct (hR.toW.weak (List.nil_sublist _)) (by omega) fun w10 G10 o10 => ?_))
  obtain ⟨ad9, c9, e9, hw9⟩ := oK.arrW (C := cx B0 old) enW_len
  obtain ⟨ad10, c10, e10, hw10⟩ := o10.arrW (C := cx B0 old) encH_len
  subst e9; subst e10
  have hW9 : ArrW (cx B0 old) (G10 ++ (Gs ++ (Gr ++ []))) ad9 38 enW K := hw9 G10 (Gr ++ [])
  have hW10 : ArrW (cx B0 old) (G10 ++ (Gs ++ (Gr ++ []))) ad10 2 encH R := hw10 [] (Gs ++ (Gr ++ []))
  have hR0 : Arr (cx B0 old) (G10 ++ (Gs ++ (Gr ++ []))) ad2 2 encH R := hR.weak (List.nil_sublist _)
  have hA0 : Arr (cx B0 old) (G10 ++ (Gs ++ (Gr ++ []))) ad 38 enW L := hA.weak (List.nil_sublist _)
  have hK0 : ∀ x ∈ K, Rd (cx B0 old) (G10 ++ (Gs ++ (Gr ++ []))) x := fun x hx => (hK x hx).weak (by exact drop_auto)
  have hrs9 : RsA (cx B0 old) (G10 ++ (Gs ++ (Gr ++ []))) (L.map (·.r)) (.slice ad9 K.length c9) := ⟨K, ad9, c9, rfl, hW9, hK0, hKm⟩
  have hrs0 : RsA (cx B0 old) (G10 ++ (Gs ++ (Gr ++ []))) (L.map (·.r)) (.slice ad L.length c) := ⟨L, ad, c, rfl, hA.toW.weak (List.nil_sublist _), fun x hx => (hrd x hx).weak (List.nil_sublist _), rfl⟩
  generalize G10 ++ (Gs ++ (Gr ++ [])) = H0 at *
  have hgM : ∀ r ∈ L.map (·.r), r.a.light := fun r hr => by obtain ⟨y, hy, rfl⟩ := List.mem_map.1 hr; exact hlg y hy
  repeat (refine ZX ?_; try with_reducible intro _)
  refine rt_step rfl rfl rfl (st_call rfl rfl rfl rfl (Pick_ct _ _ _ _ K hKw (hW9.arr enW_len) (by omega) R (hW10.arr encH_len) (by omega) ?_))
  repeat (refine ZX ?_; try with_reducible intro _)
  refine rt_step rfl rfl rfl (st_call rfl rfl rfl rfl (Pick20_ct L hwf hA0 (by omega) hR0 (by omega) ?_))
  rw [show pst (mets R) (K.map (·.r)) K.length = pst (mets R) (L.map (·.r)) L.length by rw [hKm, hKl]]
  generalize pst (mets R) (L.map (·.r)) L.length = so
  obtain ⟨be, fo, le⟩ := so
  dsimp only
  repeat (refine ZX ?_; try with_reducible intro _)
  refine rt_step rfl rfl rfl (st_call rfl rfl rfl rfl (Select17_ct K hKw hKg hW9 hK0 (by omega) (hW10.arr encH_len) (by omega) fun v17 G17 M1 hM1 sM1 lM1 => ?_))
  rw [hKm] at sM1
  repeat (refine ZX ?_; try with_reducible intro _)
  refine rt_step rfl rfl rfl (st_call rfl rfl rfl rfl (Select21_ct L hwf (hA0.weak (by exact drop_auto)) (by omega) (hR0.weak (by exact drop_auto)) (by omega) fun v21 G21 K2 oK2 hK2 sK2 => ?_))
  have hM : M1 = K2.map (·.r) := sM1.uniq sK2
  repeat (refine ZX ?_; try with_reducible intro _)
  rw [show ((be : Int) != (be : Int)) = false from bne_self_eq_false _]
  repeat (refine ZX ?_; try with_reducible intro _)
  rw [show (fo == fo) = true from beq_self_eq_true _]
  repeat (refine ZX ?_; try with_reducible intro _)
  have hM1g : ∀ r ∈ M1, r.a.light := fun r hr => hgM r (sM1.sub hr)
  refine rt_step rfl rfl rfl (st_call rfl rfl rfl rfl (sames22_ct (M1 := M1) (M2 := K2.map (·.r)) (hM1.toA.weak (by exact drop_auto)) ((own_rsA oK2 fun x hx => (hrd x (hK2 x hx)).weak (List.nil_sublist _)).weak (by exact drop_auto)) (by omega) hM1g fun t3 ht3 => ?_))
  obtain rfl : t3 = true := ht3.2 hM
  repeat (refine ZX ?_; try with_reducible intro _)
  refine ct_midE (ι := Unit) (fun _ => True) (fun _ => [(9, .slice ad9 K.length c9), (10, .slice ad10 R.length c10), (0, .slice ad L.length c), (1, .slice ad2 R.length c2), (8, .bool false)]) (fun _ => H0) ?_ ?_
  · refine ct_condT te_d rfl (fun h0 => ?_) (fun h0 => ?_)
    rotate_left
    · repeat (refine ZX ?_; try with_reducible intro _)
      exact ⟨(), trivial, by repeat (first | exact SubL.nil | refine SubL.cons rfl ?_), by exact drop_auto⟩
    obtain ⟨ri0, ri1⟩ := pkF_range (x := i) (m := (L.length : Int)) (by omega)
    obtain ⟨rk0, rk1⟩ := pkF_range (x := k) (m := (L.length : Int)) (by omega)
    obtain ⟨j1, hj1⟩ : ∃ j : Nat, pkF i L.length = j := ⟨(pkF i L.length).toNat, by omega⟩
    obtain ⟨j2, hj2⟩ : ∃ j : Nat, pkF k L.length = j := ⟨(pkF k L.length).toNat, by omega⟩
    rw [hj1] at ri0 ri1
    rw [hj2] at rk0 rk1
    have hp1 : ∀ {H1 : Hp} {Θ : Value → Hp → Prop}, Θ (.int .i64 (j1 : Int)) H1 → CallT (cx B0 old) (acall (cx B0 old) ansP (n + 59)) 12 [.int .i64 i, .int .i64 (L.length : Int)] H1 Θ := fun h => pick12_ct (n := n + 58) i _ (by omega) (by omega) (by rw [hj1]; exact h)
    have hp2 : ∀ {H1 : Hp} {Θ : Value → Hp → Prop}, Θ (.int .i64 (j2 : Int)) H1 → CallT (cx B0 old) (acall (cx B0 old) ansP (n + 59)) 12 [.int .i64 k, .int .i64 (L.length : Int)] H1 Θ := fun h => pick12_ct (n := n + 58) k _ (by omega) (by omega) (by rw [hj2]; exact h)
    obtain ⟨za, hza⟩ : ∃ za, K[j1]? = some za := ⟨_, List.getElem?_eq_getElem (by omega)⟩
    obtain ⟨zb, hzb⟩ : ∃ zb, K[j2]? = some zb := ⟨_, List.getElem?_eq_getElem (by omega)⟩
    obtain ⟨b9, o9, cs9, eb9, _, _⟩ := (hW9.arr enW_len).els j1 za hza
    subst eb9
    obtain ⟨hL0, _⟩ := (hW9.arr enW_len).rw' hza rfl (sz rfl)
    obtain ⟨hL1, _⟩ := (hW9.arr enW_len).rw' hzb rfl (sz rfl)
    have wza := hKw za (List.mem_of_getElem? hza)
    have wzb := hKw zb (List.mem_of_getElem? hzb)
    repeat (refine ZX ?_; try with_reducible intro _)
    refine ct_draw (masks := [0, 0, 0, 4, 14, 31, 63, 0, 0, 0, 512, 1822, 3998, 8094, 0, 0, 53119, 131071]) (plan := [0, 1, 2, 3, 7, 8, 9, 10, 4, 5, 6, 11, 12, 13, 14, 15, 16, 17]) (E := [14, 15]) (by kernel_rfl) (by kernel_rfl) (by kernel_rfl) (by kernel_rfl) ?_
    repeat (refine YX ?_)
    refine pl_S' (late_two 14 15 rfl (made_alloc rfl rfl (zr rfl)) (made_alloc rfl rfl (zr rfl))) rfl rfl rfl rfl rfl rfl (st_call rfl rfl rfl rfl (hp1 ⟨by exact rec_auto, ?_⟩))
    repeat (refine YX ?_)
    refine pl_S' (late_two 14 15 rfl (made_alloc rfl rfl (zr rfl)) (made_alloc rfl rfl (zr rfl))) rfl rfl rfl rfl rfl rfl (st_call rfl rfl rfl rfl (hp2 ⟨by exact rec_auto, ?_⟩))
    repeat (refine YX ?_)
    refine pl_S' (late_two 14 15 rfl (made_alloc rfl rfl (zr rfl)) (made_alloc rfl rfl (zr rfl))) rfl rfl rfl rfl rfl rfl (st_alloc (zr rfl) fun b17 => ⟨by exact rec_auto, ?_⟩)
    repeat (refine YX ?_)
    refine pl_S' (late_two 14 15 rfl (made_alloc rfl rfl (zr rfl)) (made_alloc rfl rfl (zr rfl))) rfl rfl rfl rfl rfl rfl (st_alloc (zr rfl) fun b18 => ⟨by exact rec_auto, ?_⟩)
    repeat (refine YX ?_)
    refine pl_st' (late_two 14 15 rfl (made_alloc rfl rfl (zr rfl)) (made_alloc rfl rfl (zr rfl))) rfl rfl rfl rfl rfl rfl rfl rfl (by repeat (first | exact sV (sz rfl) rfl rfl | exact sW (sz rfl) rfl rfl rfl | exact sF (sz rfl) rfl rfl rfl | exact sG (sz rfl) rfl rfl | exact sM (f := vV) (sz rfl) rfl rfl (by omega) | exact sM (sz rfl) rfl rfl (by omega) | apply sS | apply sA)) (by exact rec_auto) ?_
    repeat (refine YX ?_)
    refine pl_st' (late_two 14 15 rfl (made_alloc rfl rfl (zr rfl)) (made_alloc rfl rfl (zr rfl))) rfl rfl rfl rfl rfl rfl rfl rfl (by repeat (first | exact sV (sz rfl) rfl rfl | exact sW (sz rfl) rfl rfl rfl | exact sF (sz rfl) rfl rfl rfl | exact sG (sz rfl) rfl rfl | exact sM (f := vV) (sz rfl) rfl rfl (by omega) | exact sM (sz rfl) rfl rfl (by omega) | apply sS | apply sA)) (by exact rec_auto) ?_
    repeat (refine YX ?_)
    repeat (refine ZX ?_; try with_reducible intro _)
    refine ct_draw (masks := [0, 0, 0, 7, 0, 0, 0, 127, 255, 511, 1023, 1023, 4095, 1023, 1023, 32767, 65535, 131071]) (plan := [0, 1, 2, 4, 5, 6, 3, 7, 8, 9, 10, 11, 13, 14, 12, 15, 16, 17]) (E := []) (by kernel_rfl) (by kernel_rfl) (by kernel_rfl) (by kernel_rfl) ?_
    repeat (refine YX ?_)
    refine pl_S rfl rfl rfl rfl rfl rfl (st_call rfl rfl rfl rfl (Compare_ct za zb wza wzb _ _ R ((hW10.arr encH_len).weak (by exact drop_auto)) (by omega) ⟨by exact rec_auto, ?_⟩))
    repeat (refine YX ?_)
    refine pl_S rfl rfl rfl rfl rfl rfl (st_call rfl rfl rfl rfl (Compare23_ct za zb wza wzb (hR0.weak (by exact drop_auto)) (by omega) ⟨by exact rec_auto, ?_⟩))
    repeat (refine YX ?_)
    rw [show (cmpR za.r zb.r R != cmpR za.r zb.r R) = false from bne_self_eq_false _]
    repeat (refine YX ?_)
    refine pl_S rfl rfl rfl rfl rfl rfl (st_call rfl rfl rfl rfl (Usable_ct za _ _ R ((hW10.arr encH_len).weak (by exact drop_auto)) (by omega) ⟨by exact rec_auto, ?_⟩))
    repeat (refine YX ?_)
    refine pl_S rfl rfl rfl rfl rfl rfl (st_call rfl rfl rfl rfl (Usable24_ct za (hR0.weak (by exact drop_auto)) (by omega) ⟨by exact rec_auto, ?_⟩))
    repeat (refine YX ?_)
    rw [show (usableR za.r (mets R) == usableR za.r (mets R)) = true from beq_self_eq_true _]
    repeat (refine YX ?_)
    repeat (refine ZX ?_; try with_reducible intro _)
    exact ⟨(), trivial, by repeat (first | exact SubL.nil | refine SubL.cons rfl ?_), by exact drop_auto⟩
  rintro _ _
  repeat (refine ZX ?_; try with_reducible intro _)
  refine rt_step rfl rfl rfl (st_call rfl rfl rfl rfl (sames22_ct (M1 := L.map (·.r)) (M2 := L.map (·.r)) hrs9 hrs0 (by rw [List.length_map]; omega) hgM fun t4 ht4 => ?_))
  obtain rfl : t4 = true := ht4.2 rfl
  repeat (refine ZX ?_; try with_reducible intro _)
  refine rt_step rfl rfl rfl (st_call rfl rfl rfl rfl (sameH25_ct (hW10.arr encH_len) hR0 (by omega) (fun _ => ?_) (fun h => absurd rfl h)))
  repeat (refine ZX ?_; try with_reducible intro _)
  exact re_1 rfl rfl (by exact drop_auto) (hQ H0)
end
end Go.Proofs.Ythcohphflhkceaa.Abs
