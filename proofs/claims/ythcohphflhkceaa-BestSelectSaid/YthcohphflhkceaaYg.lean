/- What is read of the arguments; the contract of the closed examples (printed by gentz.py). -/
import Derived.Test.YthcohphflhkceaaYd
import Derived.Test.YthcohphflhkceaaSep3
import Derived.Test.YthcohphflhkceaaSep6
import Derived.Test.YthcohphflhkceaaYe
namespace Go.Proofs.Ythcohphflhkceaa.Abs
open Go Go.RowKit
set_option linter.unusedVariables false
set_option maxRecDepth 100000
set_option maxHeartbeats 2000000
theorem livesRun : acall (cell0 Try.prog) ansB 60 9 [] st0 isTrue = true := by kernel_rfl
theorem extOk [Tok] (B0 : Nat) (old : Nat → Option (List Value)) : ExtOk (cx B0 old) := by
  intro f args v h0
  have h : extS f args = some v := h0
  clear h0
  unfold extS at h
  split at h
  · rename_i e
    have e := Nat.eq_of_beq_eq_true e
    subst e
    cases h
    refine ⟨rfl, fun φ N args' w ha => ?_⟩
    cases ha
    exact closedX 60 9 livesRun w
  · cases h
theorem wfz_i64 {n : Int} (h : (Lit.int .i64 n).wf = true) : -9223372036854775808 ≤ n ∧ n ≤ 9223372036854775807 := by
  simp [Lit.wf, IntKind.min, IntKind.max, IntKind.signed, IntKind.bits] at h; omega
theorem wfy_i64 {n : Int} (h : (Lit.int .i64 n).wf = true) : -9223372036854775808 ≤ n ∧ n < 9223372036854775808 := by
  have := wfz_i64 h; omega
theorem wfz_u64 {n : Int} (h : (Lit.int .u64 n).wf = true) : 0 ≤ n ∧ n ≤ 18446744073709551615 := by
  simp [Lit.wf, IntKind.min, IntKind.max, IntKind.signed, IntKind.bits] at h; omega
theorem wfz_u32 {n : Int} (h : (Lit.int .u32 n).wf = true) : 0 ≤ n ∧ n ≤ 4294967295 := by
  simp [Lit.wf, IntKind.min, IntKind.max, IntKind.signed, IntKind.bits] at h; omega
theorem wfy_u32 {n : Int} (h : (Lit.int .u32 n).wf = true) : 0 ≤ n ∧ n < 4294967296 := by
  have := wfz_u32 h; omega
theorem wfz_u8 {n : Int} (h : (Lit.int .u8 n).wf = true) : 0 ≤ n ∧ n ≤ 255 := by
  simp [Lit.wf, IntKind.min, IntKind.max, IntKind.signed, IntKind.bits] at h; omega
theorem lv25 : leaves Try.prog 10 25 = some [25] := by kernel_rfl
theorem lv27 : leaves Try.prog 10 27 = some [27] := by kernel_rfl
theorem lv94 : leaves Try.prog 10 94 = some [5, 5, 5, 5, 5, 5, 5, 5] := by kernel_rfl
theorem lv40 : leaves Try.prog 10 40 = some [3, 22, 5, 5, 5, 5, 5, 5, 5, 5, 5, 5, 25, 26, 27, 4, 27, 3, 27, 25, 25, 3, 32, 27, 4, 25, 4, 25, 4, 27, 33, 34, 3, 25, 27, 27, 27, 4] := by kernel_rfl
theorem lv49 : leaves Try.prog 10 49 = some [27, 3] := by kernel_rfl
section
variable {H : Type} {enc : TypeId × Value → H} {W : World} {base : Nat} {spare : Nat → Bool} {held : Bool}
theorem u32_read {hs fuel : Nat} {cs : List Value} {x : DataW H × List MemPlace} (h : DataW.trod enc Try.prog W base spare held fuel 25 cs = some x) : cs.length = 1 ∧ ∃ p : Int, cs.map (normV hs) = enU p ∧ True := by
  have hh := leaves_ok 10 25 _ lv25 _ _ _ h
  refine ⟨hh.1, ?_⟩
  obtain ⟨v0, cs0, rfl, l0, h0⟩ := LeafOk.next hh
  obtain rfl := LeafOk.done h0
  obtain ⟨n0, rfl, w0⟩ := leaf_int (k := .u32) Try.underlying25 l0
  exact ⟨n0, rfl, trivial⟩
theorem ip_read {hs fuel : Nat} {cs : List Value} {x : DataW H × List MemPlace} (h : DataW.trod enc Try.prog W base spare held fuel 27 cs = some x) : cs.length = 1 ∧ ∃ p : Int, cs.map (normV hs) = enU p ∧ True := by
  have hh := leaves_ok 10 27 _ lv27 _ _ _ h
  refine ⟨hh.1, ?_⟩
  obtain ⟨v0, cs0, rfl, l0, h0⟩ := LeafOk.next hh
  obtain rfl := LeafOk.done h0
  obtain ⟨n0, rfl, w0⟩ := leaf_int (k := .u32) Try.underlying27 l0
  exact ⟨n0, rfl, trivial⟩
theorem comm_read {hs fuel : Nat} {cs : List Value} {x : DataW H × List MemPlace} (h : DataW.trod enc Try.prog W base spare held fuel 94 cs = some x) : cs.length = 8 ∧ ∃ p : C8, cs.map (normV hs) = enC p ∧ True := by
  have hh := leaves_ok 10 94 _ lv94 _ _ _ h
  refine ⟨hh.1, ?_⟩
  obtain ⟨v0, cs0, rfl, l0, h0⟩ := LeafOk.next hh
  obtain ⟨v1, cs1, rfl, l1, h1⟩ := LeafOk.next h0
  obtain ⟨v2, cs2, rfl, l2, h2⟩ := LeafOk.next h1
  obtain ⟨v3, cs3, rfl, l3, h3⟩ := LeafOk.next h2
  obtain ⟨v4, cs4, rfl, l4, h4⟩ := LeafOk.next h3
  obtain ⟨v5, cs5, rfl, l5, h5⟩ := LeafOk.next h4
  obtain ⟨v6, cs6, rfl, l6, h6⟩ := LeafOk.next h5
  obtain ⟨v7, cs7, rfl, l7, h7⟩ := LeafOk.next h6
  obtain rfl := LeafOk.done h7
  obtain ⟨n0, rfl, w0⟩ := leaf_int (k := .u8) Try.underlying5 l0
  obtain ⟨n1, rfl, w1⟩ := leaf_int (k := .u8) Try.underlying5 l1
  obtain ⟨n2, rfl, w2⟩ := leaf_int (k := .u8) Try.underlying5 l2
  obtain ⟨n3, rfl, w3⟩ := leaf_int (k := .u8) Try.underlying5 l3
  obtain ⟨n4, rfl, w4⟩ := leaf_int (k := .u8) Try.underlying5 l4
  obtain ⟨n5, rfl, w5⟩ := leaf_int (k := .u8) Try.underlying5 l5
  obtain ⟨n6, rfl, w6⟩ := leaf_int (k := .u8) Try.underlying5 l6
  obtain ⟨n7, rfl, w7⟩ := leaf_int (k := .u8) Try.underlying5 l7
  exact ⟨⟨n0, n1, n2, n3, n4, n5, n6, n7⟩, rfl, trivial⟩
theorem hop_read {hs fuel : Nat} {cs : List Value} {x : DataW H × List MemPlace} (h : DataW.trod enc Try.prog W base spare held fuel 49 cs = some x) : cs.length = 2 ∧ ∃ p : Int × Int, cs.map (normV hs) = encH p ∧ True := by
  have hh := leaves_ok 10 49 _ lv49 _ _ _ h
  refine ⟨hh.1, ?_⟩
  obtain ⟨v0, cs0, rfl, l0, h0⟩ := LeafOk.next hh
  obtain ⟨v1, cs1, rfl, l1, h1⟩ := LeafOk.next h0
  obtain rfl := LeafOk.done h1
  obtain ⟨n0, rfl, w0⟩ := leaf_int (k := .u32) Try.underlying27 l0
  obtain ⟨n1, rfl, w1⟩ := leaf_int (k := .i64) Try.underlying3 l1
  exact ⟨(n0, n1), rfl, trivial⟩
theorem route_readW {fuel : Nat} {cs : List Value} {x : DataW H × List MemPlace} (h : DataW.trod enc Try.prog W 0 spare held fuel 40 cs = some x) : cs.length = 38 ∧ ∃ r : Rw, cs.map (normV W.heap.size) = enW r ∧ (r.r.WF ∧ Rd (cx (W.heap.size + 1) (oldW W)) [] r) := by
  have hh := leaves_ok 10 40 _ lv40 _ _ _ h
  clear h
  refine ⟨hh.1, ?_⟩
  obtain ⟨v0, cs0, rfl, l0, h0⟩ := LeafOk.next hh
  obtain ⟨v1, cs1, rfl, l1, h1⟩ := LeafOk.next h0
  obtain ⟨v2, cs2, rfl, l2, h2⟩ := LeafOk.next h1
  obtain ⟨v3, cs3, rfl, l3, h3⟩ := LeafOk.next h2
  obtain ⟨v4, cs4, rfl, l4, h4⟩ := LeafOk.next h3
  obtain ⟨v5, cs5, rfl, l5, h5⟩ := LeafOk.next h4
  obtain ⟨v6, cs6, rfl, l6, h6⟩ := LeafOk.next h5
  obtain ⟨v7, cs7, rfl, l7, h7⟩ := LeafOk.next h6
  obtain ⟨v8, cs8, rfl, l8, h8⟩ := LeafOk.next h7
  obtain ⟨v9, cs9, rfl, l9, h9⟩ := LeafOk.next h8
  obtain ⟨v10, cs10, rfl, l10, h10⟩ := LeafOk.next h9
  obtain ⟨v11, cs11, rfl, l11, h11⟩ := LeafOk.next h10
  obtain ⟨v12, cs12, rfl, l12, h12⟩ := LeafOk.next h11
  obtain ⟨v13, cs13, rfl, l13, h13⟩ := LeafOk.next h12
  obtain ⟨v14, cs14, rfl, l14, h14⟩ := LeafOk.next h13
  obtain ⟨v15, cs15, rfl, l15, h15⟩ := LeafOk.next h14
  obtain ⟨v16, cs16, rfl, l16, h16⟩ := LeafOk.next h15
  obtain ⟨v17, cs17, rfl, l17, h17⟩ := LeafOk.next h16
  obtain ⟨v18, cs18, rfl, l18, h18⟩ := LeafOk.next h17
  obtain ⟨v19, cs19, rfl, l19, h19⟩ := LeafOk.next h18
  obtain ⟨v20, cs20, rfl, l20, h20⟩ := LeafOk.next h19
  obtain ⟨v21, cs21, rfl, l21, h21⟩ := LeafOk.next h20
  obtain ⟨v22, cs22, rfl, l22, h22⟩ := LeafOk.next h21
  obtain ⟨v23, cs23, rfl, l23, h23⟩ := LeafOk.next h22
  obtain ⟨v24, cs24, rfl, l24, h24⟩ := LeafOk.next h23
  obtain ⟨v25, cs25, rfl, l25, h25⟩ := LeafOk.next h24
  obtain ⟨v26, cs26, rfl, l26, h26⟩ := LeafOk.next h25
  obtain ⟨v27, cs27, rfl, l27, h27⟩ := LeafOk.next h26
  obtain ⟨v28, cs28, rfl, l28, h28⟩ := LeafOk.next h27
  obtain ⟨v29, cs29, rfl, l29, h29⟩ := LeafOk.next h28
  obtain ⟨v30, cs30, rfl, l30, h30⟩ := LeafOk.next h29
  obtain ⟨v31, cs31, rfl, l31, h31⟩ := LeafOk.next h30
  obtain ⟨v32, cs32, rfl, l32, h32⟩ := LeafOk.next h31
  obtain ⟨v33, cs33, rfl, l33, h33⟩ := LeafOk.next h32
  obtain ⟨v34, cs34, rfl, l34, h34⟩ := LeafOk.next h33
  obtain ⟨v35, cs35, rfl, l35, h35⟩ := LeafOk.next h34
  obtain ⟨v36, cs36, rfl, l36, h36⟩ := LeafOk.next h35
  obtain ⟨v37, cs37, rfl, l37, h37⟩ := LeafOk.next h36
  obtain rfl := LeafOk.done h37
  obtain ⟨n0, rfl, w0⟩ := leaf_int (k := .i64) Try.underlying3 l0
  obtain ⟨n1, rfl, w1⟩ := leaf_int (k := .u64) Try.underlying22 l1
  obtain ⟨n2, rfl, w2⟩ := leaf_int (k := .u8) Try.underlying5 l2
  obtain ⟨n3, rfl, w3⟩ := leaf_int (k := .u8) Try.underlying5 l3
  obtain ⟨n4, rfl, w4⟩ := leaf_int (k := .u8) Try.underlying5 l4
  obtain ⟨n5, rfl, w5⟩ := leaf_int (k := .u8) Try.underlying5 l5
  obtain ⟨n6, rfl, w6⟩ := leaf_int (k := .u8) Try.underlying5 l6
  obtain ⟨n7, rfl, w7⟩ := leaf_int (k := .u8) Try.underlying5 l7
  obtain ⟨n8, rfl, w8⟩ := leaf_int (k := .u8) Try.underlying5 l8
  obtain ⟨n9, rfl, w9⟩ := leaf_int (k := .u8) Try.underlying5 l9
  obtain ⟨n10, rfl, w10⟩ := leaf_int (k := .u8) Try.underlying5 l10
  obtain ⟨n11, rfl, w11⟩ := leaf_int (k := .u8) Try.underlying5 l11
  obtain ⟨n12, rfl, w12⟩ := leaf_int (k := .u32) Try.underlying25 l12
  obtain ⟨n13, rfl, w13⟩ := leaf_int (k := .u64) Try.underlying26 l13
  obtain ⟨n14, rfl, w14⟩ := leaf_int (k := .u32) Try.underlying27 l14
  obtain ⟨n15, rfl⟩ := leaf_bool Try.underlying4 l15
  obtain ⟨n16, rfl, w16⟩ := leaf_int (k := .u32) Try.underlying27 l16
  obtain ⟨n17, rfl, w17⟩ := leaf_int (k := .i64) Try.underlying3 l17
  obtain ⟨n18, rfl, w18⟩ := leaf_int (k := .u32) Try.underlying27 l18
  obtain ⟨n19, rfl, w19⟩ := leaf_int (k := .u32) Try.underlying25 l19
  obtain ⟨n20, rfl, w20⟩ := leaf_int (k := .u32) Try.underlying25 l20
  obtain ⟨n21, rfl, w21⟩ := leaf_int (k := .i64) Try.underlying3 l21
  obtain ⟨a22, c22, L22, e22, g22, m22, ar22, _⟩ := arr_read (C := cx (W.heap.size + 1) (oldW W)) (k := 1) (en := enU) (Pr := fun _ => True) rfl (fun _ => rfl) Try.underlying32 (by kernel_rfl) (by decide) (fun cs m y h => u32_read h) l22
  obtain ⟨n23, rfl, w23⟩ := leaf_int (k := .u32) Try.underlying27 l23
  obtain ⟨n24, rfl⟩ := leaf_bool Try.underlying4 l24
  obtain ⟨n25, rfl, w25⟩ := leaf_int (k := .u32) Try.underlying25 l25
  obtain ⟨n26, rfl⟩ := leaf_bool Try.underlying4 l26
  obtain ⟨n27, rfl, w27⟩ := leaf_int (k := .u32) Try.underlying25 l27
  obtain ⟨n28, rfl⟩ := leaf_bool Try.underlying4 l28
  obtain ⟨n29, rfl, w29⟩ := leaf_int (k := .u32) Try.underlying27 l29
  obtain ⟨a30, c30, L30, e30, g30, m30, ar30, _⟩ := arr_read (C := cx (W.heap.size + 1) (oldW W)) (k := 1) (en := enU) (Pr := fun _ => True) rfl (fun _ => rfl) Try.underlying33 (by kernel_rfl) (by decide) (fun cs m y h => ip_read h) l30
  obtain ⟨a31, c31, L31, e31, g31, m31, ar31, _⟩ := arr_read (C := cx (W.heap.size + 1) (oldW W)) (k := 8) (en := enC) (Pr := fun _ => True) rfl (fun _ => rfl) Try.underlying34 (by kernel_rfl) (by decide) (fun cs m y h => comm_read h) l31
  obtain ⟨n32, rfl, w32⟩ := leaf_int (k := .i64) Try.underlying3 l32
  obtain ⟨n33, rfl, w33⟩ := leaf_int (k := .u32) Try.underlying25 l33
  obtain ⟨n34, rfl, w34⟩ := leaf_int (k := .u32) Try.underlying27 l34
  obtain ⟨n35, rfl, w35⟩ := leaf_int (k := .u32) Try.underlying27 l35
  obtain ⟨n36, rfl, w36⟩ := leaf_int (k := .u32) Try.underlying27 l36
  obtain ⟨n37, rfl⟩ := leaf_bool Try.underlying4 l37
  refine ⟨⟨⟨⟨n0, n1, n2, n3, n4, n5, n6, n7, n8, n9, n10, n11, n12, n13, n14, n15, n16, n17, n18, n19, n20⟩, ⟨n21, L22, n23, n24, n25, n26, n27, n28, n29, L30, L31, n32, n33, n34, n35⟩, n36, n37⟩, a22, c22, a30, c30, a31, c31⟩, ?_, ⟨⟨⟨wfz_i64 w0, wfz_u64 w1, wfz_u8 w2, wfz_u8 w3, wfz_u8 w4, wfz_u8 w5, wfz_u8 w6, wfz_u8 w7, wfz_u8 w8, wfz_u8 w9, wfz_u8 w10, wfz_u8 w11, wfz_u32 w12, wfz_u64 w13, wfz_u32 w14, wfz_u32 w16, wfz_i64 w17, wfz_u32 w18, wfz_u32 w19, wfz_u32 w20⟩, wfy_i64 w21, wfy_u32 w23, wfy_u32 w25, wfy_u32 w27, wfy_u32 w29, wfy_u32 w36⟩, ⟨ar22.toW, ar30.toW, ar31.toW⟩⟩⟩
  simp only [List.map_cons, List.map_nil, e22, e30, e31]
  rfl
end
end Go.Proofs.Ythcohphflhkceaa.Abs

/- The law of BestSelect. -/
namespace Go.Proofs.Ythcohphflhkceaa.Abs
open Go
set_option linter.unusedVariables false
section
variable {B0 : Nat} {old : Nat → Option (List Value)} {n : Nat} {Q : Value → Hp → Prop} {ad ad2 : Option Addr} {c c2 : Nat}
set_option maxRecDepth 10000
set_option maxHeartbeats 32000000
theorem select8_ct (L : List Rw) (R : List (Int × Int)) (hA : Arr (cx B0 old) [] ad 38 enW L) (hL : ∀ x ∈ L, x.r.WF ∧ Rd (cx B0 old) [] x) (hl : L.length ≤ 9223372036854775807)
    (hR : Arr (cx B0 old) [] ad2 2 encH R) (hl2 : R.length ≤ 9223372036854775807) (hQ : ∀ H, Q (.bool true) H) :
    CallT (cx B0 old) (acall (cx B0 old) ansP (n + 60)) 8 [.slice ad L.length c, .slice ad2 R.length c2] [] Q := by
  refine call_in2 137 rfl Try.func8 rfl rfl ?_
  repeat (refine ZX ?_; try with_reducible intro _)
  refine rt_step rfl rfl rfl (st_call rfl rfl rfl rfl (call_ext rfl ?_))
  repeat (refine ZX ?_; try with_reducible intro _)
  refine rt_step rfl rfl rfl (st_call rfl rfl rfl rfl (light10_ct hA hl hl2 fun t ht => ?_))
  cases t with
  | false =>
    repeat (refine ZX ?_; try with_reducible intro _)
    exact re_1 rfl rfl (by exact drop_auto) (hQ [])
  | true =>
  obtain ⟨hlt, hl30, hr30⟩ := ht rfl
  have hwf : ∀ x ∈ L, x.r.WF := fun x hx => (hL x hx).1
  have hrd : ∀ x ∈ L, Rd (cx B0 old) [] x := fun x hx => (hL x hx).2
  have hlg : ∀ x ∈ L, x.r.a.light := fun x hx => (hlt x hx).light
  repeat (refine ZX ?_; try with_reducible intro _)
  refine rt_step rfl rfl rfl (st_call rfl rfl rfl rfl (Select17_ct L hwf hlg hA.toW hrd hl30 hR (by omega) fun v5 G17 M hM sM lM => ?_))
  obtain ⟨K, Gs, Gr, oK, hK, hKm, rfl⟩ := hM
  obtain ⟨ad5, c5, e5, hw5⟩ := oK.arrW (C := cx B0 old) enW_len
  subst e5
  have hW5 : ArrW (cx B0 old) ((Gs ++ Gr) ++ []) ad5 38 enW K := by rw [List.append_assoc]; exact hw5 [] (Gr ++ [])
  have hK5 : ∀ x ∈ K, Rd (cx B0 old) ((Gs ++ Gr) ++ []) x := fun x hx => (hK x hx).weak (by rw [List.append_assoc]; exact drop_auto)
  generalize (Gs ++ Gr) ++ [] = H1 at *
  subst hKm
  have hKL : ∀ x ∈ K, ∃ y ∈ L, y.r = x.r := fun x hx => by
    obtain ⟨y, hy, e⟩ := List.mem_map.1 (sM.sub (List.mem_map_of_mem hx))
    exact ⟨y, hy, e⟩
  have hKw : ∀ x ∈ K, x.r.WF := fun x hx => by obtain ⟨y, hy, e⟩ := hKL x hx; rw [← e]; exact hwf y hy
  have hKg : ∀ x ∈ K, x.r.a.light := fun x hx => by obtain ⟨y, hy, e⟩ := hKL x hx; rw [← e]; exact hlg y hy
  have hKlen : K.length ≤ 30 := by rwa [List.length_map] at lM
  have hA1 : Arr (cx B0 old) H1 ad 38 enW L := hA.weak (List.nil_sublist _)
  have hR1 : Arr (cx B0 old) H1 ad2 2 encH R := hR.weak (List.nil_sublist _)
  have hrd1 : ∀ x ∈ L, Rd (cx B0 old) H1 x := fun x hx => (hrd x hx).weak (List.nil_sublist _)
  clear hw5 oK hK
  repeat (refine ZX ?_; try with_reducible intro _)
  refine ct_midB (ι := Unit) (fun _ => True) (fun _ => [(5, .slice ad5 K.length c5), (0, .slice ad L.length c), (1, .slice ad2 R.length c2)]) (fun _ => H1) ?_ ?_
  · refine loop_ind (ι := Nat) 0 (fun i => K.length - i) (fun i => i ≤ K.length) (fun i => [(6, .int .i64 (i : Int)), (5, .slice ad5 K.length c5), (0, .slice ad L.length c), (1, .slice ad2 R.length c2)]) (fun _ => H1) (Nat.zero_le _) (by repeat (first | exact SubL.nil | refine SubL.cons rfl ?_)) (by exact drop_auto) ?_
    intro i hi
    repeat (refine ZX ?_; try with_reducible intro _)
    refine ct_condT te_d rfl (fun hlt0 => ?_) (fun hlt0 => ?_)
    rotate_left
    · repeat (refine ZX ?_; try with_reducible intro _)
      exact ⟨(), trivial, by repeat (first | exact SubL.nil | refine SubL.cons rfl ?_), by exact drop_auto⟩
    obtain ⟨x, hx⟩ : ∃ x, K[i]? = some x := ⟨_, List.getElem?_eq_getElem (by omega)⟩
    have hxm := List.mem_of_getElem? hx
    have hxw := hKw x hxm
    obtain ⟨b5, o5, cs5, e5, _, _⟩ := (hW5.arr enW_len).els i x hx
    subst e5
    obtain ⟨hL0, _⟩ := (hW5.arr enW_len).rn hx rfl (sz rfl)
    have hselx := sM.key (List.mem_map_of_mem (f := (·.r)) hxm)
    unfold en60 at hL0
    repeat (refine ZX ?_; try with_reducible intro _)
    refine ct_draw (masks := [0, 1, 3, 7, 7, 23, 63, 127, 255, 7, 7, 1543, 3591, 7687, 16383, 32767, 65535]) (plan := [0, 1, 2, 3, 4, 5, 6, 7, 8, 9, 10, 11, 12, 13, 14, 15, 16]) (E := []) (by kernel_rfl) (by kernel_rfl) (by kernel_rfl) (by kernel_rfl) ?_
    refine pl_midE (ι := Unit) (fun _ => True) (fun _ => [(45, .bool false), (6, .int .i64 (i : Int)), (5, .slice (some ⟨b5, o5, none⟩) K.length c5), (0, .slice ad L.length c), (1, .slice ad2 R.length c2)]) (fun _ => H1) ?_ ?_
    · repeat (refine YX ?_)
      refine isPlan ?_
      refine z3 (fun hja => ?_) (fun hja => ?_)
      rotate_left
      · repeat (refine YX ?_)
        exact ⟨(), trivial, by repeat (first | exact SubL.nil | refine SubL.cons rfl ?_), by exact drop_auto⟩
      obtain ⟨i, rfl⟩ : ∃ i', i = i' + 1 := ⟨i - 1, by omega⟩
      obtain ⟨u, hu⟩ : ∃ u, K[i]? = some u := ⟨_, List.getElem?_eq_getElem (by omega)⟩
      have huw := hKw u (List.mem_of_getElem? hu)
      obtain ⟨hL1, _⟩ := (hW5.arr enW_len).rn hu rfl (sz rfl)
      unfold en60 at hL1
      have hord : nlC u.r.n x.r.n < 0 := by
        refine (nlC_rk huw.n hxw.n).2 ?_
        obtain ⟨q1, e1⟩ := List.getElem?_eq_some_iff.1 hu
        obtain ⟨q2, e2⟩ := List.getElem?_eq_some_iff.1 hx
        have := List.pairwise_iff_getElem.1 (List.pairwise_map.1 sM.asc) i (i + 1) q1 q2 (Nat.lt_succ_self _)
        rw [e1, e2] at this
        exact this
      have hcp : ∀ {H1 : Hp} {Θ : Value → Hp → Prop}, Θ (.int .i64 (nlC u.r.n x.r.n)) H1 → CallT (cx B0 old) (acall (cx B0 old) ansP (n + 59)) 26 [.agg ⟨en60 u.r.n⟩, .agg ⟨en60 x.r.n⟩] H1 Θ := fun h => compare26_ct (n := n + 55) u.r.n x.r.n huw.n hxw.n h
      repeat (refine YX ?_)
      refine pl_S rfl rfl rfl rfl rfl rfl (st_call rfl rfl rfl rfl (hcp ⟨by exact rec_auto, ?_⟩))
      repeat (refine YX ?_)
      rw [show decide (nlC u.r.n x.r.n ≥ 0) = false from decide_eq_false (by omega)]
      exact ⟨(), trivial, by repeat (first | exact SubL.nil | refine SubL.cons rfl ?_), by exact drop_auto⟩
    rintro _ _
    repeat (refine ZX ?_; try with_reducible intro _)
    refine loop_ind (ι := Nat × List Rw × Value × Hp) (0, [], .slice none 0 0, []) (fun k => L.length - k.1) (fun k => k.1 ≤ L.length ∧ k.2.1.map (·.r) = grp ((L.take k.1).map (·.r)) (rkW x) ∧ (∀ z ∈ k.2.1, z ∈ L) ∧ Own enW 38 k.2.1 k.2.2.1 k.2.2.2 ∧ k.2.1.length ≤ k.1)
      (fun k => [(8, .int .i64 (k.1 : Int)), (7, k.2.2.1), (6, .int .i64 (i : Int)), (5, .slice (some ⟨b5, o5, none⟩) K.length c5), (0, .slice ad L.length c), (1, .slice ad2 R.length c2)]) (fun k => k.2.2.2 ++ H1)
      ⟨Nat.zero_le _, rfl, fun z h => (by cases h), .nil, Nat.le_refl _⟩ (by repeat (first | exact SubL.nil | refine SubL.cons rfl ?_)) (by exact drop_auto) ?_
    rintro ⟨k, G, vg, Gg⟩ ⟨hk, hGm, hGL, oG, hGl⟩
    dsimp only at hk hGm hGL oG hGl ⊢
    repeat (refine ZX ?_; try with_reducible intro _)
    refine ct_condT te_d rfl (fun hlt1 => ?_) (fun hlt1 => ?_)
    · -- one more route of the list
      obtain ⟨y, hy⟩ : ∃ y, L[k]? = some y := ⟨_, List.getElem?_eq_getElem (by omega)⟩
      have hym := List.mem_of_getElem? hy
      have hyw := hwf y hym
      obtain ⟨bl, ol, csl, el, _, _⟩ := hA1.els k y hy
      subst el
      obtain ⟨hL1, _⟩ := hA1.rn hy rfl (sz rfl)
      obtain ⟨hL2, _⟩ := hA1.rw' hy rfl (sz rfl)
      unfold en60 at hL1
      have htk : (L.take (k + 1)).map (·.r) = (L.take k).map (·.r) ++ [y.r] := by rw [List.take_add_one, hy, List.map_append]; rfl
      have hcp : ∀ {H1 : Hp} {Θ : Value → Hp → Prop}, Θ (.int .i64 (nlC y.r.n x.r.n)) H1 → CallT (cx B0 old) (acall (cx B0 old) ansP (n + 59)) 26 [.agg ⟨en60 y.r.n⟩, .agg ⟨en60 x.r.n⟩] H1 Θ := fun h => compare26_ct (n := n + 55) y.r.n x.r.n hyw.n hxw.n h
      repeat (refine ZX ?_; try with_reducible intro _)
      refine ct_draw (masks := [0, 0, 3, 7, 15, 0, 0, 96, 224, 480, 1023, 2047]) (plan := [0, 1, 2, 3, 4, 5, 6, 7, 8, 9, 10, 11]) (E := []) (by kernel_rfl) (by kernel_rfl) (by kernel_rfl) (by kernel_rfl) ?_
      repeat (refine YX ?_)
      refine pl_S rfl rfl rfl rfl rfl rfl (st_call rfl rfl rfl rfl (hcp ⟨by exact rec_auto, ?_⟩))
      repeat (refine YX ?_)
      repeat (refine ZX ?_; try with_reducible intro _)
      refine ct_condT te_e rfl (fun hz => ?_) (fun hz => ?_)
      · have hkey : rkN y.r = rkW x := (nlC_rk0 hyw.n hxw.n).1 hz
        obtain ⟨adg, cg, eg, _⟩ := oG.arrW (C := cx B0 old) enW_len
        repeat (refine ZX ?_; try with_reducible intro _)
        refine rt_step rfl rfl rfl (st_appO (M := [y]) (c := 1) (pre := [_]) (Hs := Gg) oG enW_len enW_one rfl rfl (ap rfl) (arrW_one enW_len (List.Mem.head _)) (Nat.le_trans (Nat.mul_le_mul_right _ (show 2 * (G.length + [y].length) + 192 ≤ 6000 by rw [List.length_singleton]; omega)) (by decide)) fun v9 G9 o9 => ?_)
        repeat (refine ZX ?_; try with_reducible intro _)
        refine ⟨(k + 1, G ++ [y], v9, G9), ⟨by dsimp only; omega, ?_, fun z hz => ?_, o9, by dsimp only; rw [List.length_append, List.length_singleton]; omega⟩, by dsimp only; omega, by repeat (first | exact SubL.nil | refine SubL.cons rfl ?_), by exact drop_auto⟩
        · dsimp only
          rw [htk, grp_app, List.map_append, hGm, grp_cons_eq hkey]; rfl
        · rcases List.mem_append.1 hz with h | h
          · exact hGL z h
          · rw [List.mem_singleton.1 h]; exact hym
      · have hkey : rkN y.r ≠ rkW x := fun e => hz ((nlC_rk0 hyw.n hxw.n).2 e)
        repeat (refine ZX ?_; try with_reducible intro _)
        refine ⟨(k + 1, G, vg, Gg), ⟨by dsimp only; omega, ?_, hGL, oG, by dsimp only; omega⟩, by dsimp only; omega, by repeat (first | exact SubL.nil | refine SubL.cons rfl ?_), by exact drop_auto⟩
        dsimp only
        rw [htk, grp_app, hGm, grp_cons_ne hkey]
        exact (List.append_nil _).symm
    -- the group is whole
    obtain rfl : k = L.length := by omega
    rw [List.take_length] at hGm
    obtain ⟨adg, cg, eg, hwg⟩ := oG.arrW (C := cx B0 old) enW_len
    have hwg := hwg [] H1
    rw [List.nil_append] at hwg
    subst eg
    have hsel := sel_pst (mets R) (G.map (·.r))
    rw [hGm] at hsel
    rw [show sel (mets R) (grp (L.map (·.r)) (rkW x)) = some x.r from hselx, ← hGm, List.length_map] at hsel
    repeat (refine ZX ?_; try with_reducible intro _)
    refine rt_step rfl rfl rfl (st_call rfl rfl rfl rfl (Pick_ct _ _ _ _ G (fun z hz => hwf z (hGL z hz)) (hwg.arr enW_len) (by omega) R (hR1.weak (by exact drop_auto)) (by omega) ?_))
    generalize pst (mets R) (G.map (·.r)) G.length = so at hsel ⊢
    obtain ⟨be, fo, le⟩ := so
    dsimp only at hsel ⊢
    cases fo with
    | false => rw [if_neg (by simp)] at hsel; cases hsel
    | true =>
    rw [if_pos rfl, List.getElem?_map] at hsel
    obtain ⟨g, hg, hgx⟩ := Option.map_eq_some_iff.1 hsel.symm
    have hgl := (List.getElem?_eq_some_iff.1 hg).1
    obtain ⟨bg, og, csg, eg, _, _⟩ := (hwg.arr enW_len).els be g hg
    subst eg
    obtain ⟨hL2, _⟩ := (hwg.arr enW_len).rw' hg rfl (sz rfl)
    obtain ⟨hL3, _⟩ := (hW5.arr enW_len).rw' hx rfl (sz rfl)
    have hgL := hGL g (List.mem_of_getElem? hg)
    have hgg := hlg g hgL
    unfold RtA.light at hgg
    repeat (refine ZX ?_; try with_reducible intro _)
    refine ct_draw (masks := [0, 1, 3, 7, 15, 31, 63, 127, 127, 383, 1023, 2047, 4095, 8191, 8191, 32767, 65535, 8191, 8191, 401407, 925695, 2097151, 4194303, 8388607]) (plan := [0, 1, 2, 3, 4, 5, 6, 7, 8, 9, 10, 11, 12, 13, 14, 15, 16, 17, 18, 19, 20, 21, 22, 23]) (E := []) (by kernel_rfl) (by kernel_rfl) (by kernel_rfl) (by kernel_rfl) ?_
    repeat (refine YX ?_)
    rw [show decide ((be : Int) < 0) = false from decide_eq_false (by omega)]
    repeat (refine YX ?_)
    rw [show decide ((be : Int) ≥ (G.length : Int)) = false from decide_eq_false (by omega)]
    repeat (refine YX ?_)
    refine pl_S rfl rfl rfl rfl rfl rfl (st_call rfl rfl rfl rfl (same16_ct g x (by omega) ((hrd g hgL).weak (List.nil_sublist _)) ((hK5 x hxm).weak (by exact drop_auto)) fun t9 ht9 => ⟨by exact rec_auto, ?_⟩))
    obtain rfl : t9 = true := ht9.2 hgx
    repeat (refine YX ?_)
    repeat (refine ZX ?_; try with_reducible intro _)
    exact ⟨i + 1, by omega, by omega, by repeat (first | exact SubL.nil | refine SubL.cons rfl ?_), by exact drop_auto⟩
  rintro _ _
  repeat (refine ZX ?_; try with_reducible intro _)
  refine loop_ind (ι := Nat) 0 (fun k => L.length - k) (fun k => k ≤ L.length) (fun k => [(11, .int .i64 (k : Int)), (5, .slice ad5 K.length c5), (0, .slice ad L.length c), (1, .slice ad2 R.length c2)]) (fun _ => H1) (Nat.zero_le _) (by repeat (first | exact SubL.nil | refine SubL.cons rfl ?_)) (by exact drop_auto) ?_
  intro k hk
  repeat (refine ZX ?_; try with_reducible intro _)
  refine ct_condT te_d rfl (fun hlt0 => ?_) (fun hlt0 => ?_)
  rotate_left
  · repeat (refine ZX ?_; try with_reducible intro _)
    exact re_1 rfl rfl (by exact drop_auto) (hQ H1)
  obtain ⟨y, hy⟩ : ∃ y, L[k]? = some y := ⟨_, List.getElem?_eq_getElem (by omega)⟩
  have hym := List.mem_of_getElem? hy
  have hyw := hwf y hym
  obtain ⟨bl, ol, csl, el, _, _⟩ := hA1.els k y hy
  subst el
  obtain ⟨hL0, _⟩ := hA1.rn hy rfl (sz rfl)
  obtain ⟨hL2, _⟩ := hA1.rw' hy rfl (sz rfl)
  unfold en60 at hL0
  have hthere : usableR y.r (mets R) = true → ∃ (j : Nat) (z : Rw), K[j]? = some z ∧ rkW z = rkN y.r := fun hu => by
    have h1 : sel (mets R) (grp (L.map (·.r)) (rkN y.r)) ≠ none := fun e => sel_none.1 e y.r (grp_mem.2 ⟨List.mem_map_of_mem hym, rfl⟩) hu
    obtain ⟨q, hq⟩ := Option.ne_none_iff_exists'.1 h1
    have h2 : q ∈ grp (K.map (·.r)) (rkN y.r) := by rw [sM.at', hq]; exact List.mem_singleton.2 rfl
    obtain ⟨h3, h4⟩ := grp_mem.1 h2
    obtain ⟨z, hz, rfl⟩ := List.mem_map.1 h3
    obtain ⟨j, hj⟩ := List.getElem?_of_mem hz
    exact ⟨j, z, hj, h4⟩
  repeat (refine ZX ?_; try with_reducible intro _)
  refine rt_step rfl rfl rfl (st_call rfl rfl rfl rfl (Usable_ct y _ _ R hR1 (by omega) ?_))
  repeat (refine ZX ?_; try with_reducible intro _)
  refine loop_ind (ι := Nat × Bool) (0, !usableR y.r (mets R)) (fun j => K.length - j.1) (fun j => j.1 ≤ K.length ∧ (usableR y.r (mets R) = false → j.2 = true) ∧ (∀ (a : Nat) z, K[a]? = some z → a < j.1 → rkW z = rkN y.r → j.2 = true))
    (fun j => [(13, .int .i64 (j.1 : Int)), (12, .bool j.2), (11, .int .i64 (k : Int)), (5, .slice ad5 K.length c5), (0, .slice (some ⟨bl, ol, none⟩) L.length c), (1, .slice ad2 R.length c2)]) (fun _ => H1)
    ⟨Nat.zero_le _, fun h => by dsimp only; rw [h]; rfl, fun a z _ h => absurd h (Nat.not_lt_zero _)⟩ (by repeat (first | exact SubL.nil | refine SubL.cons rfl ?_)) (by exact drop_auto) ?_
  rintro ⟨j, t⟩ ⟨hj, ht1, ht2⟩
  dsimp only at hj ht1 ht2 ⊢
  repeat (refine ZX ?_; try with_reducible intro _)
  refine ct_condT te_d rfl (fun hlt1 => ?_) (fun hlt1 => ?_)
  rotate_left
  · obtain rfl : j = K.length := by omega
    obtain rfl : t = true := by
      cases hu : usableR y.r (mets R) with
      | false => exact ht1 hu
      | true =>
        obtain ⟨a, z, ha, hz⟩ := hthere hu
        exact ht2 a z ha (List.getElem?_eq_some_iff.1 ha).1 hz
    repeat (refine ZX ?_; try with_reducible intro _)
    exact ⟨k + 1, by omega, by omega, by repeat (first | exact SubL.nil | refine SubL.cons rfl ?_), by exact drop_auto⟩
  obtain ⟨x, hx⟩ : ∃ x, K[j]? = some x := ⟨_, List.getElem?_eq_getElem (by omega)⟩
  have hxw := hKw x (List.mem_of_getElem? hx)
  obtain ⟨b5, o5, cs5, e5, _, _⟩ := (hW5.arr enW_len).els j x hx
  subst e5
  obtain ⟨hL1, _⟩ := (hW5.arr enW_len).rn hx rfl (sz rfl)
  unfold en60 at hL1
  cases t with
  | true =>
    repeat (refine ZX ?_; try with_reducible intro _)
    refine ct_draw (masks := [0, 1, 3, 3, 15, 31, 63, 3, 3, 387, 899, 1923, 4095, 8191, 16383, 32767]) (plan := [0, 1, 2, 3, 4, 5, 6, 7, 8, 9, 10, 11, 12, 13, 14, 15]) (E := []) (by kernel_rfl) (by kernel_rfl) (by kernel_rfl) (by kernel_rfl) ?_
    repeat (refine YX ?_)
    repeat (refine ZX ?_; try with_reducible intro _)
    exact ⟨(j + 1, true), ⟨by dsimp only; omega, fun _ => rfl, fun _ _ _ _ _ => rfl⟩, by dsimp only; omega, by repeat (first | exact SubL.nil | refine SubL.cons rfl ?_), by exact drop_auto⟩
  | false =>
    have hcp : ∀ {H1 : Hp} {Θ : Value → Hp → Prop}, Θ (.int .i64 (nlC y.r.n x.r.n)) H1 → CallT (cx B0 old) (acall (cx B0 old) ansP (n + 59)) 26 [.agg ⟨en60 y.r.n⟩, .agg ⟨en60 x.r.n⟩] H1 Θ := fun h => compare26_ct (n := n + 55) y.r.n x.r.n hyw.n hxw.n h
    repeat (refine ZX ?_; try with_reducible intro _)
    refine ct_draw (masks := [0, 1, 3, 3, 15, 31, 63, 3, 3, 387, 899, 1923, 4095, 8191, 16383, 32767]) (plan := [0, 1, 2, 3, 4, 5, 6, 7, 8, 9, 10, 11, 12, 13, 14, 15]) (E := []) (by kernel_rfl) (by kernel_rfl) (by kernel_rfl) (by kernel_rfl) ?_
    repeat (refine YX ?_)
    refine pl_S rfl rfl rfl rfl rfl rfl (st_call rfl rfl rfl rfl (hcp ⟨by exact rec_auto, ?_⟩))
    repeat (refine YX ?_)
    repeat (refine ZX ?_; try with_reducible intro _)
    refine ⟨(j + 1, nlC y.r.n x.r.n == 0), ⟨by dsimp only; omega, fun h => absurd (ht1 h) (by simp), fun a z ha hlt hz => ?_⟩, by dsimp only; omega, by repeat (first | exact SubL.nil | refine SubL.cons rfl ?_), by exact drop_auto⟩
    rcases Nat.lt_or_ge a j with h | h
    · exact absurd (ht2 a z ha h hz) (by simp)
    · obtain rfl : a = j := by dsimp only at hlt; omega
      rw [hx] at ha; cases ha
      exact beq_iff_eq.2 ((nlC_rk0 hyw.n hxw.n).2 hz.symm)
end
end Go.Proofs.Ythcohphflhkceaa.Abs
