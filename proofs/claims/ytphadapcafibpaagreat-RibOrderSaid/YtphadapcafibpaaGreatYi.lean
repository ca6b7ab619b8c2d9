/- A restart, in plain Lean: routes that became stale, were put again, or swept. -/
import Derived.Test.YtphadapcafibpaaGreatYe
import Derived.Test.YtphadapcafibpaaGreatSep3
import Derived.Test.YtphadapcafibpaaGreatYc
import Derived.Test.YtphadapcafibpaaGreatYs
namespace Go.Proofs.YtphadapcafibpaaGreat.Abs
open Go
set_option linter.unusedVariables false
variable {e : Rt} {M : List Rt} {f g : Rt → Bool} {p : Int}
theorem putR_front : ∀ {L : List Rt}, (∀ x ∈ L, rkR e < rkR x) → putR e L = e :: L
  | [], _ => rfl
  | x :: l, h => by
    have := h x (List.mem_cons_self ..)
    unfold putR
    rw [if_neg (by omega), if_neg (by omega)]
theorem putR_cons (e x : Rt) (l : List Rt) : putR e (x :: l) = if rkR x < rkR e then x :: putR e l else if rkR x = rkR e then e :: l else e :: x :: l := rfl
theorem putR_filter (hf : f e = true) : ∀ {M : List Rt}, SrtR M → (putR e M).filter f = putR e (M.filter f)
  | [], _ => by simp [putR, hf]
  | x :: l, h => by
    obtain ⟨h1, h2⟩ := SrtR.cons.1 h
    rw [putR_cons]
    by_cases c1 : rkR x < rkR e
    · rw [if_pos c1]
      have ih := putR_filter hf h2
      cases hx : f x with
      | true =>
        rw [List.filter_cons_of_pos hx, List.filter_cons_of_pos hx, ih]
        rw [putR_cons, if_pos c1]
      | false =>
        rw [List.filter_cons_of_neg (by simp [hx]), List.filter_cons_of_neg (by simp [hx]), ih]
    · rw [if_neg c1]
      by_cases c2 : rkR x = rkR e
      · rw [if_pos c2, List.filter_cons_of_pos hf]
        cases hx : f x with
        | true =>
          rw [List.filter_cons_of_pos hx]
          rw [putR_cons, if_neg c1, if_pos c2]
        | false =>
          rw [List.filter_cons_of_neg (by simp [hx]), putR_front (L := l.filter f) fun y hy => by have := h1 y (List.mem_filter.1 hy).1; omega]
      · rw [if_neg c2, List.filter_cons_of_pos hf]
        rw [putR_front (L := (x :: l).filter f) fun y hy => by
          rcases List.mem_cons.1 (List.mem_filter.1 hy).1 with rfl | h
          · omega
          · have := h1 y h; omega]
theorem putR_filterN (hg : g e = false) : ∀ {M : List Rt}, (∀ x ∈ M, rkR x = rkR e → g x = false) → (putR e M).filter g = M.filter g
  | [], _ => by simp [putR, hg]
  | x :: l, h => by
    have ih := putR_filterN (M := l) hg fun y hy => h y (List.mem_cons_of_mem _ hy)
    unfold putR
    split
    · rw [List.filter_cons, List.filter_cons, ih]
    · split
      · rename_i h1 h2
        rw [List.filter_cons_of_neg (by simp [hg]), List.filter_cons_of_neg (by simp [h x (List.mem_cons_self ..) h2])]
      · rw [List.filter_cons_of_neg (by simp [hg])]
theorem putR_sub (hg : g e = false) : ∀ {M : List Rt}, ((putR e M).filter g).Sublist (M.filter g)
  | [] => by simp [putR, hg]
  | x :: l => by
    have ih := putR_sub (M := l) hg
    unfold putR
    split
    · rw [List.filter_cons, List.filter_cons]
      split
      · exact ih.cons_cons _
      · exact ih
    · split
      · rw [List.filter_cons_of_neg (by simp [hg]), List.filter_cons]
        split
        · exact List.sublist_cons_self _ _
        · exact List.Sublist.refl _
      · rw [List.filter_cons_of_neg (by simp [hg])]
        exact List.Sublist.refl _
theorem putR_ge : ∀ {M : List Rt}, M.length ≤ (putR e M).length
  | [] => Nat.zero_le _
  | x :: l => by
    have := putR_ge (M := l)
    unfold putR
    split
    · simp only [List.length_cons]; omega
    · split <;> simp only [List.length_cons] <;> omega
theorem nlC_key (x y : S60) : nlC (keyS x) (keyS y) = nlC x y := by unfold nlC; rw [keyS_key, keyS_key]
def pP (p : Int) (r : Rt) : Bool := decide (r.peer = p)
def fP (p : Int) (r : Rt) : Bool := decide (r.peer = p) && !r.stale
def sP (p : Int) (r : Rt) : Bool := decide (r.peer = p) && r.stale
structure RsI (p : Int) (oth st : Nat) (M last : List Rt) : Prop where
  last : last = M.filter (fP p)
  oth : (M.filter (keepD p)).length = oth
  s1 : (M.filter (sP p)).length ≤ st
  s2 : st ≤ (M.filter (pP p)).length
theorem parts (p : Int) : ∀ M : List Rt, (M.filter (keepD p)).length + (M.filter (pP p)).length = M.length ∧ (M.filter (sP p)).length + (M.filter (fP p)).length = (M.filter (pP p)).length ∧ (M.filter (keepD p)).length + (M.filter (fP p)).length = (M.filter (keepS p)).length
  | [] => by simp
  | x :: l => by
    have ih := parts p l
    simp only [List.filter_cons]
    by_cases h : x.peer = p <;> cases h2 : x.stale <;> simp [keepD, pP, sP, fP, keepS, h, h2] <;> omega
theorem RsI.start (p : Int) (M : List Rt) : RsI p (M.filter (keepD p)).length (M.filter (pP p)).length (M.map (stlR p)) [] := by
  have h1 : ∀ x : Rt, keepD p (stlR p x) = keepD p x ∧ pP p (stlR p x) = pP p x ∧ fP p (stlR p x) = false ∧ sP p (stlR p x) = pP p x := fun x => by
    unfold stlR
    by_cases h : x.peer = p
    · rw [if_pos h]; simp [keepD, pP, fP, sP, h]
    · rw [if_neg h]; simp [keepD, pP, fP, sP, h]
  refine ⟨?_, ?_, ?_, ?_⟩
  · symm
    rw [List.filter_eq_nil_iff]
    intro x hx
    obtain ⟨y, _, rfl⟩ := List.mem_map.1 hx
    rw [(h1 y).2.2.1]; decide
  · rw [List.filter_map, List.length_map]
    congr 1
    exact List.filter_congr fun x _ => (h1 x).1
  · rw [List.filter_map, List.length_map]
    exact Nat.le_of_eq (by congr 1; exact List.filter_congr fun x _ => (h1 x).2.2.2)
  · rw [List.filter_map, List.length_map]
    exact Nat.le_of_eq (by congr 1; exact List.filter_congr fun x _ => (h1 x).2.1.symm)
theorem RsI.put {oth st : Nat} {last : List Rt} {r : Rt} (h : RsI p oth st M last) (hs : SrtR M) (hv : ∀ x ∈ M, okR x) (hr : okP (plc r)) (hp : r.peer = p) (ht : r.stale = false) : RsI p oth st (putR r M) (putR r last) := by
  have hf : fP p r = true := by simp [fP, hp, ht]
  have hd : keepD p r = false := by simp [keepD, hp]
  have hsp : sP p r = false := by simp [sP, ht]
  have hpp : pP p r = true := by simp [pP, hp]
  refine ⟨?_, ?_, ?_, ?_⟩
  · rw [putR_filter hf hs, h.last]
  · rw [putR_filterN hd fun x hx e => ?_, h.oth]
    have := rkP_inj (hv x hx).pl hr e
    have := congrArg Pk.peer this
    have h2 : x.peer = p := by rw [← hp]; exact this
    simp [keepD, h2]
  · exact Nat.le_trans (putR_sub hsp).length_le h.s1
  · rw [putR_filter hpp hs]
    exact Nat.le_trans h.s2 putR_ge
theorem RsI.fin {oth st : Nat} {last : List Rt} (h : RsI p oth st M last) : (M.filter (keepS p)).filter (pP p) = last ∧ (M.filter (keepS p)).length = oth + last.length ∧ (M.length : Int) - ((M.filter (keepS p)).length : Int) ≤ st ∧ (st : Int) - last.length ≤ (M.length : Int) - ((M.filter (keepS p)).length : Int) := by
  obtain ⟨p1, p2, p3⟩ := parts p M
  have h1 := h.oth
  have h2 := h.s1
  have h3 := h.s2
  have h4 : last.length = (M.filter (fP p)).length := by rw [h.last]
  refine ⟨?_, by omega, by omega, by omega⟩
  rw [List.filter_filter, h.last]
  refine List.filter_congr fun x _ => ?_
  simp only [pP, keepS, fP]
  cases decide (x.peer = p) <;> cases x.stale <;> rfl
end Go.Proofs.YtphadapcafibpaaGreat.Abs

/- What is read of the arguments; the contract of the closed examples (printed by gentz.py). -/
namespace Go.Proofs.YtphadapcafibpaaGreat.Abs
open Go Go.RowKit
set_option linter.unusedVariables false
set_option maxRecDepth 100000
set_option maxHeartbeats 2000000
theorem livesRun : acall (cell0 Tryz.prog) ansB 60 7 [] st0 isTrue = true := by kernel_rfl
theorem extOk [Tok] (B0 : Nat) (old : Nat → Option (List Value)) : ExtOk (cx B0 old) := by
  intro f args v h0
  have h : extS f args = some v := h0
  clear h0
  unfold extS at h
  split at h
  · rename_i e
    have e := Nat.eq_of_beq_eq_true e
    subst e
    cases h
    refine ⟨rfl, fun φ N args' w ha => ?_⟩
    cases ha
    exact closedX 60 7 livesRun w
  · cases h
theorem wfz_i64 {n : Int} (h : (Lit.int .i64 n).wf = true) : -9223372036854775808 ≤ n ∧ n ≤ 9223372036854775807 := by
  simp [Lit.wf, IntKind.min, IntKind.max, IntKind.signed, IntKind.bits] at h; omega
theorem wfz_u64 {n : Int} (h : (Lit.int .u64 n).wf = true) : 0 ≤ n ∧ n ≤ 18446744073709551615 := by
  simp [Lit.wf, IntKind.min, IntKind.max, IntKind.signed, IntKind.bits] at h; omega
theorem wfz_u32 {n : Int} (h : (Lit.int .u32 n).wf = true) : 0 ≤ n ∧ n ≤ 4294967295 := by
  simp [Lit.wf, IntKind.min, IntKind.max, IntKind.signed, IntKind.bits] at h; omega
theorem wfz_u8 {n : Int} (h : (Lit.int .u8 n).wf = true) : 0 ≤ n ∧ n ≤ 255 := by
  simp [Lit.wf, IntKind.min, IntKind.max, IntKind.signed, IntKind.bits] at h; omega
theorem lv37 : leaves Tryz.prog 10 37 = some [37] := by kernel_rfl
theorem lv39 : leaves Tryz.prog 10 39 = some [39] := by kernel_rfl
theorem lv114 : leaves Tryz.prog 10 114 = some [5, 5, 5, 5, 5, 5, 5, 5] := by kernel_rfl
theorem lv52 : leaves Tryz.prog 10 52 = some [3, 34, 5, 5, 5, 5, 5, 5, 5, 5, 5, 5, 37, 38, 39, 4, 39, 3, 39, 37, 37, 3, 44, 39, 4, 37, 4, 37, 4, 39, 45, 46, 3, 37, 39, 39, 39, 4] := by kernel_rfl
theorem lv54 : leaves Tryz.prog 10 54 = some [3, 3, 34, 5, 5, 5, 5, 5, 5, 5, 5, 5, 5, 37, 38, 39, 4, 39, 3, 39, 37, 37, 3, 44, 39, 4, 37, 4, 37, 4, 39, 45, 46, 3, 37, 39, 39, 39, 4] := by kernel_rfl
section
variable {H : Type} {enc : TypeId × Value → H} {W : World} {base : Nat} {spare : Nat → Bool} {held : Bool}
theorem u32_read {hs fuel : Nat} {cs : List Value} {x : DataW H × List MemPlace} (h : DataW.trod enc Tryz.prog W base spare held fuel 37 cs = some x) : cs.length = 1 ∧ ∃ p : Int, cs.map (normV hs) = enU p ∧ True := by
  have hh := leaves_ok 10 37 _ lv37 _ _ _ h
  refine ⟨hh.1, ?_⟩
  obtain ⟨v0, cs0, rfl, l0, h0⟩ := LeafOk.next hh
  obtain rfl := LeafOk.done h0
  obtain ⟨n0, rfl, w0⟩ := leaf_int (k := .u32) Tryz.underlying37 l0
  exact ⟨n0, rfl, trivial⟩
theorem ip_read {hs fuel : Nat} {cs : List Value} {x : DataW H × List MemPlace} (h : DataW.trod enc Tryz.prog W base spare held fuel 39 cs = some x) : cs.length = 1 ∧ ∃ p : Int, cs.map (normV hs) = enU p ∧ True := by
  have hh := leaves_ok 10 39 _ lv39 _ _ _ h
  refine ⟨hh.1, ?_⟩
  obtain ⟨v0, cs0, rfl, l0, h0⟩ := LeafOk.next hh
  obtain rfl := LeafOk.done h0
  obtain ⟨n0, rfl, w0⟩ := leaf_int (k := .u32) Tryz.underlying39 l0
  exact ⟨n0, rfl, trivial⟩
theorem comm_read {hs fuel : Nat} {cs : List Value} {x : DataW H × List MemPlace} (h : DataW.trod enc Tryz.prog W base spare held fuel 114 cs = some x) : cs.length = 8 ∧ ∃ p : C8, cs.map (normV hs) = enC p ∧ True := by
  have hh := leaves_ok 10 114 _ lv114 _ _ _ h
  refine ⟨hh.1, ?_⟩
  obtain ⟨v0, cs0, rfl, l0, h0⟩ := LeafOk.next hh
  obtain ⟨v1, cs1, rfl, l1, h1⟩ := LeafOk.next h0
  obtain ⟨v2, cs2, rfl, l2, h2⟩ := LeafOk.next h1
  obtain ⟨v3, cs3, rfl, l3, h3⟩ := LeafOk.next h2
  obtain ⟨v4, cs4, rfl, l4, h4⟩ := LeafOk.next h3
  obtain ⟨v5, cs5, rfl, l5, h5⟩ := LeafOk.next h4
  obtain ⟨v6, cs6, rfl, l6, h6⟩ := LeafOk.next h5
  obtain ⟨v7, cs7, rfl, l7, h7⟩ := LeafOk.next h6
  obtain rfl := LeafOk.done h7
  obtain ⟨n0, rfl, w0⟩ := leaf_int (k := .u8) Tryz.underlying5 l0
  obtain ⟨n1, rfl, w1⟩ := leaf_int (k := .u8) Tryz.underlying5 l1
  obtain ⟨n2, rfl, w2⟩ := leaf_int (k := .u8) Tryz.underlying5 l2
  obtain ⟨n3, rfl, w3⟩ := leaf_int (k := .u8) Tryz.underlying5 l3
  obtain ⟨n4, rfl, w4⟩ := leaf_int (k := .u8) Tryz.underlying5 l4
  obtain ⟨n5, rfl, w5⟩ := leaf_int (k := .u8) Tryz.underlying5 l5
  obtain ⟨n6, rfl, w6⟩ := leaf_int (k := .u8) Tryz.underlying5 l6
  obtain ⟨n7, rfl, w7⟩ := leaf_int (k := .u8) Tryz.underlying5 l7
  exact ⟨⟨n0, n1, n2, n3, n4, n5, n6, n7⟩, rfl, trivial⟩
theorem route_readW {fuel : Nat} {cs : List Value} {x : DataW H × List MemPlace} (h : DataW.trod enc Tryz.prog W 0 spare held fuel 52 cs = some x) : cs.length = 38 ∧ ∃ r : Rw, cs.map (normV W.heap.size) = enW r ∧ okAc (cx (W.heap.size + 1) (oldW W)) [] ⟨0, r⟩ := by
  have hh := leaves_ok 10 52 _ lv52 _ _ _ h
  clear h
  refine ⟨hh.1, ?_⟩
  obtain ⟨v0, cs0, rfl, l0, h0⟩ := LeafOk.next hh
  obtain ⟨v1, cs1, rfl, l1, h1⟩ := LeafOk.next h0
  obtain ⟨v2, cs2, rfl, l2, h2⟩ := LeafOk.next h1
  obtain ⟨v3, cs3, rfl, l3, h3⟩ := LeafOk.next h2
  obtain ⟨v4, cs4, rfl, l4, h4⟩ := LeafOk.next h3
  obtain ⟨v5, cs5, rfl, l5, h5⟩ := LeafOk.next h4
  obtain ⟨v6, cs6, rfl, l6, h6⟩ := LeafOk.next h5
  obtain ⟨v7, cs7, rfl, l7, h7⟩ := LeafOk.next h6
  obtain ⟨v8, cs8, rfl, l8, h8⟩ := LeafOk.next h7
  obtain ⟨v9, cs9, rfl, l9, h9⟩ := LeafOk.next h8
  obtain ⟨v10, cs10, rfl, l10, h10⟩ := LeafOk.next h9
  obtain ⟨v11, cs11, rfl, l11, h11⟩ := LeafOk.next h10
  obtain ⟨v12, cs12, rfl, l12, h12⟩ := LeafOk.next h11
  obtain ⟨v13, cs13, rfl, l13, h13⟩ := LeafOk.next h12
  obtain ⟨v14, cs14, rfl, l14, h14⟩ := LeafOk.next h13
  obtain ⟨v15, cs15, rfl, l15, h15⟩ := LeafOk.next h14
  obtain ⟨v16, cs16, rfl, l16, h16⟩ := LeafOk.next h15
  obtain ⟨v17, cs17, rfl, l17, h17⟩ := LeafOk.next h16
  obtain ⟨v18, cs18, rfl, l18, h18⟩ := LeafOk.next h17
  obtain ⟨v19, cs19, rfl, l19, h19⟩ := LeafOk.next h18
  obtain ⟨v20, cs20, rfl, l20, h20⟩ := LeafOk.next h19
  obtain ⟨v21, cs21, rfl, l21, h21⟩ := LeafOk.next h20
  obtain ⟨v22, cs22, rfl, l22, h22⟩ := LeafOk.next h21
  obtain ⟨v23, cs23, rfl, l23, h23⟩ := LeafOk.next h22
  obtain ⟨v24, cs24, rfl, l24, h24⟩ := LeafOk.next h23
  obtain ⟨v25, cs25, rfl, l25, h25⟩ := LeafOk.next h24
  obtain ⟨v26, cs26, rfl, l26, h26⟩ := LeafOk.next h25
  obtain ⟨v27, cs27, rfl, l27, h27⟩ := LeafOk.next h26
  obtain ⟨v28, cs28, rfl, l28, h28⟩ := LeafOk.next h27
  obtain ⟨v29, cs29, rfl, l29, h29⟩ := LeafOk.next h28
  obtain ⟨v30, cs30, rfl, l30, h30⟩ := LeafOk.next h29
  obtain ⟨v31, cs31, rfl, l31, h31⟩ := LeafOk.next h30
  obtain ⟨v32, cs32, rfl, l32, h32⟩ := LeafOk.next h31
  obtain ⟨v33, cs33, rfl, l33, h33⟩ := LeafOk.next h32
  obtain ⟨v34, cs34, rfl, l34, h34⟩ := LeafOk.next h33
  obtain ⟨v35, cs35, rfl, l35, h35⟩ := LeafOk.next h34
  obtain ⟨v36, cs36, rfl, l36, h36⟩ := LeafOk.next h35
  obtain ⟨v37, cs37, rfl, l37, h37⟩ := LeafOk.next h36
  obtain rfl := LeafOk.done h37
  obtain ⟨n0, rfl, w0⟩ := leaf_int (k := .i64) Tryz.underlying3 l0
  obtain ⟨n1, rfl, w1⟩ := leaf_int (k := .u64) Tryz.underlying34 l1
  obtain ⟨n2, rfl, w2⟩ := leaf_int (k := .u8) Tryz.underlying5 l2
  obtain ⟨n3, rfl, w3⟩ := leaf_int (k := .u8) Tryz.underlying5 l3
  obtain ⟨n4, rfl, w4⟩ := leaf_int (k := .u8) Tryz.underlying5 l4
  obtain ⟨n5, rfl, w5⟩ := leaf_int (k := .u8) Tryz.underlying5 l5
  obtain ⟨n6, rfl, w6⟩ := leaf_int (k := .u8) Tryz.underlying5 l6
  obtain ⟨n7, rfl, w7⟩ := leaf_int (k := .u8) Tryz.underlying5 l7
  obtain ⟨n8, rfl, w8⟩ := leaf_int (k := .u8) Tryz.underlying5 l8
  obtain ⟨n9, rfl, w9⟩ := leaf_int (k := .u8) Tryz.underlying5 l9
  obtain ⟨n10, rfl, w10⟩ := leaf_int (k := .u8) Tryz.underlying5 l10
  obtain ⟨n11, rfl, w11⟩ := leaf_int (k := .u8) Tryz.underlying5 l11
  obtain ⟨n12, rfl, w12⟩ := leaf_int (k := .u32) Tryz.underlying37 l12
  obtain ⟨n13, rfl, w13⟩ := leaf_int (k := .u64) Tryz.underlying38 l13
  obtain ⟨n14, rfl, w14⟩ := leaf_int (k := .u32) Tryz.underlying39 l14
  obtain ⟨n15, rfl⟩ := leaf_bool Tryz.underlying4 l15
  obtain ⟨n16, rfl, w16⟩ := leaf_int (k := .u32) Tryz.underlying39 l16
  obtain ⟨n17, rfl, w17⟩ := leaf_int (k := .i64) Tryz.underlying3 l17
  obtain ⟨n18, rfl, w18⟩ := leaf_int (k := .u32) Tryz.underlying39 l18
  obtain ⟨n19, rfl, w19⟩ := leaf_int (k := .u32) Tryz.underlying37 l19
  obtain ⟨n20, rfl, w20⟩ := leaf_int (k := .u32) Tryz.underlying37 l20
  obtain ⟨n21, rfl, w21⟩ := leaf_int (k := .i64) Tryz.underlying3 l21
  obtain ⟨a22, c22, L22, e22, g22, m22, ar22, _⟩ := arr_read (C := cx (W.heap.size + 1) (oldW W)) (k := 1) (en := enU) (Pr := fun _ => True) rfl (fun _ => rfl) Tryz.underlying44 (by kernel_rfl) (by decide) (fun cs m y h => u32_read h) l22
  obtain ⟨n23, rfl, w23⟩ := leaf_int (k := .u32) Tryz.underlying39 l23
  obtain ⟨n24, rfl⟩ := leaf_bool Tryz.underlying4 l24
  obtain ⟨n25, rfl, w25⟩ := leaf_int (k := .u32) Tryz.underlying37 l25
  obtain ⟨n26, rfl⟩ := leaf_bool Tryz.underlying4 l26
  obtain ⟨n27, rfl, w27⟩ := leaf_int (k := .u32) Tryz.underlying37 l27
  obtain ⟨n28, rfl⟩ := leaf_bool Tryz.underlying4 l28
  obtain ⟨n29, rfl, w29⟩ := leaf_int (k := .u32) Tryz.underlying39 l29
  obtain ⟨a30, c30, L30, e30, g30, m30, ar30, _⟩ := arr_read (C := cx (W.heap.size + 1) (oldW W)) (k := 1) (en := enU) (Pr := fun _ => True) rfl (fun _ => rfl) Tryz.underlying45 (by kernel_rfl) (by decide) (fun cs m y h => ip_read h) l30
  obtain ⟨a31, c31, L31, e31, g31, m31, ar31, _⟩ := arr_read (C := cx (W.heap.size + 1) (oldW W)) (k := 8) (en := enC) (Pr := fun _ => True) rfl (fun _ => rfl) Tryz.underlying46 (by kernel_rfl) (by decide) (fun cs m y h => comm_read h) l31
  obtain ⟨n32, rfl, w32⟩ := leaf_int (k := .i64) Tryz.underlying3 l32
  obtain ⟨n33, rfl, w33⟩ := leaf_int (k := .u32) Tryz.underlying37 l33
  obtain ⟨n34, rfl, w34⟩ := leaf_int (k := .u32) Tryz.underlying39 l34
  obtain ⟨n35, rfl, w35⟩ := leaf_int (k := .u32) Tryz.underlying39 l35
  obtain ⟨n36, rfl, w36⟩ := leaf_int (k := .u32) Tryz.underlying39 l36
  obtain ⟨n37, rfl⟩ := leaf_bool Tryz.underlying4 l37
  refine ⟨⟨⟨⟨n0, n1, n2, n3, n4, n5, n6, n7, n8, n9, n10, n11, n12, n13, n14, n15, n16, n17, n18, n19, n20⟩, ⟨n21, L22, n23, n24, n25, n26, n27, n28, n29, L30, L31, n32, n33, n34, n35⟩, n36, n37⟩, a22, c22, a30, c30, a31, c31⟩, ?_, ⟨⟨wfz_i64 w0, wfz_u64 w1, wfz_u8 w2, wfz_u8 w3, wfz_u8 w4, wfz_u8 w5, wfz_u8 w6, wfz_u8 w7, wfz_u8 w8, wfz_u8 w9, wfz_u8 w10, wfz_u8 w11, wfz_u32 w12, wfz_u64 w13, wfz_u32 w14, wfz_u32 w16, wfz_i64 w17, wfz_u32 w18, wfz_u32 w19, wfz_u32 w20⟩, wfz_u32 w36, ⟨ar22.toW, ar30.toW, ar31.toW⟩⟩⟩
  simp only [List.map_cons, List.map_nil, e22, e30, e31]
  rfl
theorem act_readW {fuel : Nat} {cs : List Value} {x : DataW H × List MemPlace} (h : DataW.trod enc Tryz.prog W 0 spare held fuel 54 cs = some x) : cs.length = 39 ∧ ∃ r : Ac, cs.map (normV W.heap.size) = enAc r ∧ okAc (cx (W.heap.size + 1) (oldW W)) [] r := by
  have hh := leaves_ok 10 54 _ lv54 _ _ _ h
  clear h
  refine ⟨hh.1, ?_⟩
  obtain ⟨v0, cs0, rfl, l0, h0⟩ := LeafOk.next hh
  obtain ⟨v1, cs1, rfl, l1, h1⟩ := LeafOk.next h0
  obtain ⟨v2, cs2, rfl, l2, h2⟩ := LeafOk.next h1
  obtain ⟨v3, cs3, rfl, l3, h3⟩ := LeafOk.next h2
  obtain ⟨v4, cs4, rfl, l4, h4⟩ := LeafOk.next h3
  obtain ⟨v5, cs5, rfl, l5, h5⟩ := LeafOk.next h4
  obtain ⟨v6, cs6, rfl, l6, h6⟩ := LeafOk.next h5
  obtain ⟨v7, cs7, rfl, l7, h7⟩ := LeafOk.next h6
  obtain ⟨v8, cs8, rfl, l8, h8⟩ := LeafOk.next h7
  obtain ⟨v9, cs9, rfl, l9, h9⟩ := LeafOk.next h8
  obtain ⟨v10, cs10, rfl, l10, h10⟩ := LeafOk.next h9
  obtain ⟨v11, cs11, rfl, l11, h11⟩ := LeafOk.next h10
  obtain ⟨v12, cs12, rfl, l12, h12⟩ := LeafOk.next h11
  obtain ⟨v13, cs13, rfl, l13, h13⟩ := LeafOk.next h12
  obtain ⟨v14, cs14, rfl, l14, h14⟩ := LeafOk.next h13
  obtain ⟨v15, cs15, rfl, l15, h15⟩ := LeafOk.next h14
  obtain ⟨v16, cs16, rfl, l16, h16⟩ := LeafOk.next h15
  obtain ⟨v17, cs17, rfl, l17, h17⟩ := LeafOk.next h16
  obtain ⟨v18, cs18, rfl, l18, h18⟩ := LeafOk.next h17
  obtain ⟨v19, cs19, rfl, l19, h19⟩ := LeafOk.next h18
  obtain ⟨v20, cs20, rfl, l20, h20⟩ := LeafOk.next h19
  obtain ⟨v21, cs21, rfl, l21, h21⟩ := LeafOk.next h20
  obtain ⟨v22, cs22, rfl, l22, h22⟩ := LeafOk.next h21
  obtain ⟨v23, cs23, rfl, l23, h23⟩ := LeafOk.next h22
  obtain ⟨v24, cs24, rfl, l24, h24⟩ := LeafOk.next h23
  obtain ⟨v25, cs25, rfl, l25, h25⟩ := LeafOk.next h24
  obtain ⟨v26, cs26, rfl, l26, h26⟩ := LeafOk.next h25
  obtain ⟨v27, cs27, rfl, l27, h27⟩ := LeafOk.next h26
  obtain ⟨v28, cs28, rfl, l28, h28⟩ := LeafOk.next h27
  obtain ⟨v29, cs29, rfl, l29, h29⟩ := LeafOk.next h28
  obtain ⟨v30, cs30, rfl, l30, h30⟩ := LeafOk.next h29
  obtain ⟨v31, cs31, rfl, l31, h31⟩ := LeafOk.next h30
  obtain ⟨v32, cs32, rfl, l32, h32⟩ := LeafOk.next h31
  obtain ⟨v33, cs33, rfl, l33, h33⟩ := LeafOk.next h32
  obtain ⟨v34, cs34, rfl, l34, h34⟩ := LeafOk.next h33
  obtain ⟨v35, cs35, rfl, l35, h35⟩ := LeafOk.next h34
  obtain ⟨v36, cs36, rfl, l36, h36⟩ := LeafOk.next h35
  obtain ⟨v37, cs37, rfl, l37, h37⟩ := LeafOk.next h36
  obtain ⟨v38, cs38, rfl, l38, h38⟩ := LeafOk.next h37
  obtain rfl := LeafOk.done h38
  obtain ⟨n0, rfl, w0⟩ := leaf_int (k := .i64) Tryz.underlying3 l0
  obtain ⟨n1, rfl, w1⟩ := leaf_int (k := .i64) Tryz.underlying3 l1
  obtain ⟨n2, rfl, w2⟩ := leaf_int (k := .u64) Tryz.underlying34 l2
  obtain ⟨n3, rfl, w3⟩ := leaf_int (k := .u8) Tryz.underlying5 l3
  obtain ⟨n4, rfl, w4⟩ := leaf_int (k := .u8) Tryz.underlying5 l4
  obtain ⟨n5, rfl, w5⟩ := leaf_int (k := .u8) Tryz.underlying5 l5
  obtain ⟨n6, rfl, w6⟩ := leaf_int (k := .u8) Tryz.underlying5 l6
  obtain ⟨n7, rfl, w7⟩ := leaf_int (k := .u8) Tryz.underlying5 l7
  obtain ⟨n8, rfl, w8⟩ := leaf_int (k := .u8) Tryz.underlying5 l8
  obtain ⟨n9, rfl, w9⟩ := leaf_int (k := .u8) Tryz.underlying5 l9
  obtain ⟨n10, rfl, w10⟩ := leaf_int (k := .u8) Tryz.underlying5 l10
  obtain ⟨n11, rfl, w11⟩ := leaf_int (k := .u8) Tryz.underlying5 l11
  obtain ⟨n12, rfl, w12⟩ := leaf_int (k := .u8) Tryz.underlying5 l12
  obtain ⟨n13, rfl, w13⟩ := leaf_int (k := .u32) Tryz.underlying37 l13
  obtain ⟨n14, rfl, w14⟩ := leaf_int (k := .u64) Tryz.underlying38 l14
  obtain ⟨n15, rfl, w15⟩ := leaf_int (k := .u32) Tryz.underlying39 l15
  obtain ⟨n16, rfl⟩ := leaf_bool Tryz.underlying4 l16
  obtain ⟨n17, rfl, w17⟩ := leaf_int (k := .u32) Tryz.underlying39 l17
  obtain ⟨n18, rfl, w18⟩ := leaf_int (k := .i64) Tryz.underlying3 l18
  obtain ⟨n19, rfl, w19⟩ := leaf_int (k := .u32) Tryz.underlying39 l19
  obtain ⟨n20, rfl, w20⟩ := leaf_int (k := .u32) Tryz.underlying37 l20
  obtain ⟨n21, rfl, w21⟩ := leaf_int (k := .u32) Tryz.underlying37 l21
  obtain ⟨n22, rfl, w22⟩ := leaf_int (k := .i64) Tryz.underlying3 l22
  obtain ⟨a23, c23, L23, e23, g23, m23, ar23, _⟩ := arr_read (C := cx (W.heap.size + 1) (oldW W)) (k := 1) (en := enU) (Pr := fun _ => True) rfl (fun _ => rfl) Tryz.underlying44 (by kernel_rfl) (by decide) (fun cs m y h => u32_read h) l23
  obtain ⟨n24, rfl, w24⟩ := leaf_int (k := .u32) Tryz.underlying39 l24
  obtain ⟨n25, rfl⟩ := leaf_bool Tryz.underlying4 l25
  obtain ⟨n26, rfl, w26⟩ := leaf_int (k := .u32) Tryz.underlying37 l26
  obtain ⟨n27, rfl⟩ := leaf_bool Tryz.underlying4 l27
  obtain ⟨n28, rfl, w28⟩ := leaf_int (k := .u32) Tryz.underlying37 l28
  obtain ⟨n29, rfl⟩ := leaf_bool Tryz.underlying4 l29
  obtain ⟨n30, rfl, w30⟩ := leaf_int (k := .u32) Tryz.underlying39 l30
  obtain ⟨a31, c31, L31, e31, g31, m31, ar31, _⟩ := arr_read (C := cx (W.heap.size + 1) (oldW W)) (k := 1) (en := enU) (Pr := fun _ => True) rfl (fun _ => rfl) Tryz.underlying45 (by kernel_rfl) (by decide) (fun cs m y h => ip_read h) l31
  obtain ⟨a32, c32, L32, e32, g32, m32, ar32, _⟩ := arr_read (C := cx (W.heap.size + 1) (oldW W)) (k := 8) (en := enC) (Pr := fun _ => True) rfl (fun _ => rfl) Tryz.underlying46 (by kernel_rfl) (by decide) (fun cs m y h => comm_read h) l32
  obtain ⟨n33, rfl, w33⟩ := leaf_int (k := .i64) Tryz.underlying3 l33
  obtain ⟨n34, rfl, w34⟩ := leaf_int (k := .u32) Tryz.underlying37 l34
  obtain ⟨n35, rfl, w35⟩ := leaf_int (k := .u32) Tryz.underlying39 l35
  obtain ⟨n36, rfl, w36⟩ := leaf_int (k := .u32) Tryz.underlying39 l36
  obtain ⟨n37, rfl, w37⟩ := leaf_int (k := .u32) Tryz.underlying39 l37
  obtain ⟨n38, rfl⟩ := leaf_bool Tryz.underlying4 l38
  refine ⟨⟨n0, ⟨⟨⟨n1, n2, n3, n4, n5, n6, n7, n8, n9, n10, n11, n12, n13, n14, n15, n16, n17, n18, n19, n20, n21⟩, ⟨n22, L23, n24, n25, n26, n27, n28, n29, n30, L31, L32, n33, n34, n35, n36⟩, n37, n38⟩, a23, c23, a31, c31, a32, c32⟩⟩, ?_, ⟨⟨wfz_i64 w1, wfz_u64 w2, wfz_u8 w3, wfz_u8 w4, wfz_u8 w5, wfz_u8 w6, wfz_u8 w7, wfz_u8 w8, wfz_u8 w9, wfz_u8 w10, wfz_u8 w11, wfz_u8 w12, wfz_u32 w13, wfz_u64 w14, wfz_u32 w15, wfz_u32 w17, wfz_i64 w18, wfz_u32 w19, wfz_u32 w20, wfz_u32 w21⟩, wfz_u32 w37, ⟨ar23.toW, ar31.toW, ar32.toW⟩⟩⟩
  simp only [List.map_cons, List.map_nil, e23, e31, e32]
  rfl
end
end Go.Proofs.YtphadapcafibpaaGreat.Abs

/- A call for one peer, in plain Lean. -/
namespace Go.Proofs.YtphadapcafibpaaGreat.Abs
open Go
set_option linter.unusedVariables false
end Go.Proofs.YtphadapcafibpaaGreat.Abs

/- Lists of keys: equal neighbours are left out; Same, Compact. -/
namespace Go.Proofs.YtphadapcafibpaaGreat.Abs
open Go
set_option linter.unusedVariables false
/-- Of equal neighbours the first. -/
def dd : List S60 → List S60
  | [] => []
  | [a] => [a]
  | a :: b :: l => if a = b then dd (b :: l) else a :: dd (b :: l)
theorem dd_snoc : ∀ (l : List S60) (y x : S60), dd (l ++ [y] ++ [x]) = if x = y then dd (l ++ [y]) else dd (l ++ [y]) ++ [x]
  | [], y, x => by
    show dd [y, x] = if x = y then dd [y] else dd [y] ++ [x]
    unfold dd
    by_cases h : y = x
    · subst h; simp [dd]
    · rw [if_neg h, if_neg fun e => h e.symm]; simp [dd]
  | [a], y, x => by
    have ih := dd_snoc [] y x
    show dd (a :: y :: [x]) = if x = y then dd (a :: [y]) else dd (a :: [y]) ++ [x]
    simp only [List.nil_append, List.cons_append] at ih
    unfold dd
    by_cases h : a = y
    · rw [if_pos h, if_pos h]; exact ih
    · rw [if_neg h, if_neg h, ih]
      split <;> rfl
  | a :: b :: l, y, x => by
    have ih := dd_snoc (b :: l) y x
    simp only [List.cons_append] at ih ⊢
    unfold dd
    by_cases h : a = b
    · rw [if_pos h, if_pos h]; exact ih
    · rw [if_neg h, if_neg h, ih]
      split <;> rfl
theorem dd_len : ∀ l : List S60, (dd l).length ≤ l.length
  | [] => Nat.le_refl _
  | [a] => Nat.le_refl _
  | a :: b :: l => by
    have := dd_len (b :: l)
    unfold dd
    split
    · exact Nat.le_succ_of_le this
    · simp only [List.length_cons] at this ⊢; omega
/-- A list's first elements, and one more. -/
theorem take_two {L : List S60} {i : Nat} {x y : S60} (hy : L[i]? = some y) (hx : L[i + 1]? = some x) : dd (L.take (i + 2)) = if x = y then dd (L.take (i + 1)) else dd (L.take (i + 1)) ++ [x] := by
  have e1 : L.take (i + 1) = L.take i ++ [y] := by rw [List.take_add_one, hy]; rfl
  have e2 : L.take (i + 2) = L.take i ++ [y] ++ [x] := by rw [List.take_add_one, hx, e1]; rfl
  rw [e2, dd_snoc, e1]
/-- A list of keys that is read. -/
def RsK (C : Ctx) (H : Hp) (K : List S60) (v : Value) : Prop := ∃ ad c, v = .slice ad K.length c ∧ ArrW C H ad 21 en60 K
theorem RsK.weak {C : Ctx} {H H' : Hp} {K : List S60} {v : Value} (h : RsK C H K v) (hs : H.Sublist H') : RsK C H' K v := let ⟨ad, c, h1, h2⟩ := h; ⟨ad, c, h1, h2.weak hs⟩
theorem flz (n : Nat) : (List.replicate n zS).flatMap en60 = (List.replicate n (en60 zS)).flatten := by rw [List.flatMap_def, List.map_replicate]
section
variable {B0 : Nat} {old : Nat → Option (List Value)} {n : Nat} {H : Hp} {Q : Value → Hp → Prop}
set_option maxRecDepth 10000
set_option maxHeartbeats 16000000
theorem same31_ct {L M : List S60} {v w : Value} (h1' : RsK (cx B0 old) H L v) (h2' : RsK (cx B0 old) H M w) (hl : L.length ≤ 100000) (hQ : ∀ t : Bool, (t = true ↔ L = M) → Q (.bool t) H) :
    CallT (cx B0 old) (acall (cx B0 old) ansP (n + 1)) 31 [v, w] H Q := by
  obtain ⟨ad, c, rfl, h1⟩ := h1'
  obtain ⟨ad2, c2, rfl, h2⟩ := h2'
  have hyes : L = M → Q (.bool true) H := fun e => hQ true ⟨fun _ => e, fun _ => rfl⟩
  have hno : L ≠ M → Q (.bool false) H := fun e => hQ false ⟨fun h => (by cases h), fun h => absurd h e⟩
  refine call_in2 26 rfl Tryz.func31 rfl rfl ?_
  repeat(first|refine Z0 ?_|(refine ZR ?_;first|refine x1 ?_|refine x2 ?_|refine x8 ?_|refine Z1 ?_|refine Z2 ?_|refine x3 fun _=>?_|refine x4 fun _=>?_|refine x5 fun _=>?_|refine Z3 fun _=>?_|refine Z4 fun _=>?_)|refine ZC ?_)
  by_cases hlen : L.length = M.length
  rotate_left
  · rw [show ((L.length : Int) != (M.length : Int)) = true from bne_iff_ne.2 (by omega)]
    repeat(first|refine Z0 ?_|(refine ZR ?_;first|refine x1 ?_|refine x2 ?_|refine x8 ?_|refine Z1 ?_|refine Z2 ?_|refine x3 fun _=>?_|refine x4 fun _=>?_|refine x5 fun _=>?_|refine Z3 fun _=>?_|refine Z4 fun _=>?_)|refine ZC ?_)
    exact re_1 rfl rfl (List.Sublist.refl _) (hno fun e => hlen (by rw [e]))
  rw [show ((L.length : Int) != (M.length : Int)) = false by rw [hlen]; exact bne_self_eq_false _]
  repeat(first|refine Z0 ?_|(refine ZR ?_;first|refine x1 ?_|refine x2 ?_|refine x8 ?_|refine Z1 ?_|refine Z2 ?_|refine x3 fun _=>?_|refine x4 fun _=>?_|refine x5 fun _=>?_|refine Z3 fun _=>?_|refine Z4 fun _=>?_)|refine ZC ?_)
  refine loop_ind (ι := Nat) 0 (fun i => L.length - i) (fun i => i ≤ L.length ∧ L.take i = M.take i) (fun i => [(5, .int .i64 (i : Int)), (0, .slice ad L.length c), (1, .slice ad2 M.length c2)]) (fun _ => H) ⟨Nat.zero_le _, rfl⟩ (by repeat(first|exact SubL.nil|refine SubL.cons rfl ?_)) (by exact drop_auto) ?_
  rintro i ⟨hi, htk⟩
  repeat(first|refine Z0 ?_|(refine ZR ?_;first|refine x1 ?_|refine x2 ?_|refine x8 ?_|refine Z1 ?_|refine Z2 ?_|refine x3 fun _=>?_|refine x4 fun _=>?_|refine x5 fun _=>?_|refine Z3 fun _=>?_|refine Z4 fun _=>?_)|refine ZC ?_)
  refine ct_condT te_d rfl (fun hc => ?_) (fun hc => ?_)
  · obtain ⟨x, hx⟩ : ∃ x, L[i]? = some x := ⟨_, List.getElem?_eq_getElem (by omega)⟩
    obtain ⟨y, hy⟩ : ∃ y, M[i]? = some y := ⟨_, List.getElem?_eq_getElem (by omega)⟩
    obtain ⟨b1, o1, e1, hL0⟩ := (h1.arr en60_len).ldW 43 hx rfl (sz rfl)
    obtain ⟨b2, o2, e2, hL1⟩ := (h2.arr en60_len).ldW 43 hy rfl (sz rfl)
    subst e1
    subst e2
    by_cases hxy : x = y
    · subst hxy
      have hs := leaf60 x
      unfold en60 at hL0 hL1 hs
      repeat(first|refine Z0 ?_|(refine ZR ?_;first|refine x1 ?_|refine x2 ?_|refine x8 ?_|refine Z1 ?_|refine Z2 ?_|refine x3 fun _=>?_|refine x4 fun _=>?_|refine x5 fun _=>?_|refine Z3 fun _=>?_|refine Z4 fun _=>?_)|refine ZC ?_)
      refine ct_draw (masks := [0, 0, 3, 7, 0, 0, 48, 112, 255]) (plan := [0, 1, 2, 3, 4, 5, 6, 7, 8]) (E := []) (by kernel_rfl) (by kernel_rfl) (by kernel_rfl) (by kernel_rfl) ?_
      repeat(first|refine Y0 ?_|(refine YP ?_;first|refine y1 ?_|refine y2 ?_|refine Y1 ?_|refine Y2 ?_))
      rw [hs]
      repeat(first|refine Y0 ?_|(refine YP ?_;first|refine y1 ?_|refine y2 ?_|refine Y1 ?_|refine Y2 ?_))
      repeat(first|refine Z0 ?_|(refine ZR ?_;first|refine x1 ?_|refine x2 ?_|refine x8 ?_|refine Z1 ?_|refine Z2 ?_|refine x3 fun _=>?_|refine x4 fun _=>?_|refine x5 fun _=>?_|refine Z3 fun _=>?_|refine Z4 fun _=>?_)|refine ZC ?_)
      refine ⟨i + 1, ⟨by omega, ?_⟩, by omega, by repeat(first|exact SubL.nil|refine SubL.cons rfl ?_), by exact drop_auto⟩
      rw [List.take_add_one, List.take_add_one, htk, hx, hy]
    · have hs := leaf60_ne hxy
      unfold en60 at hL0 hL1 hs
      repeat(first|refine Z0 ?_|(refine ZR ?_;first|refine x1 ?_|refine x2 ?_|refine x8 ?_|refine Z1 ?_|refine Z2 ?_|refine x3 fun _=>?_|refine x4 fun _=>?_|refine x5 fun _=>?_|refine Z3 fun _=>?_|refine Z4 fun _=>?_)|refine ZC ?_)
      refine ct_draw (masks := [0, 0, 3, 7, 0, 0, 48, 112, 255]) (plan := [0, 1, 2, 3, 4, 5, 6, 7, 8]) (E := []) (by kernel_rfl) (by kernel_rfl) (by kernel_rfl) (by kernel_rfl) ?_
      repeat(first|refine Y0 ?_|(refine YP ?_;first|refine y1 ?_|refine y2 ?_|refine Y1 ?_|refine Y2 ?_))
      rw [hs]
      repeat(first|refine Y0 ?_|(refine YP ?_;first|refine y1 ?_|refine y2 ?_|refine Y1 ?_|refine Y2 ?_))
      repeat(first|refine Z0 ?_|(refine ZR ?_;first|refine x1 ?_|refine x2 ?_|refine x8 ?_|refine Z1 ?_|refine Z2 ?_|refine x3 fun _=>?_|refine x4 fun _=>?_|refine x5 fun _=>?_|refine Z3 fun _=>?_|refine Z4 fun _=>?_)|refine ZC ?_)
      exact re_1 rfl rfl (by exact drop_auto) (hno fun e => hxy (by rw [e] at hx; exact Option.some.inj (hx.symm.trans hy)))
  · obtain rfl : i = L.length := by omega
    rw [List.take_length, List.take_of_length_le (by omega)] at htk
    repeat(first|refine Z0 ?_|(refine ZR ?_;first|refine x1 ?_|refine x2 ?_|refine x8 ?_|refine Z1 ?_|refine Z2 ?_|refine x3 fun _=>?_|refine x4 fun _=>?_|refine x5 fun _=>?_|refine Z3 fun _=>?_|refine Z4 fun _=>?_)|refine ZC ?_)
    exact re_1 rfl rfl (by exact drop_auto) (hyes htk)
end
end Go.Proofs.YtphadapcafibpaaGreat.Abs

/- Contract of Compact. -/
namespace Go.Proofs.YtphadapcafibpaaGreat.Abs
open Go
set_option linter.unusedVariables false
theorem en60_store (x y : S60) : storeRow (en60 x) 0 (en60 y) = some (en60 y) := by
  unfold storeRow
  rw [en60_one y, Nat.zero_add, en60_len, en60_len, Nat.ble_eq_true_of_le (Nat.le_refl _)]
  rw [List.drop_of_length_le (by rw [en60_len]; exact Nat.le_refl _), List.append_nil]; rfl
section
variable {C : Ctx} {hd : HH Prop} {l : Sl} {H H0 pre Hs : Hp} {x y : Operand} {Θ : Value → Hp → Prop} {α : Type} {en : α → List Value} {k N b es : Nat} {L : List α} {a : α} {junk : List Value} {t e st xt : TypeId}
/-- An element is appended within a capacity that is known. -/
theorem st_appF {by' c : Nat} {ad : Option Addr} (hl : ∀ x, (en x).length = k) (hone : ∀ q, (en q).all Value.oneCell' = true) (hx : evalL l x = some (.slice (some ⟨b, 0, none⟩) L.length N)) (hy : evalL l y = some (.slice ad 1 c)) (ht : appT C st xt = some (k, by'))
    (ha : ArrW C (pre ++ ([(b, .row (L.flatMap en ++ junk) es false)] ++ H0)) ad k en [a]) (hb : (2 * (L.length + 1) + 192) * (by' + 1) ≤ 281474976710656) (hN : N < EL) (hle : L.length + 1 ≤ N) (hj : k ≤ junk.length)
    (hk : Θ (.slice (some ⟨b, 0, none⟩) (L.length + 1) N) (pre ++ ([(b, .row ((L ++ [a]).flatMap en ++ junk.drop k) es false)] ++ H0))) :
    StepT C hd (.call { callee := .builtin .append, args := #[x, y], argTypes := #[st, xt] }) l (pre ++ ([(b, .row (L.flatMap en ++ junk) es false)] ++ H0)) Θ := by
  have hone' : (([a] : List α).flatMap en).all Value.oneCell' = true := one_flat hone
  have hla : (([a] : List α).flatMap en).length = k := by rw [flat_length hl]; simp
  refine st_W (cov2 hx hy) rfl (fun _ => rfl) rfl fun s hm => ?_
  have hsrc := ha.src (c := c) (by simp)
  have hlL : (L.flatMap en).length = L.length * k := flat_length hl L
  have run : aappend C s st xt (rhoL l x) (rhoL l y) = appendTo C s k by' 1 ([a].flatMap en) (.slice (some ⟨b, 0, none⟩) L.length N) := by
    rw [rhoL_eq hx, rhoL_eq hy]
    exact aappend_is (n := 1) ht hsrc hm (by decide) hone'
  show ∃ v' H' s', aappend C s st xt (rhoL l x) (rhoL l y) = some (v', s') ∧ MS C H' s' ∧ Θ v' H'
  rw [run]
  obtain ⟨g1, g2, g3⟩ := hm.has b _ hm_mid
  have hst : storeRow (L.flatMap en ++ junk) (0 + L.length * k) ([a].flatMap en) = some ((L ++ [a]).flatMap en ++ junk.drop k) := by
    have e1 : Nat.ble (0 + L.length * k + ([a].flatMap en).length) (L.flatMap en ++ junk).length = true := Nat.ble_eq_true_of_le (by rw [hla, List.length_append, hlL]; omega)
    simp only [storeRow, e1, hone']
    rw [Nat.zero_add, hla, ← hlL, List.take_left' rfl, List.flatMap_append, List.append_assoc, ← List.drop_drop, List.drop_left' rfl]
  refine ⟨_, _, _, ?_, hm.swap swap_mid, hk⟩
  simp only [appendTo]
  rw [if_pos hb, if_neg (by omega), if_neg (by omega), if_pos hle]
  simp only [putCells, Nat.ble_eq_true_of_le g1, g3, hst, Option.map_some]
theorem Own.fixed {v : Value} (h : Own en k L v Hs) (hv : v = .slice (some ⟨b, 0, none⟩) N N) (hEL : N < EL) (h0 : L ≠ []) : ∃ es, Hs = [(b, .row (L.flatMap en) es false)] ∧ L.length = N := by
  cases h with
  | nil => exact absurd rfl h0
  | emp b o => exact absurd rfl h0
  | el _ b es junk => obtain ⟨_, h1, h2⟩ := Value.slice.inj hv; omega
  | fix _ b es hL => obtain ⟨h3, h1, h2⟩ := Value.slice.inj hv; cases h3; exact ⟨es, rfl, h1⟩
theorem fixSl {m q : Nat} {lo hi : Option Value} (hu : C.P.underlying t = some (.slice e)) (hn : sizeAt C e = some k) (hN : N < EL) (h1 : m ≤ q) (h2 : q ≤ N) (hm : m < N) (h5 : lo.bind natOf = some m ∨ lo = none ∧ m = 0) (h6 : hi.bind natOf = some q ∨ hi = none ∧ q = N) :
    aslice C t (.slice (some ⟨b, 0, none⟩) N N) lo hi none = some (.slice (some ⟨b, 0 + m * k, none⟩) (q - m) (N - m)) := by
  have e : aslice C t (.slice (some ⟨b, 0, none⟩) N N) lo hi none = cutSlice C k N false (some ⟨b, 0, none⟩) (m, q, N) := by
    simp only [aslice, hu, hn]
    rw [if_neg (Nat.not_le.2 hN), bnds_is h1 h2 h5 h6]
    rfl
  rw [e]
  simp only [cutSlice]
  rw [if_pos (by omega), if_neg (by omega)]
/-- The last elements are cleared. -/
theorem st_clrF {J : List S60} {c : Nat} {ts : Array TypeId} (hts : ts = #[t]) (hx : evalL l x = some (.slice (some ⟨b, 0 + k * 21, none⟩) (J.length - k) c)) (hk0 : k < J.length) (hu : C.P.underlying t = some (.slice e)) (hz : zeroCellsOf C e = some ⟨en60 zS⟩)
    (hk : Θ (.tuple #[]) (pre ++ ([(b, .row ((J.take k ++ List.replicate (J.length - k) zS).flatMap en60) es false)] ++ H0))) : StepT C hd (.call { callee := .builtin .clear, args := #[x], argTypes := ts }) l (pre ++ ([(b, .row (J.flatMap en60) es false)] ++ H0)) Θ := by
  subst hts
  refine st_W (cov1 hx) rfl (fun _ => rfl) rfl fun s hm => ?_
  obtain ⟨g1, g2, g3⟩ := hm.has b _ hm_mid
  obtain ⟨m, hm1⟩ : ∃ m, J.length - k = m + 1 := ⟨J.length - k - 1, by omega⟩
  have hrl : ((List.replicate (m + 1) (en60 zS)).flatten).length = (m + 1) * 21 := by
    rw [← flz, flat_length en60_len, List.length_replicate]
  have hra : ((List.replicate (m + 1) (en60 zS)).flatten).all Value.oneCell' = true := by rw [← flz]; exact one_flat en60_one
  have hJl : (J.flatMap en60).length = J.length * 21 := flat_length en60_len J
  have hA : ((J.take k).flatMap en60).length = k * 21 := by rw [flat_length en60_len, List.length_take, Nat.min_eq_left (by omega)]
  have hsplit : J.flatMap en60 = (J.take k).flatMap en60 ++ (J.drop k).flatMap en60 := by rw [← List.flatMap_append, List.take_append_drop]
  have hst : storeRow (J.flatMap en60) (0 + k * 21) (List.replicate (m + 1) (en60 zS)).flatten = some ((J.take k ++ List.replicate (J.length - k) zS).flatMap en60) := by
    have e1 : Nat.ble (0 + k * 21 + ((List.replicate (m + 1) (en60 zS)).flatten).length) (J.flatMap en60).length = true := Nat.ble_eq_true_of_le (by rw [hrl, hJl]; omega)
    simp only [storeRow, e1, hra]
    rw [hrl, Nat.zero_add, List.flatMap_append, hm1, flz, List.drop_of_length_le (by rw [hJl]; omega), List.append_nil, hsplit, List.take_left' hA]
  refine ⟨.tuple #[], _, _, ?_, hm.swap swap_mid, hk⟩
  show (aclear C s t (rhoL l x)).map _ = _
  rw [rhoL_eq hx]
  unfold aclear
  simp only [hu]
  rw [hm1]
  simp only [hz]
  have hbl : Nat.blt 0 (⟨en60 zS⟩ : Array Value).size = true := rfl
  simp only [hbl, putCells, Nat.ble_eq_true_of_le g1, g3, hst, Option.map_some]
  rw [hm1]
end
section
variable {B0 : Nat} {old : Nat → Option (List Value)} {n : Nat} {H : Hp} {Q : Value → Hp → Prop}
set_option maxRecDepth 10000
set_option maxHeartbeats 16000000
theorem compact67_ct {b N : Nat} {L : List S60} {Hs : Hp} (ho : Own en60 21 L (.slice (some ⟨b, 0, none⟩) N N) Hs) (hEL : N < EL) (hl : N ≤ 20000) (hQ : ∀ w Hs', RsK (cx B0 old) Hs' (dd L) w → Q w (Hs' ++ H)) :
    CallT (cx B0 old) (acall (cx B0 old) ansP (n + 1)) 67 [.slice (some ⟨b, 0, none⟩) N N] (Hs ++ H) Q := by
  obtain ⟨ad0, c0, e0, hw0⟩ := ho.arrW (C := cx B0 old) en60_len
  obtain ⟨e1, e2, e3⟩ := Value.slice.inj e0
  have hall : ArrW (cx B0 old) Hs (some ⟨b, 0, none⟩) 21 en60 L := by rw [e1]; simpa using hw0 [] []
  have hkeep : dd L = L → Q (.slice (some ⟨b, 0, none⟩) N N) (Hs ++ H) := fun e => hQ _ Hs ⟨some ⟨b, 0, none⟩, N, by rw [e, ← e2], by rw [e]; exact hall⟩
  refine call_in1 61 rfl Tryz.func67 rfl rfl ?_
  repeat(first|refine Z0 ?_|(refine ZR ?_;first|refine x1 ?_|refine x2 ?_|refine x8 ?_|refine Z1 ?_|refine Z2 ?_|refine x3 fun _=>?_|refine x4 fun _=>?_|refine x5 fun _=>?_|refine Z3 fun _=>?_|refine Z4 fun _=>?_)|refine ZC ?_)
  refine ct_condT te_d rfl (fun hlt => ?_) (fun hlt => ?_)
  · repeat(first|refine Z0 ?_|(refine ZR ?_;first|refine x1 ?_|refine x2 ?_|refine x8 ?_|refine Z1 ?_|refine Z2 ?_|refine x3 fun _=>?_|refine x4 fun _=>?_|refine x5 fun _=>?_|refine Z3 fun _=>?_|refine Z4 fun _=>?_)|refine ZC ?_)
    refine re_1 rfl rfl (List.Sublist.refl _) (hkeep ?_)
    match L, e2 with
    | [], _ => rfl
    | [a], _ => rfl
    | a :: b :: l, e2 => simp only [List.length_cons] at e2; omega
  have hne : L ≠ [] := fun h => by rw [h] at e2; simp at e2; omega
  obtain ⟨ez, rfl, hLN⟩ := ho.fixed rfl hEL hne
  clear hall hw0 e0 e1 e3 ho
  repeat(first|refine Z0 ?_|(refine ZR ?_;first|refine x1 ?_|refine x2 ?_|refine x8 ?_|refine Z1 ?_|refine Z2 ?_|refine x3 fun _=>?_|refine x4 fun _=>?_|refine x5 fun _=>?_|refine Z3 fun _=>?_|refine Z4 fun _=>?_)|refine ZC ?_)
  have hfix : ∀ J : List S60, J.length = N → Own en60 21 J (.slice (some ⟨b, 0, none⟩) N N) [(b, .row (J.flatMap en60) ez false)] := fun J hJ => by
    have := Own.fix (en := en60) (k := 21) J b ez (by omega)
    rwa [hJ] at this
  refine loop_ind (ι := Nat) 1 (fun k => N - k) (fun k => 1 ≤ k ∧ k ≤ N ∧ dd (L.take k) = L.take k) (fun k => [(3, .int .i64 (k : Int)), (0, .slice (some ⟨b, 0, none⟩) N N)]) (fun _ => [(b, AObj.row (L.flatMap en60) ez false)] ++ H)
    ⟨Nat.le_refl _, by omega, by match L, hne with | a :: l, _ => rfl⟩ (by repeat(first|exact SubL.nil|refine SubL.cons rfl ?_)) (List.Sublist.refl _) ?_
  rintro k0 ⟨hk1, hkN, hdd⟩
  repeat(first|refine Z0 ?_|(refine ZR ?_;first|refine x1 ?_|refine x2 ?_|refine x8 ?_|refine Z1 ?_|refine Z2 ?_|refine x3 fun _=>?_|refine x4 fun _=>?_|refine x5 fun _=>?_|refine Z3 fun _=>?_|refine Z4 fun _=>?_)|refine ZC ?_)
  refine ct_condT te_d rfl (fun hklt => ?_) (fun hklt => ?_)
  rotate_left
  · obtain rfl : k0 = N := by omega
    rw [← hLN, List.take_length] at hdd
    repeat(first|refine Z0 ?_|(refine ZR ?_;first|refine x1 ?_|refine x2 ?_|refine x8 ?_|refine Z1 ?_|refine Z2 ?_|refine x3 fun _=>?_|refine x4 fun _=>?_|refine x5 fun _=>?_|refine Z3 fun _=>?_|refine Z4 fun _=>?_)|refine ZC ?_)
    exact re_1 rfl rfl (List.Sublist.refl _) (hkeep hdd)
  obtain ⟨x, hx, mx, hL0⟩ := (hfix L hLN).ldE (C := cx B0 old) (et := 43) en60_len rfl (sz rfl) (i := k0) (by omega) H
  obtain ⟨y, hy, my, hL1⟩ := (hfix L hLN).ldE (C := cx B0 old) (et := 43) en60_len rfl (sz rfl) (i := k0 - 1) (by omega) H
  have htwo := take_two (L := L) (i := k0 - 1) (x := x) (y := y) hy (by rw [Nat.sub_add_cancel hk1]; exact hx)
  rw [show k0 - 1 + 2 = k0 + 1 by omega, show k0 - 1 + 1 = k0 by omega, hdd] at htwo
  by_cases hxy : x = y
  rotate_left
  · have hs := leaf60_ne hxy
    unfold en60 at hL0 hL1 hs
    repeat(first|refine Z0 ?_|(refine ZR ?_;first|refine x1 ?_|refine x2 ?_|refine x8 ?_|refine Z1 ?_|refine Z2 ?_|refine x3 fun _=>?_|refine x4 fun _=>?_|refine x5 fun _=>?_|refine Z3 fun _=>?_|refine Z4 fun _=>?_)|refine ZC ?_)
    refine ct_draw (masks := [0, 0, 3, 7, 0, 0, 32, 112, 240, 511]) (plan := [0, 1, 2, 3, 4, 5, 6, 7, 8, 9]) (E := []) (by kernel_rfl) (by kernel_rfl) (by kernel_rfl) (by kernel_rfl) ?_
    repeat(first|refine Y0 ?_|(refine YP ?_;first|refine y1 ?_|refine y2 ?_|refine Y1 ?_|refine Y2 ?_))
    rw [hs]
    repeat(first|refine Y0 ?_|(refine YP ?_;first|refine y1 ?_|refine y2 ?_|refine Y1 ?_|refine Y2 ?_))
    repeat(first|refine Z0 ?_|(refine ZR ?_;first|refine x1 ?_|refine x2 ?_|refine x8 ?_|refine Z1 ?_|refine Z2 ?_|refine x3 fun _=>?_|refine x4 fun _=>?_|refine x5 fun _=>?_|refine Z3 fun _=>?_|refine Z4 fun _=>?_)|refine ZC ?_)
    refine ⟨k0 + 1, ⟨by omega, by omega, ?_⟩, by omega, by repeat(first|exact SubL.nil|refine SubL.cons rfl ?_), by exact drop_auto⟩
    rw [htwo, if_neg hxy, List.take_add_one, hx]
    rfl
  rw [if_pos hxy] at htwo
  have hs := leaf60 x
  subst hxy
  unfold en60 at hL0 hL1 hs
  repeat(first|refine Z0 ?_|(refine ZR ?_;first|refine x1 ?_|refine x2 ?_|refine x8 ?_|refine Z1 ?_|refine Z2 ?_|refine x3 fun _=>?_|refine x4 fun _=>?_|refine x5 fun _=>?_|refine Z3 fun _=>?_|refine Z4 fun _=>?_)|refine ZC ?_)
  refine ct_draw (masks := [0, 0, 3, 7, 0, 0, 32, 112, 240, 511]) (plan := [0, 1, 2, 3, 4, 5, 6, 7, 8, 9]) (E := []) (by kernel_rfl) (by kernel_rfl) (by kernel_rfl) (by kernel_rfl) ?_
  repeat(first|refine Y0 ?_|(refine YP ?_;first|refine y1 ?_|refine y2 ?_|refine Y1 ?_|refine Y2 ?_))
  rw [hs]
  repeat(first|refine Y0 ?_|(refine YP ?_;first|refine y1 ?_|refine y2 ?_|refine Y1 ?_|refine Y2 ?_))
  repeat(first|refine Z0 ?_|(refine ZR ?_;first|refine x1 ?_|refine x2 ?_|refine x8 ?_|refine Z1 ?_|refine Z2 ?_|refine x3 fun _=>?_|refine x4 fun _=>?_|refine x5 fun _=>?_|refine Z3 fun _=>?_|refine Z4 fun _=>?_)|refine ZC ?_)
  have hsl : ∀ m : Nat, m < N → aslice (cx B0 old) 74 (.slice (some ⟨b, 0, none⟩) N N) (some (.int .i64 (m : Int))) none none = some (.slice (some ⟨b, 0 + m * 21, none⟩) (N - m) (N - m)) := fun m hm => fixSl (e := 43) (k := 21) (m := m) (q := N) rfl (sz rfl) hEL (by omega) (Nat.le_refl _) (by omega) (.inl (natOf_nat .i64 m)) (.inr ⟨rfl, rfl⟩)
  refine rt_p rfl rfl rfl (p_slc rfl rfl rfl (hsl k0 (by omega))) ?_
  clear hL0 hL1 hs hdd
  repeat(first|refine Z0 ?_|(refine ZR ?_;first|refine x1 ?_|refine x2 ?_|refine x8 ?_|refine Z1 ?_|refine Z2 ?_|refine x3 fun _=>?_|refine x4 fun _=>?_|refine x5 fun _=>?_|refine Z3 fun _=>?_|refine Z4 fun _=>?_)|refine ZC ?_)
  refine ct_midB (ι := Nat × List S60) (fun j => j.1 < N ∧ j.2.length = N ∧ j.2.take j.1 = dd L) (fun j => [(3, .int .i64 (j.1 : Int)), (0, .slice (some ⟨b, 0, none⟩) N N)]) (fun j => [(b, AObj.row (j.2.flatMap en60) ez false)] ++ H) ?_ ?_
  · refine loop_ind (ι := Nat × Nat × List S60) (1, k0, L) (fun j => N - j.1) (fun j => 1 ≤ j.1 ∧ j.1 ≤ N - k0 ∧ j.2.2.length = N ∧ k0 ≤ j.2.1 ∧ j.2.1 + 1 ≤ k0 + j.1 ∧ (∀ i, k0 + j.1 ≤ i + 1 → j.2.2[i]? = L[i]?) ∧ j.2.2.take j.2.1 = dd (L.take (k0 + j.1)))
      (fun j => [(5, .int .i64 (j.1 : Int)), (3, .int .i64 (j.2.1 : Int)), (4, .slice (some ⟨b, 0 + k0 * 21, none⟩) (N - k0) (N - k0)), (0, .slice (some ⟨b, 0, none⟩) N N)]) (fun j => [(b, AObj.row (j.2.2.flatMap en60) ez false)] ++ H)
      ⟨Nat.le_refl _, by omega, hLN, Nat.le_refl _, Nat.le_refl _, fun _ _ => rfl, htwo.symm⟩ (by repeat(first|exact SubL.nil|refine SubL.cons rfl ?_)) (by exact drop_auto) ?_
    rintro ⟨k2, k, J⟩ ⟨h1, h2, h3, h4, h5, h6, h7⟩
    dsimp only at h1 h2 h3 h4 h5 h6 h7 ⊢
    repeat(first|refine Z0 ?_|(refine ZR ?_;first|refine x1 ?_|refine x2 ?_|refine x8 ?_|refine Z1 ?_|refine Z2 ?_|refine x3 fun _=>?_|refine x4 fun _=>?_|refine x5 fun _=>?_|refine Z3 fun _=>?_|refine Z4 fun _=>?_)|refine ZC ?_)
    refine ct_condT te_d rfl (fun hk2 => ?_) (fun hk2 => ?_)
    rotate_left
    · obtain rfl : k2 = N - k0 := by omega
      rw [show k0 + (N - k0) = N by omega, ← hLN, List.take_length] at h7
      repeat(first|refine Z0 ?_|(refine ZR ?_;first|refine x1 ?_|refine x2 ?_|refine x8 ?_|refine Z1 ?_|refine Z2 ?_|refine x3 fun _=>?_|refine x4 fun _=>?_|refine x5 fun _=>?_|refine Z3 fun _=>?_|refine Z4 fun _=>?_)|refine ZC ?_)
      exact ⟨(k, J), ⟨by dsimp only; omega, h3, h7⟩, by repeat(first|exact SubL.nil|refine SubL.cons rfl ?_), by exact drop_auto⟩
    obtain ⟨u, hu, mu, hL0⟩ := (hfix J h3).ldE (C := cx B0 old) (et := 43) en60_len rfl (sz rfl) (i := k0 + k2) (by omega) H
    obtain ⟨w, hw, mw, hL1⟩ := (hfix J h3).ldE (C := cx B0 old) (et := 43) en60_len rfl (sz rfl) (i := k0 + k2 - 1) (by omega) H
    have hu' := hu
    rw [h6 _ (by omega)] at hu'
    have hw' := hw
    rw [h6 _ (by omega)] at hw'
    have ht2 := take_two (L := L) (i := k0 + k2 - 1) (x := u) (y := w) hw' (by rw [Nat.sub_add_cancel (by omega)]; exact hu')
    rw [show k0 + k2 - 1 + 2 = k0 + (k2 + 1) by omega, show k0 + k2 - 1 + 1 = k0 + k2 by omega, ← h7] at ht2
    by_cases huw : u = w
    · have hs := leaf60 u
      subst huw
      rw [if_pos rfl] at ht2
      unfold en60 at hL0 hL1 hs
      repeat(first|refine Z0 ?_|(refine ZR ?_;first|refine x1 ?_|refine x2 ?_|refine x8 ?_|refine Z1 ?_|refine Z2 ?_|refine x3 fun _=>?_|refine x4 fun _=>?_|refine x5 fun _=>?_|refine Z3 fun _=>?_|refine Z4 fun _=>?_)|refine ZC ?_)
      refine ct_draw (masks := [0, 0, 3, 7, 0, 0, 32, 112, 240, 511]) (plan := [0, 1, 2, 3, 4, 5, 6, 7, 8, 9]) (E := []) (by kernel_rfl) (by kernel_rfl) (by kernel_rfl) (by kernel_rfl) ?_
      repeat(first|refine Y0 ?_|(refine YP ?_;first|refine y1 ?_|refine y2 ?_|refine Y1 ?_|refine Y2 ?_))
      rw [hs]
      repeat(first|refine Y0 ?_|(refine YP ?_;first|refine y1 ?_|refine y2 ?_|refine Y1 ?_|refine Y2 ?_))
      repeat(first|refine Z0 ?_|(refine ZR ?_;first|refine x1 ?_|refine x2 ?_|refine x8 ?_|refine Z1 ?_|refine Z2 ?_|refine x3 fun _=>?_|refine x4 fun _=>?_|refine x5 fun _=>?_|refine Z3 fun _=>?_|refine Z4 fun _=>?_)|refine ZC ?_)
      exact ⟨(k2 + 1, k, J), ⟨by dsimp only; omega, by dsimp only; omega, h3, h4, by dsimp only; omega, fun i hi => h6 i (by dsimp only at hi; omega), ht2.symm⟩, by dsimp only; omega, by repeat(first|exact SubL.nil|refine SubL.cons rfl ?_), by exact drop_auto⟩
    · have hs := leaf60_ne huw
      rw [if_neg huw] at ht2
      obtain ⟨r, hr⟩ : ∃ r, J[k]? = some r := ⟨_, List.getElem?_eq_getElem (by omega)⟩
      have hst : ∀ pre H0 : Hp, StP (cx B0 old) 43 b (0 + k * 21 + 0) (.agg ⟨en60 u⟩) (pre ++ ([(b, .row (J.flatMap en60) ez false)] ++ H0)) (pre ++ ([(b, .row ((J.set k u).flatMap en60) ez false)] ++ H0)) := fun pre H0 => stP_mid (sz rfl) rfl (by
        have := flat_set (junk := []) en60_len hr (en60_store r u)
        rwa [List.append_nil, List.append_nil] at this) pre
      unfold en60 at hL0 hL1 hs
      repeat(first|refine Z0 ?_|(refine ZR ?_;first|refine x1 ?_|refine x2 ?_|refine x8 ?_|refine Z1 ?_|refine Z2 ?_|refine x3 fun _=>?_|refine x4 fun _=>?_|refine x5 fun _=>?_|refine Z3 fun _=>?_|refine Z4 fun _=>?_)|refine ZC ?_)
      refine ct_draw (masks := [0, 0, 3, 7, 0, 0, 32, 112, 240, 511]) (plan := [0, 1, 2, 3, 4, 5, 6, 7, 8, 9]) (E := []) (by kernel_rfl) (by kernel_rfl) (by kernel_rfl) (by kernel_rfl) ?_
      repeat(first|refine Y0 ?_|(refine YP ?_;first|refine y1 ?_|refine y2 ?_|refine Y1 ?_|refine Y2 ?_))
      rw [hs]
      repeat(first|refine Y0 ?_|(refine YP ?_;first|refine y1 ?_|refine y2 ?_|refine Y1 ?_|refine Y2 ?_))
      repeat(first|refine Z0 ?_|(refine ZR ?_;first|refine x1 ?_|refine x2 ?_|refine x8 ?_|refine Z1 ?_|refine Z2 ?_|refine x3 fun _=>?_|refine x4 fun _=>?_|refine x5 fun _=>?_|refine Z3 fun _=>?_|refine Z4 fun _=>?_)|refine ZC ?_)
      refine rt_st rfl rfl rfl rfl rfl (hst [] H) ?_
      repeat(first|refine Z0 ?_|(refine ZR ?_;first|refine x1 ?_|refine x2 ?_|refine x8 ?_|refine Z1 ?_|refine Z2 ?_|refine x3 fun _=>?_|refine x4 fun _=>?_|refine x5 fun _=>?_|refine Z3 fun _=>?_|refine Z4 fun _=>?_)|refine ZC ?_)
      refine ⟨(k2 + 1, k + 1, J.set k u), ⟨by dsimp only; omega, by dsimp only; omega, by dsimp only; rw [List.length_set]; exact h3, by dsimp only; omega, by dsimp only; omega, fun i hi => ?_, ?_⟩, by dsimp only; omega, by repeat(first|exact SubL.nil|refine SubL.cons rfl ?_), by exact drop_auto⟩
      · dsimp only at hi ⊢
        rw [List.getElem?_set_ne (by omega)]
        exact h6 i (by omega)
      · dsimp only
        rw [ht2, List.take_add_one, List.getElem?_set_self (by omega), List.take_set, List.set_eq_of_length_le (by rw [List.length_take]; omega)]
        rfl
  rintro ⟨k, J⟩ ⟨hk, hJ, hJd⟩
  dsimp only at hk hJ hJd ⊢
  repeat(first|refine Z0 ?_|(refine ZR ?_;first|refine x1 ?_|refine x2 ?_|refine x8 ?_|refine Z1 ?_|refine Z2 ?_|refine x3 fun _=>?_|refine x4 fun _=>?_|refine x5 fun _=>?_|refine Z3 fun _=>?_|refine Z4 fun _=>?_)|refine ZC ?_)
  refine rt_p rfl rfl rfl (p_slc rfl rfl rfl (hsl k hk)) ?_
  have hJ2 : (J.take k ++ List.replicate (J.length - k) zS).length = N := by rw [List.length_append, List.length_take, List.length_replicate]; omega
  have hJt : (J.take k ++ List.replicate (J.length - k) zS).take k = dd L := by rw [List.take_left' (by rw [List.length_take]; omega)]; exact hJd
  refine rt_step0 rfl rfl (st_clrF (J := J) (pre := []) (H0 := H) rfl (by rw [hJ]; rfl) (by omega) rfl rfl ?_)
  have hcut := (hfix _ hJ2).cuts (C := cx B0 old) (pre := []) (H0 := []) en60_len
  obtain ⟨ad4, c4, hs4, hw4⟩ := hcut.part 74 43 none (some (.int .i64 (k : Int))) 0 k rfl (sz rfl) (Nat.zero_le _) (by omega) (.inr ⟨rfl, rfl⟩) (.inl (natOf_nat .i64 k))
  rw [List.drop_zero, Nat.sub_zero, hJt] at hw4
  rw [Nat.sub_zero] at hs4
  have hkl : (dd L).length = k := by rw [← hJt, List.length_take]; omega
  repeat(first|refine Z0 ?_|(refine ZR ?_;first|refine x1 ?_|refine x2 ?_|refine x8 ?_|refine Z1 ?_|refine Z2 ?_|refine x3 fun _=>?_|refine x4 fun _=>?_|refine x5 fun _=>?_|refine Z3 fun _=>?_|refine Z4 fun _=>?_)|refine ZC ?_)
  refine rt_p rfl rfl rfl (p_slc rfl rfl rfl hs4) ?_
  repeat(first|refine Z0 ?_|(refine ZR ?_;first|refine x1 ?_|refine x2 ?_|refine x8 ?_|refine Z1 ?_|refine Z2 ?_|refine x3 fun _=>?_|refine x4 fun _=>?_|refine x5 fun _=>?_|refine Z3 fun _=>?_|refine Z4 fun _=>?_)|refine ZC ?_)
  exact re_1 rfl rfl (List.Sublist.refl _) (hQ _ [_] ⟨ad4, c4, by rw [hkl], hw4⟩)
end
end Go.Proofs.YtphadapcafibpaaGreat.Abs

/- Contract of Keys. -/
namespace Go.Proofs.YtphadapcafibpaaGreat.Abs
open Go
set_option linter.unusedVariables false
section
variable {C : Ctx} {hd : HH Prop} {l : Sl} {H : Hp} {x y : Operand} {t e : TypeId} {Θ : Value → Hp → Prop}
theorem st_makeZ {N : Nat} {k k' : IntKind} {i : TypeInfo} {z : List Value} (hx : evalL l x = some (.int k 0)) (hy : evalL l y = some (.int k' (N : Int))) (hu : C.P.underlying t = some (.slice e))
    (hi : C.P.info? e = some i) (hz : zeroCellsOf C e = some ⟨z⟩) (h1 : Nat.ble (i.bytes * N) 1099511627776 = true) (h2 : Nat.ble N 1099511627776 = true) (h3 : Nat.beq (Array.size ⟨z⟩ : Nat) i.size = true) (h4 : Nat.blt 0 i.size = true)
    (h : ∀ b, Θ (.slice (some ⟨b, 0, none⟩) 0 N) ((b, .row (List.replicate N z).flatten i.size false) :: H)) : StepT C hd (.makeSlice t x y) l H Θ := by
  refine st_A (ob := .row (List.replicate N z).flatten i.size false) (mk := fun b => .slice (some ⟨b, 0, none⟩) 0 N) (cov2 hx hy) ?_ (fun s => ?_) ?_ h
  · rfl
  · rfl
  · have h0 : natOf (.int k 0) = some 0 := rfl
    simp only [aA, rhoL_eq hx, rhoL_eq hy, h0, natOf_nat, hu, hi, hz, Nat.ble_eq_true_of_le (Nat.zero_le N), h1, h2, h3, h4]
end
/-- The keys of routes, each once. -/
def keysM (M : List Rt) : List S60 := dd (M.map fun r => keyS r.n)
theorem srtR_keys {M : List Rt} (h : SrtR M) (hv : ∀ r ∈ M, okR r) : ((M.map fun r => keyS r.n).map rkS).Pairwise (· ≤ ·) := by
  rw [List.map_map]
  refine List.pairwise_map.2 ((List.pairwise_map.1 h).imp_of_mem fun {a b} ha hb hlt => ?_)
  have h1 := (rkP_lt (hv a ha).pl (hv b hb).pl).2 hlt
  have h2 : nlC (plc a).k (plc b).k ≤ 0 := by
    split at h1
    · omega
    · omega
  have hka := (hv a ha).pl.1
  have hkb := (hv b hb).pl.1
  show rkS (keyS a.n) ≤ rkS (keyS b.n)
  by_cases h3 : nlC (plc a).k (plc b).k < 0
  · have := (rkS_lt hka hkb).1 h3
    exact Int.le_of_lt this
  · have h4 : nlC (plc a).k (plc b).k = 0 := by omega
    have h5 := nlC_zero.1 h4
    rw [hka.2, hkb.2] at h5
    have h6 : keyS a.n = keyS b.n := h5
    rw [h6]
    exact Int.le_refl _
section
variable {B0 : Nat} {old : Nat → Option (List Value)} {n : Nat} {H : Hp} {Q : Value → Hp → Prop} {lim : Int} {M : List Rt} {v : Value} {Hs : Hp}
set_option maxRecDepth 10000
set_option maxHeartbeats 16000000
theorem keys32_ct (hI : Rib (cx B0 old) lim M v Hs) (hl : M.length ≤ 1000) (hQ : ∀ w G, RsK (cx B0 old) G (keysM M) w → Q w (G ++ (Hs ++ H))) :
    CallT (cx B0 old) (acall (cx B0 old) ansP (n + 1020)) 32 [v] (Hs ++ H) Q := by
  cases hI with
  | mk p mb c ms Gm hI hR h0 h6 hlim =>
  refine call_in1 32 rfl Tryz.func32 rfl rfl ?_
  repeat(first|refine Z0 ?_|(refine ZR ?_;first|refine x1 ?_|refine x2 ?_|refine x8 ?_|refine Z1 ?_|refine Z2 ?_|refine x3 fun _=>?_|refine x4 fun _=>?_|refine x5 fun _=>?_|refine Z3 fun _=>?_|refine Z4 fun _=>?_)|refine ZC ?_)
  refine rt_step rfl rfl rfl (st_call rfl rfl rfl rfl (valid47_ct h0 ?_))
  repeat(first|refine Z0 ?_|(refine ZR ?_;first|refine x1 ?_|refine x2 ?_|refine x8 ?_|refine Z1 ?_|refine Z2 ?_|refine x3 fun _=>?_|refine x4 fun _=>?_|refine x5 fun _=>?_|refine Z3 fun _=>?_|refine Z4 fun _=>?_)|refine ZC ?_)
  refine rt_r rfl rfl rfl (rd_mapLen rfl hm1 rfl) ?_
  rw [show (mkH ekP evW ms).length = ms.length by simp [mkH]]
  have hml : ms.length ≤ 1000 := by rw [hI.len]; exact hl
  obtain ⟨N, hN⟩ : ∃ N, ms.length = N := ⟨_, rfl⟩
  rw [hN] at hml ⊢
  refine rt_step rfl rfl rfl (st_makeZ (N := N) rfl rfl rfl rfl rfl (Nat.ble_eq_true_of_le (Nat.le_trans (Nat.mul_le_mul_left _ hml) (Nat.le_of_ble_eq_true (by kernel_rfl)))) (Nat.ble_eq_true_of_le (by omega)) rfl rfl fun b => ?_)
  repeat(first|refine Z0 ?_|(refine ZR ?_;first|refine x1 ?_|refine x2 ?_|refine x8 ?_|refine Z1 ?_|refine Z2 ?_|refine x3 fun _=>?_|refine x4 fun _=>?_|refine x5 fun _=>?_|refine Z3 fun _=>?_|refine Z4 fun _=>?_)|refine ZC ?_)
  refine rt_step rfl rfl rfl (st_range rfl hm2 rfl fun it => ?_)
  repeat(first|refine Z0 ?_|(refine ZR ?_;first|refine x1 ?_|refine x2 ?_|refine x8 ?_|refine Z1 ?_|refine Z2 ?_|refine x3 fun _=>?_|refine x4 fun _=>?_|refine x5 fun _=>?_|refine Z3 fun _=>?_|refine Z4 fun _=>?_)|refine ZC ?_)
  have hmsd : ms.Nodup := (List.pairwise_map.1 hI.born.nd).imp fun h e => h (by rw [e])
  have hjl : (List.replicate N (en60 zS)).flatten.length = N * 21 := by rw [← flz, flat_length en60_len, List.length_replicate]
  refine ct_midB (ι := List (Pk × Rw × Nat)) (fun vs => vs.Perm ms) (fun _ => [(3, .slice (some ⟨b, 0, none⟩) N N)]) (fun vs => (b, AObj.row ((vs.map (·.1.k)).flatMap en60) 21 false) :: (p, AObj.row [.int .i64 lim, .map (some mb)] 2 false) :: (mb, AObj.map (mkH ekP evW ms) c) :: (Gm ++ H)) ?_ ?_
  · refine loop_ind (ι := List (Pk × Rw × Nat) × Nat × List Value) ([], 0, (List.replicate N (en60 zS)).flatten) (fun j => ms.length - j.1.length) (fun j => j.1.Nodup ∧ (∀ q ∈ j.1, q ∈ ms) ∧ j.2.1 = j.1.length ∧ j.2.2.length = (N - j.2.1) * 21)
      (fun j => [(18, .pointer (some ⟨it, 0, none⟩)), (3, .slice (some ⟨b, 0, none⟩) j.2.1 N), (0, .pointer (some ⟨p, 0, none⟩))])
      (fun j => (it, .iter (some mb) c (j.1.map (·.2.2)) c) :: (b, AObj.row ((j.1.map (·.1.k)).flatMap en60 ++ j.2.2) 21 false) :: (p, AObj.row [.int .i64 lim, .map (some mb)] 2 false) :: (mb, AObj.map (mkH ekP evW ms) c) :: (Gm ++ H))
      ⟨List.nodup_nil, fun q h => (by cases h), rfl, by rw [hjl]; rfl⟩ (by repeat(first|exact SubL.nil|refine SubL.cons rfl ?_)) (List.Sublist.refl _) ?_
    rintro ⟨vs, cn, junk⟩ ⟨hnd, hsub, hcn, hju⟩
    dsimp only at hnd hsub hcn hju ⊢
    repeat(first|refine Z0 ?_|(refine ZR ?_;first|refine x1 ?_|refine x2 ?_|refine x8 ?_|refine Z1 ?_|refine Z2 ?_|refine x3 fun _=>?_|refine x4 fun _=>?_|refine x5 fun _=>?_|refine Z3 fun _=>?_|refine Z4 fun _=>?_)|refine ZC ?_)
    refine rt_step rfl rfl rfl (st_nextH rfl hm2 hI.born (fun hall => ?_) (fun q hq hnq => ?_))
    · have hperm : vs.Perm ms := by
        rw [List.perm_ext_iff_of_nodup hnd hmsd]
        refine fun q => ⟨hsub q, fun hq => ?_⟩
        obtain ⟨r, hr, e⟩ := List.mem_map.1 (hall q hq)
        exact (born_inj hI.born (hsub r hr) hq e) ▸ hr
      have hcN : cn = N := by rw [hcn, hperm.length_eq, hN]
      subst hcN
      have hj0 : junk = [] := List.eq_nil_of_length_eq_zero (by rw [hju]; omega)
      subst hj0
      rw [List.append_nil]
      repeat(first|refine Z0 ?_|(refine ZR ?_;first|refine x1 ?_|refine x2 ?_|refine x8 ?_|refine Z1 ?_|refine Z2 ?_|refine x3 fun _=>?_|refine x4 fun _=>?_|refine x5 fun _=>?_|refine Z3 fun _=>?_|refine Z4 fun _=>?_)|refine ZC ?_)
      exact ⟨vs, hperm, by repeat(first|exact SubL.nil|refine SubL.cons rfl ?_), by exact drop_auto⟩
    have hnd' : (vs ++ [q]).Nodup := List.nodup_append.2 ⟨hnd, by simp, fun a ha b hb e => by
      rw [List.mem_singleton.1 hb] at e
      exact hnq (by rw [← e]; exact List.mem_map_of_mem ha)⟩
    have hsub2 : ∀ r ∈ vs ++ [q], r ∈ ms := fun r hr => by
      rcases List.mem_append.1 hr with h | h
      · exact hsub r h
      · rw [List.mem_singleton.1 h]; exact hq
    have hlen := nd_lenM hnd' hsub2
    rw [List.length_append, List.length_singleton, hN] at hlen
    obtain ⟨k, x, bo⟩ := q
    dsimp only at hnq
    unfold ekP evW
    repeat(first|refine Z0 ?_|(refine ZR ?_;first|refine x1 ?_|refine x2 ?_|refine x8 ?_|refine Z1 ?_|refine Z2 ?_|refine x3 fun _=>?_|refine x4 fun _=>?_|refine x5 fun _=>?_|refine Z3 fun _=>?_|refine Z4 fun _=>?_)|refine ZC ?_)
    refine rt_r rfl rfl rfl (rd_entryH (ek := ekP) (ev := evW) (vs := vs.map (·.2.2)) (p := (k, x, bo)) rfl hm0 hm3 hI.born hq) ?_
    dsimp only
    unfold ekP evW enP enW enR
    repeat(first|refine Z0 ?_|(refine ZR ?_;first|refine x1 ?_|refine x2 ?_|refine x8 ?_|refine Z1 ?_|refine Z2 ?_|refine x3 fun _=>?_|refine x4 fun _=>?_|refine x5 fun _=>?_|refine Z3 fun _=>?_|refine Z4 fun _=>?_)|refine ZC ?_)
    rename_i b4 bs
    have hLl : (vs.map (·.1.k)).length = cn := by rw [List.length_map, hcn]
    refine rt_step rfl rfl rfl (st_appF (a := k.k) (L := vs.map (·.1.k)) (pre := [_, _, _]) en60_len en60_one (by rw [hLl]; rfl) rfl (ap rfl) (arrW_one en60_len hm0) (Nat.le_trans (Nat.mul_le_mul_right _ (show 2 * ((vs.map (·.1.k)).length + 1) + 192 ≤ 6000 by rw [hLl]; omega)) (by decide)) (by unfold EL; omega) (by rw [hLl]; omega) (by rw [hju]; omega) ?_)
    rw [hLl]
    repeat(first|refine Z0 ?_|(refine ZR ?_;first|refine x1 ?_|refine x2 ?_|refine x8 ?_|refine Z1 ?_|refine Z2 ?_|refine x3 fun _=>?_|refine x4 fun _=>?_|refine x5 fun _=>?_|refine Z3 fun _=>?_|refine Z4 fun _=>?_)|refine ZC ?_)
    refine ⟨(vs ++ [(k, x, bo)], cn + 1, junk.drop 21), ⟨hnd', hsub2, ?_, ?_⟩, ?_, by repeat(first|exact SubL.nil|refine SubL.cons rfl ?_), ?_⟩
    · dsimp only; rw [List.length_append, List.length_singleton, hcn]
    · dsimp only; rw [List.length_drop, hju]; omega
    · dsimp only; rw [List.length_append, List.length_singleton]; omega
    · dsimp only
      rw [List.map_append, List.map_append]
      exact drop_auto
  intro vs hperm
  have hks : (vs.map (·.1.k)).length = N := by rw [List.length_map, hperm.length_eq, hN]
  have ho : Own en60 21 (vs.map (·.1.k)) (.slice (some ⟨b, 0, none⟩) N N) [(b, .row ((vs.map (·.1.k)).flatMap en60) 21 false)] := by
    have := Own.fix (en := en60) (k := 21) (vs.map (·.1.k)) b 21 (by unfold EL; omega)
    rwa [hks] at this
  repeat(first|refine Z0 ?_|(refine ZR ?_;first|refine x1 ?_|refine x2 ?_|refine x8 ?_|refine Z1 ?_|refine Z2 ?_|refine x3 fun _=>?_|refine x4 fun _=>?_|refine x5 fun _=>?_|refine Z3 fun _=>?_|refine Z4 fun _=>?_)|refine ZC ?_)
  refine rt_step rfl rfl rfl (st_call rfl rfl rfl rfl (CallT.fuel (n := (n + 1002 - (vs.map (·.1.k)).length) + (vs.map (·.1.k)).length + 17) (sortFS_ct (Hs := [_]) keysCmp ho (fun k hk => by
    obtain ⟨q, hq, rfl⟩ := List.mem_map.1 hk
    exact (hI.okp (hperm.mem_iff.1 hq)).1) (by omega) fun w ks G2 o2 p2 s2 => ?_) (by omega)))
  have hpk : ks.Perm (M.map fun r => keyS r.n) := by
    have e : ms.map (·.1.k) = (ms.map (·.2.1.r)).map fun r => keyS r.n := by
      rw [List.map_map]
      exact List.map_congr_left fun q hq => by
        have := (hI.mem hq).2
        rw [← this]
        rfl
    exact (p2.trans (hperm.map _)).trans (by rw [e]; exact hI.perm.map _)
  have hks2 : ks = M.map fun r => keyS r.n := by
    have hok : ∀ k ∈ M.map (fun r => keyS r.n), okS k := fun k hk => by
      obtain ⟨r, hr, rfl⟩ := List.mem_map.1 hk
      exact (hI.val r hr).pl.1
    exact srt_unique hpk (fun x hx y hy e => rkS_inj (hok x (hpk.mem_iff.1 hx)) (hok y (hpk.mem_iff.1 hy)) e) s2 (srtR_keys hI.srt hI.val)
  subst hks2
  repeat(first|refine Z0 ?_|(refine ZR ?_;first|refine x1 ?_|refine x2 ?_|refine x8 ?_|refine Z1 ?_|refine Z2 ?_|refine x3 fun _=>?_|refine x4 fun _=>?_|refine x5 fun _=>?_|refine Z3 fun _=>?_|refine Z4 fun _=>?_)|refine ZC ?_)
  refine rt_step rfl rfl rfl (st_call rfl rfl rfl rfl (compact67_ct o2 (by unfold EL; omega) (by omega) fun w2 G3 hG3 => ?_))
  repeat(first|refine Z0 ?_|(refine ZR ?_;first|refine x1 ?_|refine x2 ?_|refine x8 ?_|refine Z1 ?_|refine Z2 ?_|refine x3 fun _=>?_|refine x4 fun _=>?_|refine x5 fun _=>?_|refine Z3 fun _=>?_|refine Z4 fun _=>?_)|refine ZC ?_)
  exact re_1 rfl rfl (by exact drop_auto) (hQ w2 G3 hG3)
end
end Go.Proofs.YtphadapcafibpaaGreat.Abs

/- RibOrder: plain facts, and the parts of its loop. -/
namespace Go.Proofs.YtphadapcafibpaaGreat.Abs
open Go
set_option linter.unusedVariables false
theorem Rib.ok2 {C : Ctx} {lim : Int} {M : List Rt} {v : Value} {Hs : Hp} (h : Rib C lim M v Hs) : SrtR M ∧ ∀ x ∈ M, okR x := by cases h with | mk p mb c ms Gm hI hR h0 h6 hl => exact ⟨hI.srt, hI.val⟩
theorem SrtR.next {M : List Rt} (h : SrtR M) : ∀ {i : Nat} {x y : Rt}, M[i]? = some x → M[i + 1]? = some y → rkR x < rkR y := by
  induction M with
  | nil => intro i x y hx; simp at hx
  | cons a l ih =>
    obtain ⟨h1, h2⟩ := SrtR.cons.1 h
    intro i x y hx hy
    cases i with
    | zero =>
      cases hx
      exact h1 y (List.mem_of_getElem? (by simpa using hy))
    | succ i => exact ih h2 (by simpa using hx) (by simpa using hy)
theorem rk_ord {x y : Rt} (hx : okP (plc x)) (hy : okP (plc y)) (h : rkR x < rkR y) : ¬ nlC x.n y.n > 0 ∧ (nlC x.n y.n = 0 → ¬ x.peer ≥ y.peer) := by
  have h1 := (rkP_lt hx hy).2 h
  have e : nlC (plc x).k (plc y).k = nlC x.n y.n := nlC_key x.n y.n
  rw [e] at h1
  split at h1
  · rename_i h2
    refine ⟨by omega, fun _ => ?_⟩
    have h3 : sgn x.peer y.peer < 0 := h1
    unfold sgn at h3
    split at h3
    · omega
    · split at h3 <;> omega
  · rename_i h2
    exact ⟨by omega, fun h => absurd h h2⟩
theorem dd_last : ∀ (l : List S60) (y : S60), (dd (l ++ [y])).getLast? = some y
  | [], y => rfl
  | [a], y => by
    show (dd [a, y]).getLast? = some y
    unfold dd
    split <;> simp [dd]
  | a :: b :: l, y => by
    have ih := dd_last (b :: l) y
    simp only [List.cons_append] at ih ⊢
    unfold dd
    split
    · exact ih
    · rw [List.getLast?_cons, ih]; rfl
theorem dd_next {K : List S60} {i : Nat} {k : S60} (hk : K[i]? = some k) : dd (K.take (i + 1)) = if (dd (K.take i)).getLast? = some k then dd (K.take i) else dd (K.take i) ++ [k] := by
  cases i with
  | zero =>
    rw [List.take_add_one, hk]
    show dd [k] = if (dd []).getLast? = some k then _ else _
    rw [if_neg (by simp [dd])]
    simp [dd]
  | succ i =>
    obtain ⟨y, hy⟩ : ∃ y, K[i]? = some y := ⟨_, List.getElem?_eq_getElem (by have := (List.getElem?_eq_some_iff.1 hk).1; omega)⟩
    have e1 : K.take (i + 1) = K.take i ++ [y] := by rw [List.take_add_one, hy]; rfl
    rw [take_two hy hk, e1, dd_last]
    by_cases h : k = y
    · subst h; simp
    · rw [if_neg h, if_neg fun e => h (Option.some.inj e).symm]
section
variable {C : Ctx} {H : Hp} {b o : Nat} {L : List Rw} {j : Nat} {x : Rw}
/-- The parts of an element of a list of routes. -/
theorem Arr.rt (h : Arr C H (some ⟨b, o, none⟩) 38 enW L) (hx : L[j]? = some x) (hg1 : aggAt C 43 = some true) (hn1 : sizeAt C 43 = some 21) (hg2 : aggAt C 39 = some false) (hn2 : sizeAt C 39 = some 1) (hg3 : aggAt C 52 = some true) (hn3 : sizeAt C 52 = some 38) :
    (∀ H', H.Sublist H' → ∀ {off : Nat} (h : off = o + j * 38 := by omega), LdT C 43 H' b off (.agg ⟨en60 x.r.n⟩)) ∧ (∀ H', H.Sublist H' → ∀ {off : Nat} (h : off = o + j * 38 + 36 := by omega), LdT C 39 H' b off (.int .u32 x.r.peer)) ∧
    (∀ H', H.Sublist H' → ∀ {off : Nat} (h : off = o + j * 38 := by omega), LdT C 52 H' b off (.agg ⟨enW x⟩)) := by
  obtain ⟨b1, o1, cs1, e1, hrow, hcut⟩ := h.els j x hx
  cases e1
  refine ⟨fun H' hs off h => ?_, fun H' hs off h => ?_, fun H' hs off h => ?_⟩
  · rw [h]; exact ldP (hrow.weak hs) hg1 hn1 (cut_part (f := 0) hcut rfl (by decide))
  · rw [h]
    have h3 := cut_part (f := 36) hcut (q := [.int .u32 x.r.peer]) (m := 1) rfl (by decide)
    exact Abs.ld1 (hrow.weak hs) hg2 hn2 (cut_one h3)
  · rw [h]; exact ldP (hrow.weak hs) hg3 hn3 hcut
end
end Go.Proofs.YtphadapcafibpaaGreat.Abs

/- The walk of RibOrder. -/
namespace Go.Proofs.YtphadapcafibpaaGreat.Abs
open Go
set_option linter.unusedVariables false
theorem RsL.rowz {C : Ctx} {M : List Rt} {w : Value} {G : Hp} (h : RsL C M w G) : ∃ ad c L, w = .slice ad L.length c ∧ L.map (·.r) = M ∧ Arr C G ad 38 enW L ∧ (∀ x ∈ L, Rd C G x) ∧ RsA C G M w := by
  have ha := h.toA
  obtain ⟨L, Gs, Gr, h1, h2, h3, rfl⟩ := h
  obtain ⟨ad, c, e, hw⟩ := h1.arrW (C := C) enW_len
  exact ⟨ad, c, L, e, h3, (hw [] Gr).arr enW_len, fun x hx => (h2 x hx).weak (List.sublist_append_right _ _), ha⟩
theorem fltTake {f : Rw → Bool} {L : List Rw} {i : Nat} {x : Rw} (hx : L[i]? = some x) : (L.take (i + 1)).filter f = if f x then (L.take i).filter f ++ [x] else (L.take i).filter f := by
  rw [List.take_add_one, hx, List.filter_append]
  show _ ++ [x].filter f = _
  rw [List.filter_cons]
  split <;> simp
section
variable {B0 : Nat} {old : Nat → Option (List Value)} {n : Nat} {Q : Value → Hp → Prop} {c : Nat} {ad : Option Addr} {L : List Ac}
set_option maxRecDepth 10000
set_option maxHeartbeats 64000000
theorem order6_ct (ha : Arr (cx B0 old) [] ad 39 enAc L) (hL : ∀ x ∈ L, okAc (cx B0 old) [] x) (hl : L.length ≤ 9223372036854775807) (rw_ : Rw) (haa : okAc (cx B0 old) [] ⟨0, rw_⟩) (hQ : Q (.bool true) []) :
    CallT (cx B0 old) (acall (cx B0 old) ansP (n + 20030)) 6 [.slice ad L.length c, .agg ⟨enW rw_⟩] [] Q := by
  refine call_in2 188 rfl Tryz.func6 rfl rfl ?_
  obtain ⟨hwf, hpe, hrd⟩ := haa
  dsimp only at hwf hpe hrd
  have hky : ∀ (x : S60) {H1 : Hp} {Θ : Value → Hp → Prop}, Θ (.agg ⟨en60 (keyS x)⟩) H1 → CallT (cx B0 old) (acall (cx B0 old) ansP (n + 20029)) 28 [.agg ⟨en60 x⟩] H1 Θ := fun x _ _ h => key28_ct x h
  have hkr : ∀ {H1 : Hp} {Θ : Value → Hp → Prop}, (∀ t : Bool, (t = true ↔ ltR rw_.r) → Θ (.bool t) H1) → CallT (cx B0 old) (acall (cx B0 old) ansP (n + 20029)) 27 [.agg ⟨enW rw_⟩] H1 Θ := fun h => light27_ct rw_ h
  unfold enW enR
  repeat(first|refine Z0 ?_|(refine ZR ?_;first|refine x1 ?_|refine x2 ?_|refine x8 ?_|refine Z1 ?_|refine Z2 ?_|refine x3 fun _=>?_|refine x4 fun _=>?_|refine x5 fun _=>?_|refine Z3 fun _=>?_|refine Z4 fun _=>?_)|refine ZC ?_)
  rename_i b3
  refine rt_step rfl rfl rfl (st_call rfl rfl rfl rfl (call_ext rfl ?_))
  repeat(first|refine Z0 ?_|(refine ZR ?_;first|refine x1 ?_|refine x2 ?_|refine x8 ?_|refine Z1 ?_|refine Z2 ?_|refine x3 fun _=>?_|refine x4 fun _=>?_|refine x5 fun _=>?_|refine Z3 fun _=>?_|refine Z4 fun _=>?_)|refine ZC ?_)
  refine rt_step rfl rfl rfl (st_call rfl rfl rfl rfl (light8_ct (ha.weak (List.nil_sublist _)) hl fun t ht => ?_))
  cases t with
  | false =>
    repeat(first|refine Z0 ?_|(refine ZR ?_;first|refine x1 ?_|refine x2 ?_|refine x8 ?_|refine Z1 ?_|refine Z2 ?_|refine x3 fun _=>?_|refine x4 fun _=>?_|refine x5 fun _=>?_|refine Z3 fun _=>?_|refine Z4 fun _=>?_)|refine ZC ?_)
    exact re_1 rfl rfl (List.nil_sublist _) hQ
  | true =>
  obtain ⟨hltL, hL60⟩ := ht.1 rfl
  repeat(first|refine Z0 ?_|(refine ZR ?_;first|refine x1 ?_|refine x2 ?_|refine x8 ?_|refine Z1 ?_|refine Z2 ?_|refine x3 fun _=>?_|refine x4 fun _=>?_|refine x5 fun _=>?_|refine Z3 fun _=>?_|refine Z4 fun _=>?_)|refine ZC ?_)
  refine rt_step rfl rfl rfl (st_call rfl rfl rfl rfl (hkr fun t2 ht2 => ?_))
  cases t2 with
  | false =>
    repeat(first|refine Z0 ?_|(refine ZR ?_;first|refine x1 ?_|refine x2 ?_|refine x8 ?_|refine Z1 ?_|refine Z2 ?_|refine x3 fun _=>?_|refine x4 fun _=>?_|refine x5 fun _=>?_|refine Z3 fun _=>?_|refine Z4 fun _=>?_)|refine ZC ?_)
    exact re_1 rfl rfl (List.nil_sublist _) hQ
  | true =>
  repeat(first|refine Z0 ?_|(refine ZR ?_;first|refine x1 ?_|refine x2 ?_|refine x8 ?_|refine Z1 ?_|refine Z2 ?_|refine x3 fun _=>?_|refine x4 fun _=>?_|refine x5 fun _=>?_|refine Z3 fun _=>?_|refine Z4 fun _=>?_)|refine ZC ?_)
  refine rt_step rfl rfl rfl (st_call rfl rfl rfl rfl (new9_ct (fun h => absurd h (by decide)) fun _ v Hs0 hI0 => ?_))
  obtain ⟨p0, hp0⟩ : ∃ a, v = .pointer (some a) := by cases hI0; exact ⟨_, rfl⟩
  subst hp0
  repeat(first|refine Z0 ?_|(refine ZR ?_;first|refine x1 ?_|refine x2 ?_|refine x8 ?_|refine Z1 ?_|refine Z2 ?_|refine x3 fun _=>?_|refine x4 fun _=>?_|refine x5 fun _=>?_|refine Z3 fun _=>?_|refine Z4 fun _=>?_)|refine ZC ?_)
  refine ct_midB (ι := List Rt × Hp) (fun j => Rib (cx B0 old) 1000 j.1 (.pointer (some p0)) j.2 ∧ j.1.length ≤ 60) (fun j => [(5, .pointer (some p0)), (3, .pointer (some ⟨b3, 0, none⟩))]) (fun j => j.2 ++ [(b3, AObj.row (enW rw_) 38 false)]) ?_ ?_
  · refine loop_ind (ι := Nat × List Rt × Hp) (0, [], Hs0) (fun j => L.length - j.1) (fun j => j.1 ≤ L.length ∧ Rib (cx B0 old) 1000 j.2.1 (.pointer (some p0)) j.2.2 ∧ j.2.1.length ≤ j.1)
      (fun j => [(7, .int .i64 (j.1 : Int)), (5, .pointer (some p0)), (3, .pointer (some ⟨b3, 0, none⟩)), (0, .slice ad L.length c)]) (fun j => j.2.2 ++ [(b3, AObj.row (enW rw_) 38 false)]) ⟨Nat.zero_le _, hI0, Nat.le_refl _⟩ (by repeat(first|exact SubL.nil|refine SubL.cons rfl ?_)) (by exact drop_auto) ?_
    rintro ⟨i, M, Hs⟩ ⟨hi, hI, hml⟩
    dsimp only at hi hI hml ⊢
    repeat(first|refine Z0 ?_|(refine ZR ?_;first|refine x1 ?_|refine x2 ?_|refine x8 ?_|refine Z1 ?_|refine Z2 ?_|refine x3 fun _=>?_|refine x4 fun _=>?_|refine x5 fun _=>?_|refine Z3 fun _=>?_|refine Z4 fun _=>?_)|refine ZC ?_)
    refine ct_condT te_d rfl (fun hlt => ?_) (fun hlt => ?_)
    rotate_left
    · repeat(first|refine Z0 ?_|(refine ZR ?_;first|refine x1 ?_|refine x2 ?_|refine x8 ?_|refine Z1 ?_|refine Z2 ?_|refine x3 fun _=>?_|refine x4 fun _=>?_|refine x5 fun _=>?_|refine Z3 fun _=>?_|refine Z4 fun _=>?_)|refine ZC ?_)
      exact ⟨(M, Hs), ⟨hI, by dsimp only; omega⟩, by repeat(first|exact SubL.nil|refine SubL.cons rfl ?_), by exact drop_auto⟩
    obtain ⟨x, hx⟩ : ∃ x, L[i]? = some x := ⟨_, List.getElem?_eq_getElem (by omega)⟩
    have hxm := List.mem_of_getElem? hx
    obtain ⟨b1, o1, rfl, hL0⟩ := (ha.weak (List.nil_sublist (Hs ++ [(b3, AObj.row (enW rw_) 38 false)]))).ldW 54 hx rfl (sz rfl)
    repeat(first|refine Z0 ?_|(refine ZR ?_;first|refine x1 ?_|refine x2 ?_|refine x8 ?_|refine Z1 ?_|refine Z2 ?_|refine x3 fun _=>?_|refine x4 fun _=>?_|refine x5 fun _=>?_|refine Z3 fun _=>?_|refine Z4 fun _=>?_)|refine ZC ?_)
    refine rt_step rfl rfl rfl (st_call rfl rfl rfl rfl (do11_ct x.k x.w ((hL x hxm).weak (List.nil_sublist _)) (hltL x hxm) hI fun Hs' hI' => ?_))
    repeat(first|refine Z0 ?_|(refine ZR ?_;first|refine x1 ?_|refine x2 ?_|refine x8 ?_|refine Z1 ?_|refine Z2 ?_|refine x3 fun _=>?_|refine x4 fun _=>?_|refine x5 fun _=>?_|refine Z3 fun _=>?_|refine Z4 fun _=>?_)|refine ZC ?_)
    have hlen := doM_len 1000 (pkF x.k 8) x.w.r M
    exact ⟨(i + 1, _, Hs'), ⟨by dsimp only; omega, hI', Nat.le_trans hlen (Nat.succ_le_succ hml)⟩, by dsimp only; omega, by repeat(first|exact SubL.nil|refine SubL.cons rfl ?_), by exact drop_auto⟩
  rintro ⟨M, Hs⟩ ⟨hI, hM0⟩
  dsimp only at hI hM0 ⊢
  obtain ⟨hsM, hvM⟩ := hI.ok2
  repeat(first|refine Z0 ?_|(refine ZR ?_;first|refine x1 ?_|refine x2 ?_|refine x8 ?_|refine Z1 ?_|refine Z2 ?_|refine x3 fun _=>?_|refine x4 fun _=>?_|refine x5 fun _=>?_|refine Z3 fun _=>?_|refine Z4 fun _=>?_)|refine ZC ?_)
  refine rt_step rfl rfl rfl (st_call rfl rfl rfl rfl (CallT.fuel (n := n + 9 + 20020) (all16_ct hI (show M.length ≤ 20000 by omega) fun w G0 hG0 => ?_) rfl))
  obtain ⟨ad0, c0, L0, rfl, hL0m, hA0, hR0, hS0⟩ := hG0.rowz
  have hl0 : L0.length = M.length := by have := congrArg List.length hL0m; rwa [List.length_map] at this
  have hat : ∀ {i : Nat} {x : Rw}, L0[i]? = some x → M[i]? = some x.r := fun h => by rw [← hL0m, List.getElem?_map, h]; rfl
  obtain ⟨K, hK⟩ : ∃ K, K = M.map fun r => keyS r.n := ⟨_, rfl⟩
  have hKat : ∀ {i : Nat} {x : Rw}, L0[i]? = some x → K[i]? = some (keyS x.r.n) := fun h => by rw [hK, List.getElem?_map, hat h]; rfl
  have hddl : ∀ i, (dd (K.take i)).length ≤ 60 := fun i => Nat.le_trans (dd_len _) (by rw [hK, List.length_take, List.length_map]; omega)
  repeat(first|refine Z0 ?_|(refine ZR ?_;first|refine x1 ?_|refine x2 ?_|refine x8 ?_|refine Z1 ?_|refine Z2 ?_|refine x3 fun _=>?_|refine x4 fun _=>?_|refine x5 fun _=>?_|refine Z3 fun _=>?_|refine Z4 fun _=>?_)|refine ZC ?_)
  refine ct_midB (ι := Value × Value × Value × Hp × Hp × Hp) (fun j => Own en60 21 (dd K) j.1 j.2.2.2.1 ∧ Own enW 38 (L0.filter fun x => decide (keyS x.r.n = keyS rw_.r.n)) j.2.1 j.2.2.2.2.1 ∧ Own enW 38 (L0.filter fun x => decide (x.r.peer = rw_.r.peer)) j.2.2.1 j.2.2.2.2.2)
    (fun j => [(11, j.2.2.1), (10, j.2.1), (9, j.1), (8, .slice ad0 L0.length c0), (5, .pointer (some p0)), (3, .pointer (some ⟨b3, 0, none⟩))]) (fun j => Hs ++ (j.2.2.2.1 ++ (j.2.2.2.2.1 ++ (j.2.2.2.2.2 ++ (G0 ++ [(b3, AObj.row (enW rw_) 38 false)]))))) ?_ ?_
  · refine CodeT.perm (H' := Hs ++ (G0 ++ [(b3, AObj.row (enW rw_) 38 false)])) ?_ (List.perm_append_comm_assoc Hs G0 _)
    refine loop_ind (ι := Nat × Value × Value × Value × Hp × Hp × Hp) (0, .slice none 0 0, .slice none 0 0, .slice none 0 0, [], [], []) (fun j => L0.length - j.1)
      (fun j => j.1 ≤ L0.length ∧ Own en60 21 (dd (K.take j.1)) j.2.1 j.2.2.2.2.1 ∧ Own enW 38 ((L0.take j.1).filter fun x => decide (keyS x.r.n = keyS rw_.r.n)) j.2.2.1 j.2.2.2.2.2.1 ∧ Own enW 38 ((L0.take j.1).filter fun x => decide (x.r.peer = rw_.r.peer)) j.2.2.2.1 j.2.2.2.2.2.2)
      (fun j => [(12, .int .i64 (j.1 : Int)), (11, j.2.2.2.1), (10, j.2.2.1), (9, j.2.1), (8, .slice ad0 L0.length c0), (5, .pointer (some p0)), (3, .pointer (some ⟨b3, 0, none⟩))]) (fun j => Hs ++ (j.2.2.2.2.1 ++ (j.2.2.2.2.2.1 ++ (j.2.2.2.2.2.2 ++ (G0 ++ [(b3, AObj.row (enW rw_) 38 false)])))))
      ⟨Nat.zero_le _, .nil, .nil, .nil⟩ (by repeat(first|exact SubL.nil|refine SubL.cons rfl ?_)) (by exact drop_auto) ?_
    rintro ⟨i, vk, v1, v2, Gk, G1, G2⟩ ⟨hi, hok, ho1, ho2⟩
    dsimp only at hi hok ho1 ho2 ⊢
    have hf1 : ((L0.take i).filter fun x => decide (keyS x.r.n = keyS rw_.r.n)).length ≤ 60 := Nat.le_trans (List.length_filter_le _ _) (by rw [List.length_take]; omega)
    have hf2 : ((L0.take i).filter fun x => decide (x.r.peer = rw_.r.peer)).length ≤ 60 := Nat.le_trans (List.length_filter_le _ _) (by rw [List.length_take]; omega)
    have hdl := hddl i
    repeat(first|refine Z0 ?_|(refine ZR ?_;first|refine x1 ?_|refine x2 ?_|refine x8 ?_|refine Z1 ?_|refine Z2 ?_|refine x3 fun _=>?_|refine x4 fun _=>?_|refine x5 fun _=>?_|refine Z3 fun _=>?_|refine Z4 fun _=>?_)|refine ZC ?_)
    refine ct_condT te_d rfl (fun hlt => ?_) (fun hlt => ?_)
    rotate_left
    · obtain rfl : i = L0.length := by omega
      rw [List.take_length] at ho1 ho2
      rw [List.take_of_length_le (by rw [hK, List.length_map]; omega)] at hok
      repeat(first|refine Z0 ?_|(refine ZR ?_;first|refine x1 ?_|refine x2 ?_|refine x8 ?_|refine Z1 ?_|refine Z2 ?_|refine x3 fun _=>?_|refine x4 fun _=>?_|refine x5 fun _=>?_|refine Z3 fun _=>?_|refine Z4 fun _=>?_)|refine ZC ?_)
      exact ⟨(vk, v1, v2, Gk, G1, G2), ⟨hok, ho1, ho2⟩, by repeat(first|exact SubL.nil|refine SubL.cons rfl ?_), by exact drop_auto⟩
    obtain ⟨y, hy⟩ : ∃ y, L0[i]? = some y := ⟨_, List.getElem?_eq_getElem (by omega)⟩
    have hym : y.r ∈ M := by rw [← hL0m]; exact List.mem_map_of_mem (List.mem_of_getElem? hy)
    obtain ⟨b1, o1, cs1, e1, _, _⟩ := hA0.els i y hy
    subst e1
    obtain ⟨alk, clk, rfl, _⟩ := hok.arrW (C := cx B0 old) en60_len
    obtain ⟨al1, cl1, rfl, _⟩ := ho1.arrW (C := cx B0 old) enW_len
    obtain ⟨al2, cl2, rfl, _⟩ := ho2.arrW (C := cx B0 old) enW_len
    repeat(first|refine Z0 ?_|(refine ZR ?_;first|refine x1 ?_|refine x2 ?_|refine x8 ?_|refine Z1 ?_|refine Z2 ?_|refine x3 fun _=>?_|refine x4 fun _=>?_|refine x5 fun _=>?_|refine Z3 fun _=>?_|refine Z4 fun _=>?_)|refine ZC ?_)
    refine ct_midE (ι := Unit) (fun _ => True) (fun _ => [(12, .int .i64 (i : Int)), (11, .slice al2 ((L0.take i).filter fun x => decide (x.r.peer = rw_.r.peer)).length cl2), (10, .slice al1 ((L0.take i).filter fun x => decide (keyS x.r.n = keyS rw_.r.n)).length cl1), (9, .slice alk (dd (K.take i)).length clk), (8, .slice (some ⟨b1, o1, none⟩) L0.length c0), (5, .pointer (some p0)), (3, .pointer (some ⟨b3, 0, none⟩))])
      (fun _ => Hs ++ (Gk ++ (G1 ++ (G2 ++ (G0 ++ [(b3, AObj.row (enW rw_) 38 false)]))))) ?_ ?_
    · refine ct_condT te_d rfl (fun hpos => ?_) (fun hpos => ?_)
      rotate_left
      · repeat(first|refine Z0 ?_|(refine ZR ?_;first|refine x1 ?_|refine x2 ?_|refine x8 ?_|refine Z1 ?_|refine Z2 ?_|refine x3 fun _=>?_|refine x4 fun _=>?_|refine x5 fun _=>?_|refine Z3 fun _=>?_|refine Z4 fun _=>?_)|refine ZC ?_)
        exact ⟨(), trivial, by repeat(first|exact SubL.nil|refine SubL.cons rfl ?_), by exact drop_auto⟩
      obtain ⟨x, hx⟩ : ∃ x, L0[i - 1]? = some x := ⟨_, List.getElem?_eq_getElem (by omega)⟩
      have hxm : x.r ∈ M := by rw [← hL0m]; exact List.mem_map_of_mem (List.mem_of_getElem? hx)
      obtain ⟨hL0, hL2, _⟩ := hA0.rt hx rfl (sz rfl) rfl (sz rfl) rfl (sz rfl)
      obtain ⟨hL1, hL3, _⟩ := hA0.rt hy rfl (sz rfl) rfl (sz rfl) rfl (sz rfl)
      obtain ⟨hc1, hc2⟩ := rk_ord (hvM _ hxm).pl (hvM _ hym).pl (hsM.next (i := i - 1) (hat hx) (by rw [Nat.sub_add_cancel (by omega)]; exact hat hy))
      repeat(first|refine Z0 ?_|(refine ZR ?_;first|refine x1 ?_|refine x2 ?_|refine x8 ?_|refine Z1 ?_|refine Z2 ?_|refine x3 fun _=>?_|refine x4 fun _=>?_|refine x5 fun _=>?_|refine Z3 fun _=>?_|refine Z4 fun _=>?_)|refine ZC ?_)
      refine ct_draw (masks := [0, 0, 2, 7, 15, 31, 0, 0, 192, 448, 960, 2047, 4095]) (plan := [0, 1, 2, 3, 4, 5, 6, 7, 8, 9, 10, 11, 12]) (E := []) (by kernel_rfl) (by kernel_rfl) (by kernel_rfl) (by kernel_rfl) ?_
      repeat(first|refine Y0 ?_|(refine YP ?_;first|refine y1 ?_|refine y2 ?_|refine Y1 ?_|refine Y2 ?_))
      refine pl_S rfl rfl rfl rfl rfl rfl (st_call rfl rfl rfl rfl (compare24_ct (n := n + 20025) x.r.n y.r.n (hvM _ hxm).wf (hvM _ hym).wf ⟨by exact rec_auto, ?_⟩))
      repeat(first|refine Y0 ?_|(refine YP ?_;first|refine y1 ?_|refine y2 ?_|refine Y1 ?_|refine Y2 ?_))
      repeat(first|refine Z0 ?_|(refine ZR ?_;first|refine x1 ?_|refine x2 ?_|refine x8 ?_|refine Z1 ?_|refine Z2 ?_|refine x3 fun _=>?_|refine x4 fun _=>?_|refine x5 fun _=>?_|refine Z3 fun _=>?_|refine Z4 fun _=>?_)|refine ZC ?_)
      refine ct_draw (masks := [0, 1, 3, 7, 15, 31, 63, 63, 191, 511, 1023, 2047, 63, 63, 12351, 28735, 61503, 131071, 262143, 524287]) (plan := [0, 1, 2, 3, 4, 5, 6, 7, 8, 9, 10, 11, 12, 13, 14, 15, 16, 17, 18, 19]) (E := []) (by kernel_rfl) (by kernel_rfl) (by kernel_rfl) (by kernel_rfl) ?_
      refine pl_midE (ι := Unit) (fun _ => True) (fun _ => [(84, .bool false), (12, .int .i64 (i : Int)), (11, .slice al2 ((L0.take i).filter fun x => decide (x.r.peer = rw_.r.peer)).length cl2), (10, .slice al1 ((L0.take i).filter fun x => decide (keyS x.r.n = keyS rw_.r.n)).length cl1), (9, .slice alk (dd (K.take i)).length clk), (8, .slice (some ⟨b1, o1, none⟩) L0.length c0), (5, .pointer (some p0)), (3, .pointer (some ⟨b3, 0, none⟩))])
        (fun _ => Hs ++ (Gk ++ (G1 ++ (G2 ++ (G0 ++ [(b3, AObj.row (enW rw_) 38 false)]))))) ?_ ?_
      · repeat(first|refine Y0 ?_|(refine YP ?_;first|refine y1 ?_|refine y2 ?_|refine Y1 ?_|refine Y2 ?_))
        rw [show decide (nlC x.r.n y.r.n > 0) = false from decide_eq_false hc1]
        repeat(first|refine Y0 ?_|(refine YP ?_;first|refine y1 ?_|refine y2 ?_|refine Y1 ?_|refine Y2 ?_))
        refine isPlan ?_
        refine z3 (fun hz => ?_) (fun hz => ?_)
        · repeat(first|refine Y0 ?_|(refine YP ?_;first|refine y1 ?_|refine y2 ?_|refine Y1 ?_|refine Y2 ?_))
          rw [show decide (x.r.peer ≥ y.r.peer) = false from decide_eq_false (hc2 hz)]
          repeat(first|refine Y0 ?_|(refine YP ?_;first|refine y1 ?_|refine y2 ?_|refine Y1 ?_|refine Y2 ?_))
          exact ⟨(), trivial, by repeat(first|exact SubL.nil|refine SubL.cons rfl ?_), by exact drop_auto⟩
        · repeat(first|refine Y0 ?_|(refine YP ?_;first|refine y1 ?_|refine y2 ?_|refine Y1 ?_|refine Y2 ?_))
          exact ⟨(), trivial, by repeat(first|exact SubL.nil|refine SubL.cons rfl ?_), by exact drop_auto⟩
      rintro _ _
      repeat(first|refine Z0 ?_|(refine ZR ?_;first|refine x1 ?_|refine x2 ?_|refine x8 ?_|refine Z1 ?_|refine Z2 ?_|refine x3 fun _=>?_|refine x4 fun _=>?_|refine x5 fun _=>?_|refine Z3 fun _=>?_|refine Z4 fun _=>?_)|refine ZC ?_)
      exact ⟨(), trivial, by repeat(first|exact SubL.nil|refine SubL.cons rfl ?_), by exact drop_auto⟩
    rintro _ _
    obtain ⟨hL0, hL1, hL2⟩ := hA0.rt hy rfl (sz rfl) rfl (sz rfl) rfl (sz rfl)
    repeat(first|refine Z0 ?_|(refine ZR ?_;first|refine x1 ?_|refine x2 ?_|refine x8 ?_|refine Z1 ?_|refine Z2 ?_|refine x3 fun _=>?_|refine x4 fun _=>?_|refine x5 fun _=>?_|refine Z3 fun _=>?_|refine Z4 fun _=>?_)|refine ZC ?_)
    refine rt_step rfl rfl rfl (st_call rfl rfl rfl rfl (hky y.r.n ?_))
    repeat(first|refine Z0 ?_|(refine ZR ?_;first|refine x1 ?_|refine x2 ?_|refine x8 ?_|refine Z1 ?_|refine Z2 ?_|refine x3 fun _=>?_|refine x4 fun _=>?_|refine x5 fun _=>?_|refine Z3 fun _=>?_|refine Z4 fun _=>?_)|refine ZC ?_)
    rename_i b14
    have hnext := dd_next (hKat hy)
    obtain ⟨D, hD⟩ : ∃ D, dd (K.take i) = D := ⟨_, rfl⟩
    obtain ⟨E1, hE1⟩ : ∃ E, ((L0.take i).filter fun x => decide (keyS x.r.n = keyS rw_.r.n)) = E := ⟨_, rfl⟩
    obtain ⟨E2, hE2⟩ : ∃ E, ((L0.take i).filter fun x => decide (x.r.peer = rw_.r.peer)) = E := ⟨_, rfl⟩
    have hfl1 := fltTake (f := fun x => decide (keyS x.r.n = keyS rw_.r.n)) hy
    have hfl2 := fltTake (f := fun x => decide (x.r.peer = rw_.r.peer)) hy
    rw [hD] at hnext hok hdl ⊢
    rw [hE1] at ho1 hf1 hfl1 ⊢
    rw [hE2] at ho2 hf2 hfl2 ⊢
    obtain ⟨alk', clk', ek', hwk⟩ := hok.arrW (C := cx B0 old) en60_len
    obtain ⟨ek1, _, _⟩ := Value.slice.inj ek'
    have hwkA : ArrW (cx B0 old) Gk alk 21 en60 D := by rw [ek1]; simpa using hwk [] []
    refine ct_draw (masks := [0, 1, 3, 7, 15, 15, 47, 111, 255, 511, 15, 2047, 4095]) (plan := [0, 1, 2, 3, 4, 5, 6, 7, 8, 9, 10, 11, 12]) (E := []) (by kernel_rfl) (by kernel_rfl) (by kernel_rfl) (by kernel_rfl) ?_
    refine pl_midE (ι := Bool) (fun b => b = decide (D.getLast? ≠ some (keyS y.r.n))) (fun b => [(103, .bool b), (14, .pointer (some ⟨b14, 0, none⟩)), (12, .int .i64 (i : Int)), (11, .slice al2 E2.length cl2), (10, .slice al1 E1.length cl1), (9, .slice alk D.length clk), (8, .slice (some ⟨b1, o1, none⟩) L0.length c0), (5, .pointer (some p0)), (3, .pointer (some ⟨b3, 0, none⟩))]) (fun _ => (b14, AObj.row (en60 (keyS y.r.n)) 21 false) :: (Hs ++ (Gk ++ (G1 ++ (G2 ++ (G0 ++ [(b3, AObj.row (enW rw_) 38 false)])))))) ?_ ?_
    · repeat(first|refine Y0 ?_|(refine YP ?_;first|refine y1 ?_|refine y2 ?_|refine Y1 ?_|refine Y2 ?_))
      by_cases hDe : D.length = 0
      · rw [show ((D.length : Int) == 0) = true by rw [hDe]; rfl]
        repeat(first|refine Y0 ?_|(refine YP ?_;first|refine y1 ?_|refine y2 ?_|refine Y1 ?_|refine Y2 ?_))
        refine ⟨true, ?_, by repeat(first|exact SubL.nil|refine SubL.cons rfl ?_), by exact drop_auto⟩
        rw [List.eq_nil_of_length_eq_zero hDe]
        simp
      rw [show ((D.length : Int) == 0) = false by rw [beq_eq_false_iff_ne]; omega]
      obtain ⟨z, hz⟩ : ∃ z, D[D.length - 1]? = some z := ⟨_, List.getElem?_eq_getElem (by omega)⟩
      obtain ⟨bk, ok, csk, ek, hrowk, hcutk⟩ := (hwkA.arr en60_len).els _ _ hz
      subst ek
      have hL3 : ∀ H', Gk.Sublist H' → ∀ {off : Nat} (h : off = ok + (D.length - 1) * 21 := by omega), LdT (cx B0 old) 43 H' bk off (.agg ⟨en60 z⟩) := fun H' hs off h => by rw [h]; exact ldP (hrowk.weak hs) rfl (sz rfl) hcutk
      have hlast : D.getLast? = some z := by rw [List.getLast?_eq_getElem?]; exact hz
      repeat(first|refine Y0 ?_|(refine YP ?_;first|refine y1 ?_|refine y2 ?_|refine Y1 ?_|refine Y2 ?_))
      by_cases hzk : z = keyS y.r.n
      · have hs := leaf60 z
        rw [← hzk]
        repeat(first|refine Y0 ?_|(refine YP ?_;first|refine y1 ?_|refine y2 ?_|refine Y1 ?_|refine Y2 ?_))
        rw [hs]
        repeat(first|refine Y0 ?_|(refine YP ?_;first|refine y1 ?_|refine y2 ?_|refine Y1 ?_|refine Y2 ?_))
        refine ⟨false, ?_, by repeat(first|exact SubL.nil|refine SubL.cons rfl ?_), by exact drop_auto⟩
        rw [hlast]; simp
      · have hs := leaf60_ne hzk
        repeat(first|refine Y0 ?_|(refine YP ?_;first|refine y1 ?_|refine y2 ?_|refine Y1 ?_|refine Y2 ?_))
        rw [hs]
        repeat(first|refine Y0 ?_|(refine YP ?_;first|refine y1 ?_|refine y2 ?_|refine Y1 ?_|refine Y2 ?_))
        refine ⟨true, ?_, by repeat(first|exact SubL.nil|refine SubL.cons rfl ?_), by exact drop_auto⟩
        rw [hlast]
        simp [hzk]
    intro b hb
    refine ct_midE (ι := Value × Hp) (fun j => Own en60 21 (dd (K.take (i + 1))) j.1 j.2) (fun j => [(14, .pointer (some ⟨b14, 0, none⟩)), (12, .int .i64 (i : Int)), (11, .slice al2 E2.length cl2), (10, .slice al1 E1.length cl1), (9, j.1), (8, .slice (some ⟨b1, o1, none⟩) L0.length c0), (5, .pointer (some p0)), (3, .pointer (some ⟨b3, 0, none⟩))]) (fun j => (b14, AObj.row (en60 (keyS y.r.n)) 21 false) :: (Hs ++ (j.2 ++ (G1 ++ (G2 ++ (G0 ++ [(b3, AObj.row (enW rw_) 38 false)])))))) ?_ ?_
    · cases b
      · rw [if_pos (by simpa using hb.symm)] at hnext
        repeat(first|refine Z0 ?_|(refine ZR ?_;first|refine x1 ?_|refine x2 ?_|refine x8 ?_|refine Z1 ?_|refine Z2 ?_|refine x3 fun _=>?_|refine x4 fun _=>?_|refine x5 fun _=>?_|refine Z3 fun _=>?_|refine Z4 fun _=>?_)|refine ZC ?_)
        exact ⟨(_, Gk), by dsimp only; rw [hnext]; exact hok, by repeat(first|exact SubL.nil|refine SubL.cons rfl ?_), by exact drop_auto⟩
      · rw [if_neg (by simpa using hb.symm)] at hnext
        repeat(first|refine Z0 ?_|(refine ZR ?_;first|refine x1 ?_|refine x2 ?_|refine x8 ?_|refine Z1 ?_|refine Z2 ?_|refine x3 fun _=>?_|refine x4 fun _=>?_|refine x5 fun _=>?_|refine Z3 fun _=>?_|refine Z4 fun _=>?_)|refine ZC ?_)
        rename_i bs
        refine rt_step rfl rfl rfl (st_appP (M := [keyS y.r.n]) (c := 1) (pre := _ :: _ :: Hs) hok en60_len en60_one rfl rfl (ap rfl) (arrW_one en60_len hm0) (Nat.le_trans (Nat.mul_le_mul_right _ (show 2 * (D.length + [keyS y.r.n].length) + 192 ≤ 6000 by rw [List.length_singleton]; omega)) (by decide)) fun v9 G9 o9 => ?_)
        repeat(first|refine Z0 ?_|(refine ZR ?_;first|refine x1 ?_|refine x2 ?_|refine x8 ?_|refine Z1 ?_|refine Z2 ?_|refine x3 fun _=>?_|refine x4 fun _=>?_|refine x5 fun _=>?_|refine Z3 fun _=>?_|refine Z4 fun _=>?_)|refine ZC ?_)
        exact ⟨(v9, G9), by dsimp only; rw [hnext]; exact o9, by repeat(first|exact SubL.nil|refine SubL.cons rfl ?_), by exact drop_auto⟩
    clear hok hwk hwkA ek' ek1 hb
    clear hnext hdl
    rintro ⟨vk, Gk⟩ hok
    dsimp only at hok ⊢
    have hdl := hddl (i + 1)
    obtain ⟨alk2, clk2, rfl, _⟩ := hok.arrW (C := cx B0 old) en60_len
    repeat(first|refine Z0 ?_|(refine ZR ?_;first|refine x1 ?_|refine x2 ?_|refine x8 ?_|refine Z1 ?_|refine Z2 ?_|refine x3 fun _=>?_|refine x4 fun _=>?_|refine x5 fun _=>?_|refine Z3 fun _=>?_|refine Z4 fun _=>?_)|refine ZC ?_)
    refine ct_draw (masks := [0, 0, 2, 6, 15]) (plan := [0, 1, 2, 3, 4]) (E := []) (by kernel_rfl) (by kernel_rfl) (by kernel_rfl) (by kernel_rfl) ?_
    refine pl_midE (ι := Bool) (fun b => b = decide (keyS y.r.n = keyS rw_.r.n)) (fun b => [(112, .bool b), (14, .pointer (some ⟨b14, 0, none⟩)), (12, .int .i64 (i : Int)), (11, .slice al2 E2.length cl2), (10, .slice al1 E1.length cl1), (9, .slice alk2 (dd (K.take (i + 1))).length clk2), (8, .slice (some ⟨b1, o1, none⟩) L0.length c0), (5, .pointer (some p0)), (3, .pointer (some ⟨b3, 0, none⟩))]) (fun _ => (b14, AObj.row (en60 (keyS y.r.n)) 21 false) :: (Hs ++ (Gk ++ (G1 ++ (G2 ++ (G0 ++ [(b3, AObj.row (enW rw_) 38 false)])))))) ?_ ?_
    · repeat(first|refine Y0 ?_|(refine YP ?_;first|refine y1 ?_|refine y2 ?_|refine Y1 ?_|refine Y2 ?_))
      refine pl_S rfl rfl rfl rfl rfl rfl (st_call rfl rfl rfl rfl (hky rw_.r.n ⟨by exact rec_auto, ?_⟩))
      repeat(first|refine Y0 ?_|(refine YP ?_;first|refine y1 ?_|refine y2 ?_|refine Y1 ?_|refine Y2 ?_))
      refine ⟨_, ?_, by repeat(first|exact SubL.nil|refine SubL.cons rfl ?_), by exact drop_auto⟩
      by_cases hkk : keyS y.r.n = keyS rw_.r.n
      · rw [hkk, leaf60]; simp
      · rw [leaf60_ne hkk, decide_eq_false hkk]
    intro b hb
    refine ct_midE (ι := Value × Hp) (fun j => Own enW 38 ((L0.take (i + 1)).filter fun x => decide (keyS x.r.n = keyS rw_.r.n)) j.1 j.2) (fun j => [(14, .pointer (some ⟨b14, 0, none⟩)), (12, .int .i64 (i : Int)), (11, .slice al2 E2.length cl2), (10, j.1), (9, .slice alk2 (dd (K.take (i + 1))).length clk2), (8, .slice (some ⟨b1, o1, none⟩) L0.length c0), (5, .pointer (some p0)), (3, .pointer (some ⟨b3, 0, none⟩))]) (fun j => (b14, AObj.row (en60 (keyS y.r.n)) 21 false) :: (Hs ++ (Gk ++ (j.2 ++ (G2 ++ (G0 ++ [(b3, AObj.row (enW rw_) 38 false)])))))) ?_ ?_
    · rw [← hb] at hfl1
      cases b
      · repeat(first|refine Z0 ?_|(refine ZR ?_;first|refine x1 ?_|refine x2 ?_|refine x8 ?_|refine Z1 ?_|refine Z2 ?_|refine x3 fun _=>?_|refine x4 fun _=>?_|refine x5 fun _=>?_|refine Z3 fun _=>?_|refine Z4 fun _=>?_)|refine ZC ?_)
        exact ⟨(_, G1), by dsimp only; rw [hfl1]; exact ho1, by repeat(first|exact SubL.nil|refine SubL.cons rfl ?_), by exact drop_auto⟩
      · repeat(first|refine Z0 ?_|(refine ZR ?_;first|refine x1 ?_|refine x2 ?_|refine x8 ?_|refine Z1 ?_|refine Z2 ?_|refine x3 fun _=>?_|refine x4 fun _=>?_|refine x5 fun _=>?_|refine Z3 fun _=>?_|refine Z4 fun _=>?_)|refine ZC ?_)
        rename_i bs
        refine RunT.perm (H' := (bs, _) :: (b14, AObj.row (en60 (keyS y.r.n)) 21 false) :: ((Hs ++ Gk) ++ (G1 ++ (G2 ++ (G0 ++ [(b3, AObj.row (enW rw_) 38 false)]))))) ?_ (List.Perm.of_eq (by simp only [List.append_assoc]; rfl))
        refine rt_step rfl rfl rfl (st_appP (M := [y]) (c := 1) (pre := _ :: _ :: (Hs ++ Gk)) ho1 enW_len enW_one rfl rfl (ap rfl) (arrW_one enW_len hm0) (Nat.le_trans (Nat.mul_le_mul_right _ (show 2 * (E1.length + [y].length) + 192 ≤ 6000 by rw [List.length_singleton]; omega)) (by decide)) fun v9 G9 o9 => ?_)
        refine RunT.perm (H' := (bs, _) :: (b14, AObj.row (en60 (keyS y.r.n)) 21 false) :: (Hs ++ (Gk ++ (G9 ++ (G2 ++ (G0 ++ [(b3, AObj.row (enW rw_) 38 false)])))))) ?_ (List.Perm.of_eq (by simp only [List.append_assoc, List.cons_append]; rfl))
        repeat(first|refine Z0 ?_|(refine ZR ?_;first|refine x1 ?_|refine x2 ?_|refine x8 ?_|refine Z1 ?_|refine Z2 ?_|refine x3 fun _=>?_|refine x4 fun _=>?_|refine x5 fun _=>?_|refine Z3 fun _=>?_|refine Z4 fun _=>?_)|refine ZC ?_)
        exact ⟨(v9, G9), by dsimp only; rw [hfl1]; exact o9, by repeat(first|exact SubL.nil|refine SubL.cons rfl ?_), by exact drop_auto⟩
    clear hb
    rintro ⟨v1, G1⟩ ho1'
    dsimp only at ho1' ⊢
    obtain ⟨al12, cl12, rfl, _⟩ := ho1'.arrW (C := cx B0 old) enW_len
    repeat(first|refine Z0 ?_|(refine ZR ?_;first|refine x1 ?_|refine x2 ?_|refine x8 ?_|refine Z1 ?_|refine Z2 ?_|refine x3 fun _=>?_|refine x4 fun _=>?_|refine x5 fun _=>?_|refine Z3 fun _=>?_|refine Z4 fun _=>?_)|refine ZC ?_)
    refine ct_draw (masks := [0, 0, 3, 7, 15, 0, 32, 127]) (plan := [0, 1, 2, 3, 4, 5, 6, 7]) (E := []) (by kernel_rfl) (by kernel_rfl) (by kernel_rfl) (by kernel_rfl) ?_
    repeat(first|refine Y0 ?_|(refine YP ?_;first|refine y1 ?_|refine y2 ?_|refine Y1 ?_|refine Y2 ?_))
    repeat(first|refine Z0 ?_|(refine ZR ?_;first|refine x1 ?_|refine x2 ?_|refine x8 ?_|refine Z1 ?_|refine Z2 ?_|refine x3 fun _=>?_|refine x4 fun _=>?_|refine x5 fun _=>?_|refine Z3 fun _=>?_|refine Z4 fun _=>?_)|refine ZC ?_)
    refine ct_midE (ι := Value × Hp) (fun j => Own enW 38 ((L0.take (i + 1)).filter fun x => decide (x.r.peer = rw_.r.peer)) j.1 j.2) (fun j => [(14, .pointer (some ⟨b14, 0, none⟩)), (12, .int .i64 (i : Int)), (11, j.1), (10, .slice al12 ((L0.take (i + 1)).filter fun x => decide (keyS x.r.n = keyS rw_.r.n)).length cl12), (9, .slice alk2 (dd (K.take (i + 1))).length clk2), (8, .slice (some ⟨b1, o1, none⟩) L0.length c0), (5, .pointer (some p0)), (3, .pointer (some ⟨b3, 0, none⟩))]) (fun j => (b14, AObj.row (en60 (keyS y.r.n)) 21 false) :: (Hs ++ (Gk ++ (G1 ++ (j.2 ++ (G0 ++ [(b3, AObj.row (enW rw_) 38 false)])))))) ?_ ?_
    · refine z2 (fun hc => ?_) (fun hc => ?_)
      · rw [decide_eq_true hc] at hfl2
        repeat(first|refine Z0 ?_|(refine ZR ?_;first|refine x1 ?_|refine x2 ?_|refine x8 ?_|refine Z1 ?_|refine Z2 ?_|refine x3 fun _=>?_|refine x4 fun _=>?_|refine x5 fun _=>?_|refine Z3 fun _=>?_|refine Z4 fun _=>?_)|refine ZC ?_)
        rename_i bs
        refine RunT.perm (H' := (bs, _) :: (b14, AObj.row (en60 (keyS y.r.n)) 21 false) :: ((Hs ++ (Gk ++ G1)) ++ (G2 ++ (G0 ++ [(b3, AObj.row (enW rw_) 38 false)])))) ?_ (List.Perm.of_eq (by simp only [List.append_assoc]; rfl))
        refine rt_step rfl rfl rfl (st_appP (M := [y]) (c := 1) (pre := _ :: _ :: (Hs ++ (Gk ++ G1))) ho2 enW_len enW_one rfl rfl (ap rfl) (arrW_one enW_len hm0) (Nat.le_trans (Nat.mul_le_mul_right _ (show 2 * (E2.length + [y].length) + 192 ≤ 6000 by rw [List.length_singleton]; omega)) (by decide)) fun v9 G9 o9 => ?_)
        refine RunT.perm (H' := (bs, _) :: (b14, AObj.row (en60 (keyS y.r.n)) 21 false) :: (Hs ++ (Gk ++ (G1 ++ (G9 ++ (G0 ++ [(b3, AObj.row (enW rw_) 38 false)])))))) ?_ (List.Perm.of_eq (by simp only [List.append_assoc, List.cons_append]; rfl))
        repeat(first|refine Z0 ?_|(refine ZR ?_;first|refine x1 ?_|refine x2 ?_|refine x8 ?_|refine Z1 ?_|refine Z2 ?_|refine x3 fun _=>?_|refine x4 fun _=>?_|refine x5 fun _=>?_|refine Z3 fun _=>?_|refine Z4 fun _=>?_)|refine ZC ?_)
        exact ⟨(v9, G9), by dsimp only; rw [hfl2]; exact o9, by repeat(first|exact SubL.nil|refine SubL.cons rfl ?_), by exact drop_auto⟩
      · rw [decide_eq_false hc] at hfl2
        repeat(first|refine Z0 ?_|(refine ZR ?_;first|refine x1 ?_|refine x2 ?_|refine x8 ?_|refine Z1 ?_|refine Z2 ?_|refine x3 fun _=>?_|refine x4 fun _=>?_|refine x5 fun _=>?_|refine Z3 fun _=>?_|refine Z4 fun _=>?_)|refine ZC ?_)
        exact ⟨(_, G2), by dsimp only; rw [hfl2]; exact ho2, by repeat(first|exact SubL.nil|refine SubL.cons rfl ?_), by exact drop_auto⟩
    rintro ⟨v2, G2⟩ ho2'
    dsimp only at ho2' ⊢
    obtain ⟨al22, cl22, rfl, _⟩ := ho2'.arrW (C := cx B0 old) enW_len
    repeat(first|refine Z0 ?_|(refine ZR ?_;first|refine x1 ?_|refine x2 ?_|refine x8 ?_|refine Z1 ?_|refine Z2 ?_|refine x3 fun _=>?_|refine x4 fun _=>?_|refine x5 fun _=>?_|refine Z3 fun _=>?_|refine Z4 fun _=>?_)|refine ZC ?_)
    refine ct_draw (masks := [0, 0, 0, 6, 14, 30, 0, 0, 192, 448, 960, 2047, 4095, 8191, 8191, 0, 49151, 131071]) (plan := [0, 1, 2, 3, 4, 5, 6, 7, 8, 9, 10, 11, 12, 13, 14, 15, 16, 17]) (E := [15]) (by kernel_rfl) (by kernel_rfl) (by kernel_rfl) (by kernel_rfl) ?_
    repeat(first|refine Y0 ?_|(refine YP ?_;first|refine y1 ?_|refine y2 ?_|refine Y1 ?_|refine Y2 ?_))
    refine pl_S' (late_has 15 rfl (made_alloc rfl rfl (zr rfl))) rfl rfl rfl rfl rfl rfl (st_call rfl rfl rfl rfl (CallT.perm (CallT.fuel (n := n + 20026 + 3) (get29_ct y.r.n y.r.peer hI fun u G9 hu huR => ⟨?_, ?_⟩) rfl) List.perm_middle))
    · exact rec_auto
    have hgt : getR M ⟨keyS y.r.n, y.r.peer⟩ = some y.r := (getR_iff hsM).2 ⟨hym, rfl⟩
    rw [hgt] at hu ⊢
    have hu : u.r = y.r := hu
    have hul := (hvM _ hym).len
    rw [← hu] at hul
    unfold enW enR
    repeat(first|refine Y0 ?_|(refine YP ?_;first|refine y1 ?_|refine y2 ?_|refine Y1 ?_|refine Y2 ?_))
    refine pl_S' (late_has 15 rfl (made_alloc rfl rfl (zr rfl))) rfl rfl rfl rfl rfl rfl (st_alloc (zr rfl) fun b15 => ⟨by exact rec_auto, ?_⟩)
    repeat(first|refine Y0 ?_|(refine YP ?_;first|refine y1 ?_|refine y2 ?_|refine Y1 ?_|refine Y2 ?_))
    refine pl_S0' (late_no rfl) rfl rfl rfl rfl rfl (st_storeW rfl rfl hm0 (sz rfl) rfl rfl rfl sw0 ⟨by exact rec_auto, ?_⟩)
    repeat(first|refine Y0 ?_|(refine YP ?_;first|refine y1 ?_|refine y2 ?_|refine Y1 ?_|refine Y2 ?_))
    repeat(first|refine Z0 ?_|(refine ZR ?_;first|refine x1 ?_|refine x2 ?_|refine x8 ?_|refine Z1 ?_|refine Z2 ?_|refine x3 fun _=>?_|refine x4 fun _=>?_|refine x5 fun _=>?_|refine Z3 fun _=>?_|refine Z4 fun _=>?_)|refine ZC ?_)
    refine ct_draw (masks := [0, 1, 3, 7, 7, 7, 55, 119, 255, 511, 1023]) (plan := [0, 1, 2, 3, 4, 5, 6, 7, 8, 9, 10]) (E := []) (by kernel_rfl) (by kernel_rfl) (by kernel_rfl) (by kernel_rfl) ?_
    repeat(first|refine Y0 ?_|(refine YP ?_;first|refine y1 ?_|refine y2 ?_|refine Y1 ?_|refine Y2 ?_))
    refine pl_S rfl rfl rfl rfl rfl rfl (st_call rfl rfl rfl rfl (same30_ct u y (by omega) (huR.weak (by exact drop_auto)) ((hR0 y (List.mem_of_getElem? hy)).weak (by exact drop_auto)) fun t ht => ⟨by exact rec_auto, ?_⟩))
    obtain rfl : t = true := ht.2 hu
    repeat(first|refine Y0 ?_|(refine YP ?_;first|refine y1 ?_|refine y2 ?_|refine Y1 ?_|refine Y2 ?_))
    repeat(first|refine Z0 ?_|(refine ZR ?_;first|refine x1 ?_|refine x2 ?_|refine x8 ?_|refine Z1 ?_|refine Z2 ?_|refine x3 fun _=>?_|refine x4 fun _=>?_|refine x5 fun _=>?_|refine Z3 fun _=>?_|refine Z4 fun _=>?_)|refine ZC ?_)
    exact ⟨(i + 1, _, _, _, Gk, G1, G2), ⟨by dsimp only; omega, hok, ho1', ho2'⟩, by dsimp only; omega, by repeat(first|exact SubL.nil|refine SubL.cons rfl ?_), by exact drop_auto⟩
  rintro ⟨vk, v1, v2, Gk, G1, G2⟩ ⟨hok, ho1, ho2⟩
  dsimp only at hok ho1 ho2 ⊢
  have hf1 : (L0.filter fun x => decide (keyS x.r.n = keyS rw_.r.n)).length ≤ 60 := Nat.le_trans (List.length_filter_le _ _) (by omega)
  have hf2 : (L0.filter fun x => decide (x.r.peer = rw_.r.peer)).length ≤ 60 := Nat.le_trans (List.length_filter_le _ _) (by omega)
  have hfe1 : (L0.filter fun x => decide (keyS x.r.n = keyS rw_.r.n)).map (·.r) = M.filter fun r => decide (keyS r.n = keyS rw_.r.n) := by rw [← hL0m, List.filter_map]; rfl
  have hfe2 : (L0.filter fun x => decide (x.r.peer = rw_.r.peer)).map (·.r) = M.filter fun r => decide (r.peer = rw_.r.peer) := by rw [← hL0m, List.filter_map]; rfl
  have hdl := dd_len K
  rw [hK, List.length_map, ← hK] at hdl
  have hKM : keysM M = dd K := by rw [hK]; rfl
  have hR1 : ∀ x ∈ (L0.filter fun x => decide (keyS x.r.n = keyS rw_.r.n)), Rd (cx B0 old) G0 x := fun x hx => hR0 x (List.mem_filter.1 hx).1
  have hR2 : ∀ x ∈ (L0.filter fun x => decide (x.r.peer = rw_.r.peer)), Rd (cx B0 old) G0 x := fun x hx => hR0 x (List.mem_filter.1 hx).1
  obtain ⟨E1, hE1⟩ : ∃ E, (L0.filter fun x => decide (keyS x.r.n = keyS rw_.r.n)) = E := ⟨_, rfl⟩
  obtain ⟨E2, hE2⟩ : ∃ E, (L0.filter fun x => decide (x.r.peer = rw_.r.peer)) = E := ⟨_, rfl⟩
  obtain ⟨D, hD⟩ : ∃ D, dd K = D := ⟨_, rfl⟩
  rw [hE1] at ho1 hf1 hfe1 hR1
  rw [hE2] at ho2 hf2 hfe2 hR2
  rw [hD] at hok hdl hKM
  obtain ⟨alk, clk, rfl, hwk⟩ := hok.arrW (C := cx B0 old) en60_len
  obtain ⟨al1, cl1, rfl, hw1⟩ := ho1.arrW (C := cx B0 old) enW_len
  obtain ⟨al2, cl2, rfl, hw2⟩ := ho2.arrW (C := cx B0 old) enW_len
  have hsK : RsK (cx B0 old) Gk D (.slice alk D.length clk) := ⟨_, _, rfl, by simpa using hwk [] []⟩
  have hs1 : RsA (cx B0 old) (G1 ++ (G2 ++ G0)) (M.filter fun r => decide (keyS r.n = keyS rw_.r.n)) (.slice al1 E1.length cl1) := ⟨E1, _, _, rfl, hw1 [] _, fun x hx => (hR1 x hx).weak (by rw [← List.append_assoc]; exact List.sublist_append_right _ _), hfe1⟩
  have hs2 : RsA (cx B0 old) (G2 ++ G0) (M.filter fun r => decide (r.peer = rw_.r.peer)) (.slice al2 E2.length cl2) := ⟨E2, _, _, rfl, hw2 [] _, fun x hx => (hR2 x hx).weak (List.sublist_append_right _ _), hfe2⟩
  have hlt : ∀ {f : Rt → Bool}, ∀ r ∈ M.filter f, r.a.light := fun r hr => (hvM r (List.mem_filter.1 hr).1).light
  have hll : ∀ {f : Rt → Bool}, (M.filter f).length ≤ 60 := Nat.le_trans (List.length_filter_le _ _) hM0
  repeat(first|refine Z0 ?_|(refine ZR ?_;first|refine x1 ?_|refine x2 ?_|refine x8 ?_|refine Z1 ?_|refine Z2 ?_|refine x3 fun _=>?_|refine x4 fun _=>?_|refine x5 fun _=>?_|refine Z3 fun _=>?_|refine Z4 fun _=>?_)|refine ZC ?_)
  refine rt_step rfl rfl rfl (st_call rfl rfl rfl rfl (many19_ct hI ?_))
  repeat(first|refine Z0 ?_|(refine ZR ?_;first|refine x1 ?_|refine x2 ?_|refine x8 ?_|refine Z1 ?_|refine Z2 ?_|refine x3 fun _=>?_|refine x4 fun _=>?_|refine x5 fun _=>?_|refine Z3 fun _=>?_|refine Z4 fun _=>?_)|refine ZC ?_)
  rw [show ((L0.length : Int) == (M.length : Int)) = true by rw [hl0]; exact beq_self_eq_true _]
  repeat(first|refine Z0 ?_|(refine ZR ?_;first|refine x1 ?_|refine x2 ?_|refine x8 ?_|refine Z1 ?_|refine Z2 ?_|refine x3 fun _=>?_|refine x4 fun _=>?_|refine x5 fun _=>?_|refine Z3 fun _=>?_|refine Z4 fun _=>?_)|refine ZC ?_)
  refine rt_step rfl rfl rfl (st_call rfl rfl rfl rfl (CallT.fuel (n := n + 19009 + 1020) (keys32_ct hI (show M.length ≤ 1000 by omega) fun w G5 hG5 => ?_) rfl))
  rw [hKM] at hG5
  obtain ⟨ad5, c5, rfl, hG5w⟩ := id hG5
  repeat(first|refine Z0 ?_|(refine ZR ?_;first|refine x1 ?_|refine x2 ?_|refine x8 ?_|refine Z1 ?_|refine Z2 ?_|refine x3 fun _=>?_|refine x4 fun _=>?_|refine x5 fun _=>?_|refine Z3 fun _=>?_|refine Z4 fun _=>?_)|refine ZC ?_)
  refine rt_step rfl rfl rfl (st_call rfl rfl rfl rfl (CallT.fuel (n := n + 20028 + 1) (same31_ct (hG5.weak (by exact drop_auto)) (hsK.weak (by exact drop_auto)) (by omega) fun t ht => ?_) rfl))
  obtain rfl : t = true := ht.2 rfl
  repeat(first|refine Z0 ?_|(refine ZR ?_;first|refine x1 ?_|refine x2 ?_|refine x8 ?_|refine Z1 ?_|refine Z2 ?_|refine x3 fun _=>?_|refine x4 fun _=>?_|refine x5 fun _=>?_|refine Z3 fun _=>?_|refine Z4 fun _=>?_)|refine ZC ?_)
  refine rt_step rfl rfl rfl (st_call rfl rfl rfl rfl (CallT.perm (CallT.fuel (n := n + 9 + 20020) (routes33_ct rw_.r.n hI (show M.length ≤ 20000 by omega) fun w G6 hG6 => ?_) rfl) (List.perm_append_comm_assoc Hs G5 _)))
  have hG6' := hG6.toA
  obtain ⟨L6, ad6, c6, rfl, _, _, _⟩ := id hG6'
  repeat(first|refine Z0 ?_|(refine ZR ?_;first|refine x1 ?_|refine x2 ?_|refine x8 ?_|refine Z1 ?_|refine Z2 ?_|refine x3 fun _=>?_|refine x4 fun _=>?_|refine x5 fun _=>?_|refine Z3 fun _=>?_|refine Z4 fun _=>?_)|refine ZC ?_)
  refine rt_step rfl rfl rfl (st_call rfl rfl rfl rfl (CallT.fuel (n := n + 20025 + 4) (sames14_ct (hG6'.weak (by exact drop_auto)) (hs1.weak (by exact drop_auto)) (Nat.le_trans hll (by decide)) hlt fun t ht => ?_) rfl))
  obtain rfl : t = true := ht.2 rfl
  repeat(first|refine Z0 ?_|(refine ZR ?_;first|refine x1 ?_|refine x2 ?_|refine x8 ?_|refine Z1 ?_|refine Z2 ?_|refine x3 fun _=>?_|refine x4 fun _=>?_|refine x5 fun _=>?_|refine Z3 fun _=>?_|refine Z4 fun _=>?_)|refine ZC ?_)
  refine rt_step rfl rfl rfl (st_call rfl rfl rfl rfl (CallT.perm (CallT.fuel (n := n + 9 + 20020) (from20_ct rw_.r.peer hI (show M.length ≤ 20000 by omega) fun w G7 hG7 => ?_) rfl) (List.perm_append_comm_assoc Hs G6 _)))
  have hG7' := hG7.toA
  obtain ⟨L7, ad7, c7, rfl, _, _, _⟩ := id hG7'
  repeat(first|refine Z0 ?_|(refine ZR ?_;first|refine x1 ?_|refine x2 ?_|refine x8 ?_|refine Z1 ?_|refine Z2 ?_|refine x3 fun _=>?_|refine x4 fun _=>?_|refine x5 fun _=>?_|refine Z3 fun _=>?_|refine Z4 fun _=>?_)|refine ZC ?_)
  refine rt_step rfl rfl rfl (st_call rfl rfl rfl rfl (CallT.fuel (n := n + 20025 + 4) (sames14_ct (hG7'.weak (by exact drop_auto)) (hs2.weak (by exact drop_auto)) (Nat.le_trans hll (by decide)) hlt fun t ht => ?_) rfl))
  obtain rfl : t = true := ht.2 rfl
  repeat(first|refine Z0 ?_|(refine ZR ?_;first|refine x1 ?_|refine x2 ?_|refine x8 ?_|refine Z1 ?_|refine Z2 ?_|refine x3 fun _=>?_|refine x4 fun _=>?_|refine x5 fun _=>?_|refine Z3 fun _=>?_|refine Z4 fun _=>?_)|refine ZC ?_)
  exact re_1 rfl rfl (List.nil_sublist _) hQ
end
end Go.Proofs.YtphadapcafibpaaGreat.Abs
