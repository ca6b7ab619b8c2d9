/- A restart, in plain Lean: routes that became stale, were put again, or swept. -/
import Derived.Test.YtphadapcafibpaaGreatYe
import Derived.Test.YtphadapcafibpaaGreatSep3
namespace Go.Proofs.YtphadapcafibpaaGreat.Abs
open Go
set_option linter.unusedVariables false
variable {e : Rt} {M : List Rt} {f g : Rt → Bool} {p : Int}
theorem putR_front : ∀ {L : List Rt}, (∀ x ∈ L, rkR e < rkR x) → putR e L = e :: L
  | [], _ => rfl
  | x :: l, h => by
    have := h x (List.mem_cons_self ..)
    unfold putR
    rw [if_neg (by omega), if_neg (by omega)]
theorem putR_cons (e x : Rt) (l : List Rt) : putR e (x :: l) = if rkR x < rkR e then x :: putR e l else if rkR x = rkR e then e :: l else e :: x :: l := rfl
theorem putR_filter (hf : f e = true) : ∀ {M : List Rt}, SrtR M → (putR e M).filter f = putR e (M.filter f)
  | [], _ => by simp [putR, hf]
  | x :: l, h => by
    obtain ⟨h1, h2⟩ := SrtR.cons.1 h
    rw [putR_cons]
    by_cases c1 : rkR x < rkR e
    · rw [if_pos c1]
      have ih := putR_filter hf h2
      cases hx : f x with
      | true =>
        rw [List.filter_cons_of_pos hx, List.filter_cons_of_pos hx, ih]
        rw [putR_cons, if_pos c1]
      | false =>
        rw [List.filter_cons_of_neg (by simp [hx]), List.filter_cons_of_neg (by simp [hx]), ih]
    · rw [if_neg c1]
      by_cases c2 : rkR x = rkR e
      · rw [if_pos c2, List.filter_cons_of_pos hf]
        cases hx : f x with
        | true =>
          rw [List.filter_cons_of_pos hx]
          rw [putR_cons, if_neg c1, if_pos c2]
        | false =>
          rw [List.filter_cons_of_neg (by simp [hx]), putR_front (L := l.filter f) fun y hy => by have := h1 y (List.mem_filter.1 hy).1; omega]
      · rw [if_neg c2, List.filter_cons_of_pos hf]
        rw [putR_front (L := (x :: l).filter f) fun y hy => by
          rcases List.mem_cons.1 (List.mem_filter.1 hy).1 with rfl | h
          · omega
          · have := h1 y h; omega]
theorem putR_filterN (hg : g e = false) : ∀ {M : List Rt}, (∀ x ∈ M, rkR x = rkR e → g x = false) → (putR e M).filter g = M.filter g
  | [], _ => by simp [putR, hg]
  | x :: l, h => by
    have ih := putR_filterN (M := l) hg fun y hy => h y (List.mem_cons_of_mem _ hy)
    unfold putR
    split
    · rw [List.filter_cons, List.filter_cons, ih]
    · split
      · rename_i h1 h2
        rw [List.filter_cons_of_neg (by simp [hg]), List.filter_cons_of_neg (by simp [h x (List.mem_cons_self ..) h2])]
      · rw [List.filter_cons_of_neg (by simp [hg])]
theorem putR_sub (hg : g e = false) : ∀ {M : List Rt}, ((putR e M).filter g).Sublist (M.filter g)
  | [] => by simp [putR, hg]
  | x :: l => by
    have ih := putR_sub (M := l) hg
    unfold putR
    split
    · rw [List.filter_cons, List.filter_cons]
      split
      · exact ih.cons_cons _
      · exact ih
    · split
      · rw [List.filter_cons_of_neg (by simp [hg]), List.filter_cons]
        split
        · exact List.sublist_cons_self _ _
        · exact List.Sublist.refl _
      · rw [List.filter_cons_of_neg (by simp [hg])]
        exact List.Sublist.refl _
theorem putR_ge : ∀ {M : List Rt}, M.length ≤ (putR e M).length
  | [] => Nat.zero_le _
  | x :: l => by
    have := putR_ge (M := l)
    unfold putR
    split
    · simp only [List.length_cons]; omega
    · split <;> simp only [List.length_cons] <;> omega
theorem putR_self : ∀ {M : List Rt}, SrtR M → e ∈ M → putR e M = M
  | [], _, h => by cases h
  | x :: l, h, hm => by
    obtain ⟨h1, h2⟩ := SrtR.cons.1 h
    unfold putR
    rcases List.mem_cons.1 hm with rfl | hm
    · rw [if_neg (by omega), if_pos rfl]
    · have := h1 e hm
      rw [if_pos this, putR_self h2 hm]
/-- Where a route is put. -/
theorem putR_at : ∀ {M : List Rt} {k : Nat}, SrtR M → k ≤ M.length → (∀ (j : Nat) x, M[j]? = some x → j < k → rkR x < rkR e) → (∀ x, M[k]? = some x → rkR e ≤ rkR x) →
    putR e M = match M[k]? with | some x => if rkR x = rkR e then M.set k e else M.take k ++ ([e] ++ M.drop k) | none => M.take k ++ ([e] ++ M.drop k)
  | [], k, _, hk, _, _ => by
    have : k = 0 := by simpa using hk
    subst this; rfl
  | x :: l, 0, h, _, _, h2 => by
    have := h2 x rfl
    unfold putR
    rw [if_neg (by omega)]
    show _ = if rkR x = rkR e then _ else _
    split <;> rfl
  | x :: l, k + 1, h, hk, h1, h2 => by
    obtain ⟨g1, g2⟩ := SrtR.cons.1 h
    have ih := putR_at (M := l) (k := k) g2 (by simpa using hk) (fun j y hy hj => h1 (j + 1) y (by simpa using hy) (by omega)) (fun y hy => h2 y (by simpa using hy))
    have := h1 0 x rfl (by omega)
    unfold putR
    rw [if_pos this, ih, List.getElem?_cons_succ]
    split
    · split <;> rfl
    · rfl
theorem nlC_key (x y : S60) : nlC (keyS x) (keyS y) = nlC x y := by unfold nlC; rw [keyS_key, keyS_key]
theorem rk_peer {x r : Rt} (hx : okP (plc x)) (hr : okP (plc r)) (hp : x.peer = r.peer) : (rkR x < rkR r ↔ nlC x.n r.n < 0) ∧ (rkR x = rkR r ↔ nlC x.n r.n = 0) := by
  refine ⟨?_, ?_⟩
  · unfold rkR
    rw [← rkP_lt hx hr]
    show (if nlC (keyS x.n) (keyS r.n) = 0 then sgn x.peer r.peer else nlC (keyS x.n) (keyS r.n)) < 0 ↔ _
    rw [nlC_key, hp, sgn_self]
    split
    · rename_i h; rw [h]
    · exact Iff.rfl
  · rw [nlC_zero]
    constructor
    · intro e
      have := rkP_inj hx hr e
      exact congrArg Pk.k this
    · intro e
      unfold rkR plc
      rw [e, hp]
def pP (p : Int) (r : Rt) : Bool := decide (r.peer = p)
def fP (p : Int) (r : Rt) : Bool := decide (r.peer = p) && !r.stale
def sP (p : Int) (r : Rt) : Bool := decide (r.peer = p) && r.stale
structure RsI (p : Int) (oth st : Nat) (M last : List Rt) : Prop where
  last : last = M.filter (fP p)
  oth : (M.filter (keepD p)).length = oth
  s1 : (M.filter (sP p)).length ≤ st
  s2 : st ≤ (M.filter (pP p)).length
theorem parts (p : Int) : ∀ M : List Rt, (M.filter (keepD p)).length + (M.filter (pP p)).length = M.length ∧ (M.filter (sP p)).length + (M.filter (fP p)).length = (M.filter (pP p)).length ∧ (M.filter (keepD p)).length + (M.filter (fP p)).length = (M.filter (keepS p)).length
  | [] => by simp
  | x :: l => by
    have ih := parts p l
    simp only [List.filter_cons]
    by_cases h : x.peer = p <;> cases h2 : x.stale <;> simp [keepD, pP, sP, fP, keepS, h, h2] <;> omega
theorem RsI.start (p : Int) (M : List Rt) : RsI p (M.filter (keepD p)).length (M.filter (pP p)).length (M.map (stlR p)) [] := by
  have h1 : ∀ x : Rt, keepD p (stlR p x) = keepD p x ∧ pP p (stlR p x) = pP p x ∧ fP p (stlR p x) = false ∧ sP p (stlR p x) = pP p x := fun x => by
    unfold stlR
    by_cases h : x.peer = p
    · rw [if_pos h]; simp [keepD, pP, fP, sP, h]
    · rw [if_neg h]; simp [keepD, pP, fP, sP, h]
  refine ⟨?_, ?_, ?_, ?_⟩
  · symm
    rw [List.filter_eq_nil_iff]
    intro x hx
    obtain ⟨y, _, rfl⟩ := List.mem_map.1 hx
    rw [(h1 y).2.2.1]; decide
  · rw [List.filter_map, List.length_map]
    congr 1
    exact List.filter_congr fun x _ => (h1 x).1
  · rw [List.filter_map, List.length_map]
    exact Nat.le_of_eq (by congr 1; exact List.filter_congr fun x _ => (h1 x).2.2.2)
  · rw [List.filter_map, List.length_map]
    exact Nat.le_of_eq (by congr 1; exact List.filter_congr fun x _ => (h1 x).2.1.symm)
theorem putM_err {lim : Int} {r : Rt} (h : (putM lim r M).2.2 ≠ 0) : (putM lim r M).1 = M := by
  unfold putM at h ⊢
  split
  · rfl
  · rename_i h1
    rw [if_neg h1] at h
    split
    · rename_i h2
      rw [h2] at h
      dsimp only at h
      split
      · rfl
      · rename_i h3
        rw [if_neg h3] at h
        exact absurd rfl h
    · rename_i o h2
      rw [h2] at h
      dsimp only at h
      split
      · rfl
      · rename_i h3
        rw [if_neg h3] at h
        exact absurd rfl h
theorem putM_ok {lim : Int} {r : Rt} (hs : SrtR M) (h : (putM lim r M).2.2 = 0) : rtCk r = 0 ∧ (putM lim r M).1 = putR r M := by
  unfold putM at h ⊢
  by_cases h1 : rtCk r ≠ 0
  · rw [if_pos h1] at h; exact absurd h h1
  · rw [if_neg h1] at h ⊢
    refine ⟨by omega, ?_⟩
    split
    · rename_i h2
      rw [h2] at h
      dsimp only at h
      split
      · rename_i h3; rw [if_pos h3] at h; cases h
      · rfl
    · rename_i o h2
      split
      · rename_i h3
        subst h3
        exact (putR_self hs ((getR_iff hs).1 h2).1).symm
      · rfl
theorem RsI.put {oth st : Nat} {last : List Rt} {r : Rt} (h : RsI p oth st M last) (hs : SrtR M) (hv : ∀ x ∈ M, okR x) (hr : okP (plc r)) (hp : r.peer = p) (ht : r.stale = false) : RsI p oth st (putR r M) (putR r last) := by
  have hf : fP p r = true := by simp [fP, hp, ht]
  have hd : keepD p r = false := by simp [keepD, hp]
  have hsp : sP p r = false := by simp [sP, ht]
  have hpp : pP p r = true := by simp [pP, hp]
  refine ⟨?_, ?_, ?_, ?_⟩
  · rw [putR_filter hf hs, h.last]
  · rw [putR_filterN hd fun x hx e => ?_, h.oth]
    have := rkP_inj (hv x hx).pl hr e
    have := congrArg Pk.peer this
    have h2 : x.peer = p := by rw [← hp]; exact this
    simp [keepD, h2]
  · exact Nat.le_trans (putR_sub hsp).length_le h.s1
  · rw [putR_filter hpp hs]
    exact Nat.le_trans h.s2 putR_ge
theorem RsI.fin {oth st : Nat} {last : List Rt} (h : RsI p oth st M last) : (M.filter (keepS p)).filter (pP p) = last ∧ (M.filter (keepS p)).length = oth + last.length ∧ (M.length : Int) - ((M.filter (keepS p)).length : Int) ≤ st ∧ (st : Int) - last.length ≤ (M.length : Int) - ((M.filter (keepS p)).length : Int) := by
  obtain ⟨p1, p2, p3⟩ := parts p M
  have h1 := h.oth
  have h2 := h.s1
  have h3 := h.s2
  have h4 : last.length = (M.filter (fP p)).length := by rw [h.last]
  refine ⟨?_, by omega, by omega, by omega⟩
  rw [List.filter_filter, h.last]
  refine List.filter_congr fun x _ => ?_
  simp only [pP, keepS, fP]
  cases decide (x.peer = p) <;> cases x.stale <;> rfl
end Go.Proofs.YtphadapcafibpaaGreat.Abs

/- What is read of the arguments; the contract of the closed examples (printed by gentz.py). -/
namespace Go.Proofs.YtphadapcafibpaaGreat.Abs
open Go Go.RowKit
set_option linter.unusedVariables false
set_option maxRecDepth 100000
set_option maxHeartbeats 2000000
theorem livesRun : acall (cell0 Tryz.prog) ansB 60 7 [] st0 isTrue = true := by kernel_rfl
theorem extOk [Tok] (B0 : Nat) (old : Nat → Option (List Value)) : ExtOk (cx B0 old) := by
  intro f args v h0
  have h : extS f args = some v := h0
  clear h0
  unfold extS at h
  split at h
  · rename_i e
    have e := Nat.eq_of_beq_eq_true e
    subst e
    cases h
    refine ⟨rfl, fun φ N args' w ha => ?_⟩
    cases ha
    exact closedX 60 7 livesRun w
  · cases h
theorem wfz_i64 {n : Int} (h : (Lit.int .i64 n).wf = true) : -9223372036854775808 ≤ n ∧ n ≤ 9223372036854775807 := by
  simp [Lit.wf, IntKind.min, IntKind.max, IntKind.signed, IntKind.bits] at h; omega
theorem wfz_u64 {n : Int} (h : (Lit.int .u64 n).wf = true) : 0 ≤ n ∧ n ≤ 18446744073709551615 := by
  simp [Lit.wf, IntKind.min, IntKind.max, IntKind.signed, IntKind.bits] at h; omega
theorem wfz_u32 {n : Int} (h : (Lit.int .u32 n).wf = true) : 0 ≤ n ∧ n ≤ 4294967295 := by
  simp [Lit.wf, IntKind.min, IntKind.max, IntKind.signed, IntKind.bits] at h; omega
theorem wfz_u8 {n : Int} (h : (Lit.int .u8 n).wf = true) : 0 ≤ n ∧ n ≤ 255 := by
  simp [Lit.wf, IntKind.min, IntKind.max, IntKind.signed, IntKind.bits] at h; omega
theorem lv37 : leaves Tryz.prog 10 37 = some [37] := by kernel_rfl
theorem lv39 : leaves Tryz.prog 10 39 = some [39] := by kernel_rfl
theorem lv114 : leaves Tryz.prog 10 114 = some [5, 5, 5, 5, 5, 5, 5, 5] := by kernel_rfl
theorem lv52 : leaves Tryz.prog 10 52 = some [3, 34, 5, 5, 5, 5, 5, 5, 5, 5, 5, 5, 37, 38, 39, 4, 39, 3, 39, 37, 37, 3, 44, 39, 4, 37, 4, 37, 4, 39, 45, 46, 3, 37, 39, 39, 39, 4] := by kernel_rfl
theorem lv54 : leaves Tryz.prog 10 54 = some [3, 3, 34, 5, 5, 5, 5, 5, 5, 5, 5, 5, 5, 37, 38, 39, 4, 39, 3, 39, 37, 37, 3, 44, 39, 4, 37, 4, 37, 4, 39, 45, 46, 3, 37, 39, 39, 39, 4] := by kernel_rfl
section
variable {H : Type} {enc : TypeId × Value → H} {W : World} {base : Nat} {spare : Nat → Bool} {held : Bool}
theorem u32_read {hs fuel : Nat} {cs : List Value} {x : DataW H × List MemPlace} (h : DataW.trod enc Tryz.prog W base spare held fuel 37 cs = some x) : cs.length = 1 ∧ ∃ p : Int, cs.map (normV hs) = enU p ∧ True := by
  have hh := leaves_ok 10 37 _ lv37 _ _ _ h
  refine ⟨hh.1, ?_⟩
  obtain ⟨v0, cs0, rfl, l0, h0⟩ := LeafOk.next hh
  obtain rfl := LeafOk.done h0
  obtain ⟨n0, rfl, w0⟩ := leaf_int (k := .u32) Tryz.underlying37 l0
  exact ⟨n0, rfl, trivial⟩
theorem ip_read {hs fuel : Nat} {cs : List Value} {x : DataW H × List MemPlace} (h : DataW.trod enc Tryz.prog W base spare held fuel 39 cs = some x) : cs.length = 1 ∧ ∃ p : Int, cs.map (normV hs) = enU p ∧ True := by
  have hh := leaves_ok 10 39 _ lv39 _ _ _ h
  refine ⟨hh.1, ?_⟩
  obtain ⟨v0, cs0, rfl, l0, h0⟩ := LeafOk.next hh
  obtain rfl := LeafOk.done h0
  obtain ⟨n0, rfl, w0⟩ := leaf_int (k := .u32) Tryz.underlying39 l0
  exact ⟨n0, rfl, trivial⟩
theorem comm_read {hs fuel : Nat} {cs : List Value} {x : DataW H × List MemPlace} (h : DataW.trod enc Tryz.prog W base spare held fuel 114 cs = some x) : cs.length = 8 ∧ ∃ p : C8, cs.map (normV hs) = enC p ∧ True := by
  have hh := leaves_ok 10 114 _ lv114 _ _ _ h
  refine ⟨hh.1, ?_⟩
  obtain ⟨v0, cs0, rfl, l0, h0⟩ := LeafOk.next hh
  obtain ⟨v1, cs1, rfl, l1, h1⟩ := LeafOk.next h0
  obtain ⟨v2, cs2, rfl, l2, h2⟩ := LeafOk.next h1
  obtain ⟨v3, cs3, rfl, l3, h3⟩ := LeafOk.next h2
  obtain ⟨v4, cs4, rfl, l4, h4⟩ := LeafOk.next h3
  obtain ⟨v5, cs5, rfl, l5, h5⟩ := LeafOk.next h4
  obtain ⟨v6, cs6, rfl, l6, h6⟩ := LeafOk.next h5
  obtain ⟨v7, cs7, rfl, l7, h7⟩ := LeafOk.next h6
  obtain rfl := LeafOk.done h7
  obtain ⟨n0, rfl, w0⟩ := leaf_int (k := .u8) Tryz.underlying5 l0
  obtain ⟨n1, rfl, w1⟩ := leaf_int (k := .u8) Tryz.underlying5 l1
  obtain ⟨n2, rfl, w2⟩ := leaf_int (k := .u8) Tryz.underlying5 l2
  obtain ⟨n3, rfl, w3⟩ := leaf_int (k := .u8) Tryz.underlying5 l3
  obtain ⟨n4, rfl, w4⟩ := leaf_int (k := .u8) Tryz.underlying5 l4
  obtain ⟨n5, rfl, w5⟩ := leaf_int (k := .u8) Tryz.underlying5 l5
  obtain ⟨n6, rfl, w6⟩ := leaf_int (k := .u8) Tryz.underlying5 l6
  obtain ⟨n7, rfl, w7⟩ := leaf_int (k := .u8) Tryz.underlying5 l7
  exact ⟨⟨n0, n1, n2, n3, n4, n5, n6, n7⟩, rfl, trivial⟩
theorem route_readW {fuel : Nat} {cs : List Value} {x : DataW H × List MemPlace} (h : DataW.trod enc Tryz.prog W 0 spare held fuel 52 cs = some x) : cs.length = 38 ∧ ∃ r : Rw, cs.map (normV W.heap.size) = enW r ∧ okAc (cx (W.heap.size + 1) (oldW W)) [] ⟨0, r⟩ := by
  have hh := leaves_ok 10 52 _ lv52 _ _ _ h
  clear h
  refine ⟨hh.1, ?_⟩
  obtain ⟨v0, cs0, rfl, l0, h0⟩ := LeafOk.next hh
  obtain ⟨v1, cs1, rfl, l1, h1⟩ := LeafOk.next h0
  obtain ⟨v2, cs2, rfl, l2, h2⟩ := LeafOk.next h1
  obtain ⟨v3, cs3, rfl, l3, h3⟩ := LeafOk.next h2
  obtain ⟨v4, cs4, rfl, l4, h4⟩ := LeafOk.next h3
  obtain ⟨v5, cs5, rfl, l5, h5⟩ := LeafOk.next h4
  obtain ⟨v6, cs6, rfl, l6, h6⟩ := LeafOk.next h5
  obtain ⟨v7, cs7, rfl, l7, h7⟩ := LeafOk.next h6
  obtain ⟨v8, cs8, rfl, l8, h8⟩ := LeafOk.next h7
  obtain ⟨v9, cs9, rfl, l9, h9⟩ := LeafOk.next h8
  obtain ⟨v10, cs10, rfl, l10, h10⟩ := LeafOk.next h9
  obtain ⟨v11, cs11, rfl, l11, h11⟩ := LeafOk.next h10
  obtain ⟨v12, cs12, rfl, l12, h12⟩ := LeafOk.next h11
  obtain ⟨v13, cs13, rfl, l13, h13⟩ := LeafOk.next h12
  obtain ⟨v14, cs14, rfl, l14, h14⟩ := LeafOk.next h13
  obtain ⟨v15, cs15, rfl, l15, h15⟩ := LeafOk.next h14
  obtain ⟨v16, cs16, rfl, l16, h16⟩ := LeafOk.next h15
  obtain ⟨v17, cs17, rfl, l17, h17⟩ := LeafOk.next h16
  obtain ⟨v18, cs18, rfl, l18, h18⟩ := LeafOk.next h17
  obtain ⟨v19, cs19, rfl, l19, h19⟩ := LeafOk.next h18
  obtain ⟨v20, cs20, rfl, l20, h20⟩ := LeafOk.next h19
  obtain ⟨v21, cs21, rfl, l21, h21⟩ := LeafOk.next h20
  obtain ⟨v22, cs22, rfl, l22, h22⟩ := LeafOk.next h21
  obtain ⟨v23, cs23, rfl, l23, h23⟩ := LeafOk.next h22
  obtain ⟨v24, cs24, rfl, l24, h24⟩ := LeafOk.next h23
  obtain ⟨v25, cs25, rfl, l25, h25⟩ := LeafOk.next h24
  obtain ⟨v26, cs26, rfl, l26, h26⟩ := LeafOk.next h25
  obtain ⟨v27, cs27, rfl, l27, h27⟩ := LeafOk.next h26
  obtain ⟨v28, cs28, rfl, l28, h28⟩ := LeafOk.next h27
  obtain ⟨v29, cs29, rfl, l29, h29⟩ := LeafOk.next h28
  obtain ⟨v30, cs30, rfl, l30, h30⟩ := LeafOk.next h29
  obtain ⟨v31, cs31, rfl, l31, h31⟩ := LeafOk.next h30
  obtain ⟨v32, cs32, rfl, l32, h32⟩ := LeafOk.next h31
  obtain ⟨v33, cs33, rfl, l33, h33⟩ := LeafOk.next h32
  obtain ⟨v34, cs34, rfl, l34, h34⟩ := LeafOk.next h33
  obtain ⟨v35, cs35, rfl, l35, h35⟩ := LeafOk.next h34
  obtain ⟨v36, cs36, rfl, l36, h36⟩ := LeafOk.next h35
  obtain ⟨v37, cs37, rfl, l37, h37⟩ := LeafOk.next h36
  obtain rfl := LeafOk.done h37
  obtain ⟨n0, rfl, w0⟩ := leaf_int (k := .i64) Tryz.underlying3 l0
  obtain ⟨n1, rfl, w1⟩ := leaf_int (k := .u64) Tryz.underlying34 l1
  obtain ⟨n2, rfl, w2⟩ := leaf_int (k := .u8) Tryz.underlying5 l2
  obtain ⟨n3, rfl, w3⟩ := leaf_int (k := .u8) Tryz.underlying5 l3
  obtain ⟨n4, rfl, w4⟩ := leaf_int (k := .u8) Tryz.underlying5 l4
  obtain ⟨n5, rfl, w5⟩ := leaf_int (k := .u8) Tryz.underlying5 l5
  obtain ⟨n6, rfl, w6⟩ := leaf_int (k := .u8) Tryz.underlying5 l6
  obtain ⟨n7, rfl, w7⟩ := leaf_int (k := .u8) Tryz.underlying5 l7
  obtain ⟨n8, rfl, w8⟩ := leaf_int (k := .u8) Tryz.underlying5 l8
  obtain ⟨n9, rfl, w9⟩ := leaf_int (k := .u8) Tryz.underlying5 l9
  obtain ⟨n10, rfl, w10⟩ := leaf_int (k := .u8) Tryz.underlying5 l10
  obtain ⟨n11, rfl, w11⟩ := leaf_int (k := .u8) Tryz.underlying5 l11
  obtain ⟨n12, rfl, w12⟩ := leaf_int (k := .u32) Tryz.underlying37 l12
  obtain ⟨n13, rfl, w13⟩ := leaf_int (k := .u64) Tryz.underlying38 l13
  obtain ⟨n14, rfl, w14⟩ := leaf_int (k := .u32) Tryz.underlying39 l14
  obtain ⟨n15, rfl⟩ := leaf_bool Tryz.underlying4 l15
  obtain ⟨n16, rfl, w16⟩ := leaf_int (k := .u32) Tryz.underlying39 l16
  obtain ⟨n17, rfl, w17⟩ := leaf_int (k := .i64) Tryz.underlying3 l17
  obtain ⟨n18, rfl, w18⟩ := leaf_int (k := .u32) Tryz.underlying39 l18
  obtain ⟨n19, rfl, w19⟩ := leaf_int (k := .u32) Tryz.underlying37 l19
  obtain ⟨n20, rfl, w20⟩ := leaf_int (k := .u32) Tryz.underlying37 l20
  obtain ⟨n21, rfl, w21⟩ := leaf_int (k := .i64) Tryz.underlying3 l21
  obtain ⟨a22, c22, L22, e22, g22, m22, ar22, _⟩ := arr_read (C := cx (W.heap.size + 1) (oldW W)) (k := 1) (en := enU) (Pr := fun _ => True) rfl (fun _ => rfl) Tryz.underlying44 (by kernel_rfl) (by decide) (fun cs m y h => u32_read h) l22
  obtain ⟨n23, rfl, w23⟩ := leaf_int (k := .u32) Tryz.underlying39 l23
  obtain ⟨n24, rfl⟩ := leaf_bool Tryz.underlying4 l24
  obtain ⟨n25, rfl, w25⟩ := leaf_int (k := .u32) Tryz.underlying37 l25
  obtain ⟨n26, rfl⟩ := leaf_bool Tryz.underlying4 l26
  obtain ⟨n27, rfl, w27⟩ := leaf_int (k := .u32) Tryz.underlying37 l27
  obtain ⟨n28, rfl⟩ := leaf_bool Tryz.underlying4 l28
  obtain ⟨n29, rfl, w29⟩ := leaf_int (k := .u32) Tryz.underlying39 l29
  obtain ⟨a30, c30, L30, e30, g30, m30, ar30, _⟩ := arr_read (C := cx (W.heap.size + 1) (oldW W)) (k := 1) (en := enU) (Pr := fun _ => True) rfl (fun _ => rfl) Tryz.underlying45 (by kernel_rfl) (by decide) (fun cs m y h => ip_read h) l30
  obtain ⟨a31, c31, L31, e31, g31, m31, ar31, _⟩ := arr_read (C := cx (W.heap.size + 1) (oldW W)) (k := 8) (en := enC) (Pr := fun _ => True) rfl (fun _ => rfl) Tryz.underlying46 (by kernel_rfl) (by decide) (fun cs m y h => comm_read h) l31
  obtain ⟨n32, rfl, w32⟩ := leaf_int (k := .i64) Tryz.underlying3 l32
  obtain ⟨n33, rfl, w33⟩ := leaf_int (k := .u32) Tryz.underlying37 l33
  obtain ⟨n34, rfl, w34⟩ := leaf_int (k := .u32) Tryz.underlying39 l34
  obtain ⟨n35, rfl, w35⟩ := leaf_int (k := .u32) Tryz.underlying39 l35
  obtain ⟨n36, rfl, w36⟩ := leaf_int (k := .u32) Tryz.underlying39 l36
  obtain ⟨n37, rfl⟩ := leaf_bool Tryz.underlying4 l37
  refine ⟨⟨⟨⟨n0, n1, n2, n3, n4, n5, n6, n7, n8, n9, n10, n11, n12, n13, n14, n15, n16, n17, n18, n19, n20⟩, ⟨n21, L22, n23, n24, n25, n26, n27, n28, n29, L30, L31, n32, n33, n34, n35⟩, n36, n37⟩, a22, c22, a30, c30, a31, c31⟩, ?_, ⟨⟨wfz_i64 w0, wfz_u64 w1, wfz_u8 w2, wfz_u8 w3, wfz_u8 w4, wfz_u8 w5, wfz_u8 w6, wfz_u8 w7, wfz_u8 w8, wfz_u8 w9, wfz_u8 w10, wfz_u8 w11, wfz_u32 w12, wfz_u64 w13, wfz_u32 w14, wfz_u32 w16, wfz_i64 w17, wfz_u32 w18, wfz_u32 w19, wfz_u32 w20⟩, wfz_u32 w36, ⟨ar22.toW, ar30.toW, ar31.toW⟩⟩⟩
  simp only [List.map_cons, List.map_nil, e22, e30, e31]
  rfl
theorem act_readW {fuel : Nat} {cs : List Value} {x : DataW H × List MemPlace} (h : DataW.trod enc Tryz.prog W 0 spare held fuel 54 cs = some x) : cs.length = 39 ∧ ∃ r : Ac, cs.map (normV W.heap.size) = enAc r ∧ okAc (cx (W.heap.size + 1) (oldW W)) [] r := by
  have hh := leaves_ok 10 54 _ lv54 _ _ _ h
  clear h
  refine ⟨hh.1, ?_⟩
  obtain ⟨v0, cs0, rfl, l0, h0⟩ := LeafOk.next hh
  obtain ⟨v1, cs1, rfl, l1, h1⟩ := LeafOk.next h0
  obtain ⟨v2, cs2, rfl, l2, h2⟩ := LeafOk.next h1
  obtain ⟨v3, cs3, rfl, l3, h3⟩ := LeafOk.next h2
  obtain ⟨v4, cs4, rfl, l4, h4⟩ := LeafOk.next h3
  obtain ⟨v5, cs5, rfl, l5, h5⟩ := LeafOk.next h4
  obtain ⟨v6, cs6, rfl, l6, h6⟩ := LeafOk.next h5
  obtain ⟨v7, cs7, rfl, l7, h7⟩ := LeafOk.next h6
  obtain ⟨v8, cs8, rfl, l8, h8⟩ := LeafOk.next h7
  obtain ⟨v9, cs9, rfl, l9, h9⟩ := LeafOk.next h8
  obtain ⟨v10, cs10, rfl, l10, h10⟩ := LeafOk.next h9
  obtain ⟨v11, cs11, rfl, l11, h11⟩ := LeafOk.next h10
  obtain ⟨v12, cs12, rfl, l12, h12⟩ := LeafOk.next h11
  obtain ⟨v13, cs13, rfl, l13, h13⟩ := LeafOk.next h12
  obtain ⟨v14, cs14, rfl, l14, h14⟩ := LeafOk.next h13
  obtain ⟨v15, cs15, rfl, l15, h15⟩ := LeafOk.next h14
  obtain ⟨v16, cs16, rfl, l16, h16⟩ := LeafOk.next h15
  obtain ⟨v17, cs17, rfl, l17, h17⟩ := LeafOk.next h16
  obtain ⟨v18, cs18, rfl, l18, h18⟩ := LeafOk.next h17
  obtain ⟨v19, cs19, rfl, l19, h19⟩ := LeafOk.next h18
  obtain ⟨v20, cs20, rfl, l20, h20⟩ := LeafOk.next h19
  obtain ⟨v21, cs21, rfl, l21, h21⟩ := LeafOk.next h20
  obtain ⟨v22, cs22, rfl, l22, h22⟩ := LeafOk.next h21
  obtain ⟨v23, cs23, rfl, l23, h23⟩ := LeafOk.next h22
  obtain ⟨v24, cs24, rfl, l24, h24⟩ := LeafOk.next h23
  obtain ⟨v25, cs25, rfl, l25, h25⟩ := LeafOk.next h24
  obtain ⟨v26, cs26, rfl, l26, h26⟩ := LeafOk.next h25
  obtain ⟨v27, cs27, rfl, l27, h27⟩ := LeafOk.next h26
  obtain ⟨v28, cs28, rfl, l28, h28⟩ := LeafOk.next h27
  obtain ⟨v29, cs29, rfl, l29, h29⟩ := LeafOk.next h28
  obtain ⟨v30, cs30, rfl, l30, h30⟩ := LeafOk.next h29
  obtain ⟨v31, cs31, rfl, l31, h31⟩ := LeafOk.next h30
  obtain ⟨v32, cs32, rfl, l32, h32⟩ := LeafOk.next h31
  obtain ⟨v33, cs33, rfl, l33, h33⟩ := LeafOk.next h32
  obtain ⟨v34, cs34, rfl, l34, h34⟩ := LeafOk.next h33
  obtain ⟨v35, cs35, rfl, l35, h35⟩ := LeafOk.next h34
  obtain ⟨v36, cs36, rfl, l36, h36⟩ := LeafOk.next h35
  obtain ⟨v37, cs37, rfl, l37, h37⟩ := LeafOk.next h36
  obtain ⟨v38, cs38, rfl, l38, h38⟩ := LeafOk.next h37
  obtain rfl := LeafOk.done h38
  obtain ⟨n0, rfl, w0⟩ := leaf_int (k := .i64) Tryz.underlying3 l0
  obtain ⟨n1, rfl, w1⟩ := leaf_int (k := .i64) Tryz.underlying3 l1
  obtain ⟨n2, rfl, w2⟩ := leaf_int (k := .u64) Tryz.underlying34 l2
  obtain ⟨n3, rfl, w3⟩ := leaf_int (k := .u8) Tryz.underlying5 l3
  obtain ⟨n4, rfl, w4⟩ := leaf_int (k := .u8) Tryz.underlying5 l4
  obtain ⟨n5, rfl, w5⟩ := leaf_int (k := .u8) Tryz.underlying5 l5
  obtain ⟨n6, rfl, w6⟩ := leaf_int (k := .u8) Tryz.underlying5 l6
  obtain ⟨n7, rfl, w7⟩ := leaf_int (k := .u8) Tryz.underlying5 l7
  obtain ⟨n8, rfl, w8⟩ := leaf_int (k := .u8) Tryz.underlying5 l8
  obtain ⟨n9, rfl, w9⟩ := leaf_int (k := .u8) Tryz.underlying5 l9
  obtain ⟨n10, rfl, w10⟩ := leaf_int (k := .u8) Tryz.underlying5 l10
  obtain ⟨n11, rfl, w11⟩ := leaf_int (k := .u8) Tryz.underlying5 l11
  obtain ⟨n12, rfl, w12⟩ := leaf_int (k := .u8) Tryz.underlying5 l12
  obtain ⟨n13, rfl, w13⟩ := leaf_int (k := .u32) Tryz.underlying37 l13
  obtain ⟨n14, rfl, w14⟩ := leaf_int (k := .u64) Tryz.underlying38 l14
  obtain ⟨n15, rfl, w15⟩ := leaf_int (k := .u32) Tryz.underlying39 l15
  obtain ⟨n16, rfl⟩ := leaf_bool Tryz.underlying4 l16
  obtain ⟨n17, rfl, w17⟩ := leaf_int (k := .u32) Tryz.underlying39 l17
  obtain ⟨n18, rfl, w18⟩ := leaf_int (k := .i64) Tryz.underlying3 l18
  obtain ⟨n19, rfl, w19⟩ := leaf_int (k := .u32) Tryz.underlying39 l19
  obtain ⟨n20, rfl, w20⟩ := leaf_int (k := .u32) Tryz.underlying37 l20
  obtain ⟨n21, rfl, w21⟩ := leaf_int (k := .u32) Tryz.underlying37 l21
  obtain ⟨n22, rfl, w22⟩ := leaf_int (k := .i64) Tryz.underlying3 l22
  obtain ⟨a23, c23, L23, e23, g23, m23, ar23, _⟩ := arr_read (C := cx (W.heap.size + 1) (oldW W)) (k := 1) (en := enU) (Pr := fun _ => True) rfl (fun _ => rfl) Tryz.underlying44 (by kernel_rfl) (by decide) (fun cs m y h => u32_read h) l23
  obtain ⟨n24, rfl, w24⟩ := leaf_int (k := .u32) Tryz.underlying39 l24
  obtain ⟨n25, rfl⟩ := leaf_bool Tryz.underlying4 l25
  obtain ⟨n26, rfl, w26⟩ := leaf_int (k := .u32) Tryz.underlying37 l26
  obtain ⟨n27, rfl⟩ := leaf_bool Tryz.underlying4 l27
  obtain ⟨n28, rfl, w28⟩ := leaf_int (k := .u32) Tryz.underlying37 l28
  obtain ⟨n29, rfl⟩ := leaf_bool Tryz.underlying4 l29
  obtain ⟨n30, rfl, w30⟩ := leaf_int (k := .u32) Tryz.underlying39 l30
  obtain ⟨a31, c31, L31, e31, g31, m31, ar31, _⟩ := arr_read (C := cx (W.heap.size + 1) (oldW W)) (k := 1) (en := enU) (Pr := fun _ => True) rfl (fun _ => rfl) Tryz.underlying45 (by kernel_rfl) (by decide) (fun cs m y h => ip_read h) l31
  obtain ⟨a32, c32, L32, e32, g32, m32, ar32, _⟩ := arr_read (C := cx (W.heap.size + 1) (oldW W)) (k := 8) (en := enC) (Pr := fun _ => True) rfl (fun _ => rfl) Tryz.underlying46 (by kernel_rfl) (by decide) (fun cs m y h => comm_read h) l32
  obtain ⟨n33, rfl, w33⟩ := leaf_int (k := .i64) Tryz.underlying3 l33
  obtain ⟨n34, rfl, w34⟩ := leaf_int (k := .u32) Tryz.underlying37 l34
  obtain ⟨n35, rfl, w35⟩ := leaf_int (k := .u32) Tryz.underlying39 l35
  obtain ⟨n36, rfl, w36⟩ := leaf_int (k := .u32) Tryz.underlying39 l36
  obtain ⟨n37, rfl, w37⟩ := leaf_int (k := .u32) Tryz.underlying39 l37
  obtain ⟨n38, rfl⟩ := leaf_bool Tryz.underlying4 l38
  refine ⟨⟨n0, ⟨⟨⟨n1, n2, n3, n4, n5, n6, n7, n8, n9, n10, n11, n12, n13, n14, n15, n16, n17, n18, n19, n20, n21⟩, ⟨n22, L23, n24, n25, n26, n27, n28, n29, n30, L31, L32, n33, n34, n35, n36⟩, n37, n38⟩, a23, c23, a31, c31, a32, c32⟩⟩, ?_, ⟨⟨wfz_i64 w1, wfz_u64 w2, wfz_u8 w3, wfz_u8 w4, wfz_u8 w5, wfz_u8 w6, wfz_u8 w7, wfz_u8 w8, wfz_u8 w9, wfz_u8 w10, wfz_u8 w11, wfz_u8 w12, wfz_u32 w13, wfz_u64 w14, wfz_u32 w15, wfz_u32 w17, wfz_i64 w18, wfz_u32 w19, wfz_u32 w20, wfz_u32 w21⟩, wfz_u32 w37, ⟨ar23.toW, ar31.toW, ar32.toW⟩⟩⟩
  simp only [List.map_cons, List.map_nil, e23, e31, e32]
  rfl
end
end Go.Proofs.YtphadapcafibpaaGreat.Abs

/- A call for one peer, in plain Lean. -/
namespace Go.Proofs.YtphadapcafibpaaGreat.Abs
open Go
set_option linter.unusedVariables false
/-- Routes of other peers, and, of a call for one key, routes with other keys. -/
def othR (q : Int) (r x : Rt) : Bool := decide (x.peer ≠ r.peer) || (decide (q < 5) && decide (nlC x.n r.n ≠ 0))
theorem othR_plc {q : Int} {r x : Rt} (h5 : q < 5) (h : othR q r x = true) : plc x ≠ plc r := fun e => by
  have h1 : x.peer = r.peer := congrArg Pk.peer e
  have h2 : nlC x.n r.n = 0 := nlC_zero.2 (congrArg Pk.k e)
  unfold othR at h
  simp [h1, h2] at h
theorem othR_self (q : Int) {r : Rt} (h5 : q < 5) : othR q r r = false := by
  cases h : othR q r r with
  | false => rfl
  | true => exact absurd rfl (othR_plc h5 h)
theorem othR_6 {q : Int} (h5 : ¬ q < 5) (r x : Rt) : othR q r x = decide (x.peer ≠ r.peer) := by unfold othR; rw [decide_eq_false h5]; simp
theorem doM_apart {lim q : Int} {r : Rt} {M : List Rt} (hs : SrtR M) (hv : ∀ x ∈ M, okR x) (hr : okP (plc r)) : (doM lim q r M).1.filter (othR q r) = M.filter (othR q r) := by
  unfold doM
  split
  · rename_i h4
    have h5 : q < 5 := by omega
    by_cases he : (putM lim r M).2.2 = 0
    · obtain ⟨h1, h2⟩ := putM_ok hs he
      rw [h2]
      exact putR_filterN (othR_self q h5) fun x hx e => by
        cases h : othR q r x with
        | false => rfl
        | true => exact absurd (rkP_inj (hv x hx).pl hr e) (othR_plc h5 h)
    · rw [putM_err he]
  · split
    · rename_i h4 h5
      have h5 : q < 5 := by omega
      split
      · rfl
      · unfold dropR
        rw [List.filter_filter]
        refine List.filter_congr fun x hx => ?_
        cases h : othR q r x with
        | false => simp
        | true => simp [othR_plc h5 h]
    · rename_i h4 h4'
      have h5 : ¬ q < 5 := by omega
      have e : othR q r = fun x => decide (x.peer ≠ r.peer) := funext fun x => othR_6 h5 r x
      rw [e]
      split
      · rw [List.filter_filter]
        refine List.filter_congr fun x hx => ?_
        unfold keepD
        by_cases h : x.peer = r.peer <;> simp [h]
      · split
        · rw [List.filter_map]
          have e2 : ((fun x : Rt => decide (x.peer ≠ r.peer)) ∘ stlR r.peer) = fun x => decide (x.peer ≠ r.peer) := funext fun x => by
            show decide ((stlR r.peer x).peer ≠ r.peer) = _
            unfold stlR
            split <;> rfl
          rw [e2]
          have : ∀ L : List Rt, (∀ x ∈ L, x.peer ≠ r.peer) → L.map (stlR r.peer) = L := fun L h => by
            conv => rhs; rw [← List.map_id L]
            exact List.map_congr_left fun x hx => by unfold stlR; rw [if_neg (h x hx)]; rfl
          exact this _ fun x hx => of_decide_eq_true (List.mem_filter.1 hx).2
        · rw [List.filter_filter]
          refine List.filter_congr fun x hx => ?_
          unfold keepS
          by_cases h : x.peer = r.peer <;> simp [h]
end Go.Proofs.YtphadapcafibpaaGreat.Abs

/- Contract of Copy. -/
namespace Go.Proofs.YtphadapcafibpaaGreat.Abs
open Go
set_option linter.unusedVariables false
theorem pcG {G G2 X : Hp} {a b c d e : Nat × AObj} : (a :: b :: c :: d :: e :: ((G ++ G2) ++ X)).Perm (G ++ (a :: b :: c :: d :: e :: (G2 ++ X))) := by
  rw [List.append_assoc]
  exact (List.perm_append_comm_assoc G [a, b, c, d, e] (G2 ++ X)).symm
section
variable {B0 : Nat} {old : Nat → Option (List Value)} {n : Nat} {H : Hp} {Q : Value → Hp → Prop} {lim : Int} {M : List Rt} {v : Value} {Hs : Hp}
set_option maxRecDepth 10000
set_option maxHeartbeats 16000000
theorem copy15_ct (hI : Rib (cx B0 old) lim M v Hs) (hQ : ∀ a Hs', Rib (cx B0 old) lim M (.pointer (some a)) Hs' → Q (.pointer (some a)) (Hs' ++ (Hs ++ H))) :
    CallT (cx B0 old) (acall (cx B0 old) ansP (n + 3)) 15 [v] (Hs ++ H) Q := by
  cases hI with
  | mk p mb c ms Gm hI hR h0 h6 hl =>
  refine call_in1 39 rfl Tryz.func15 rfl rfl ?_
  repeat (first | refine Z0 ?_ | (refine ZR ?_; first | refine x1 ?_ | refine x2 ?_ | refine x8 ?_ | refine Z1 ?_ | refine Z2 ?_ | refine x3 fun _ => ?_ | refine x4 fun _ => ?_ | refine x5 fun _ => ?_ | refine Z3 fun _ => ?_ | refine Z4 fun _ => ?_) | refine ZC ?_)
  refine rt_step rfl rfl rfl (st_call rfl rfl rfl rfl (valid47_ct h0 ?_))
  repeat (first | refine Z0 ?_ | (refine ZR ?_; first | refine x1 ?_ | refine x2 ?_ | refine x8 ?_ | refine Z1 ?_ | refine Z2 ?_ | refine x3 fun _ => ?_ | refine x4 fun _ => ?_ | refine x5 fun _ => ?_ | refine Z3 fun _ => ?_ | refine Z4 fun _ => ?_) | refine ZC ?_)
  refine ct_draw (masks := [0, 1, 3, 7, 0, 16, 48, 112, 240, 496, 1023, 2047, 4095]) (plan := [0, 1, 2, 3, 4, 5, 6, 7, 8, 9, 10, 11, 12]) (E := []) (by kernel_rfl) (by kernel_rfl) (by kernel_rfl) (by kernel_rfl) ?_
  repeat (first | refine Y0 ?_ | (refine YP ?_; first | refine y1 ?_ | refine y2 ?_ | refine Y1 ?_ | refine Y2 ?_))
  refine pl_R rfl rfl rfl rfl rfl rfl (rd_mapLen rfl hm1 rfl) ?_
  repeat (first | refine Y0 ?_ | (refine YP ?_; first | refine y1 ?_ | refine y2 ?_ | refine Y1 ?_ | refine Y2 ?_))
  refine pl_S rfl rfl rfl rfl rfl rfl (st_A rfl rfl (fun _ => rfl) rfl fun mb2 => ⟨?_, ?_⟩)
  · exact rec_auto
  repeat (first | refine Y0 ?_ | (refine YP ?_; first | refine y1 ?_ | refine y2 ?_ | refine Y1 ?_ | refine Y2 ?_))
  refine pl_S rfl rfl rfl rfl rfl rfl (st_box rfl (sz rfl) rfl rfl fun cp => ⟨?_, ?_⟩)
  · exact rec_auto
  repeat (first | refine Y0 ?_ | (refine YP ?_; first | refine y1 ?_ | refine y2 ?_ | refine Y1 ?_ | refine Y2 ?_))
  repeat (first | refine Z0 ?_ | (refine ZR ?_; first | refine x1 ?_ | refine x2 ?_ | refine x8 ?_ | refine Z1 ?_ | refine Z2 ?_ | refine x3 fun _ => ?_ | refine x4 fun _ => ?_ | refine x5 fun _ => ?_ | refine Z3 fun _ => ?_ | refine Z4 fun _ => ?_) | refine ZC ?_)
  refine rt_step rfl rfl rfl (st_range rfl hm3 rfl fun it => ?_)
  repeat (first | refine Z0 ?_ | (refine ZR ?_; first | refine x1 ?_ | refine x2 ?_ | refine x8 ?_ | refine Z1 ?_ | refine Z2 ?_ | refine x3 fun _ => ?_ | refine x4 fun _ => ?_ | refine x5 fun _ => ?_ | refine Z3 fun _ => ?_ | refine Z4 fun _ => ?_) | refine ZC ?_)
  refine loop_ind (ι := List Pk × List Nat × List (Pk × Rw × Nat) × Nat × Hp) ([], [], [], 0, []) (fun j => ((ms.map (·.1)).filter fun k => decide (k ∉ j.1)).length)
    (fun j => Born j.2.2.1 j.2.2.2.1 ∧ Uq j.2.2.1 ∧ SeenK ms j.1 j.2.1 ∧ (∀ q ∈ j.2.2.1, Rd (cx B0 old) j.2.2.2.2 q.2.1) ∧ ∀ k, (lkH j.2.2.1 k).map (·.r) = if k ∈ j.1 then (lkH ms k).map (·.r) else none)
    (fun j => [(25, .pointer (some ⟨it, 0, none⟩)), (3, .pointer (some ⟨cp, 0, none⟩))])
    (fun j => (it, .iter (some mb) c j.2.1 c) :: (cp, AObj.row [.int .i64 lim, .map (some mb2)] 2 false) :: (mb2, AObj.map (mkH ekP evW j.2.2.1) j.2.2.2.1) :: (j.2.2.2.2 ++ ((p, AObj.row [.int .i64 lim, .map (some mb)] 2 false) :: (mb, AObj.map (mkH ekP evW ms) c) :: (Gm ++ H))))
    ⟨Born.nil 0, List.nodup_nil, SeenK.nil _, fun q h => (by cases h), fun k => (by simp [lkH, fH])⟩ (by repeat (first | exact SubL.nil | refine SubL.cons rfl ?_)) (List.Sublist.refl _) ?_
  rintro ⟨vk, vs, ms2, c2, G2⟩ ⟨hb2, hu2, hsn, hR2, hlk2⟩
  dsimp only at hb2 hu2 hsn hR2 hlk2 ⊢
  repeat (first | refine Z0 ?_ | (refine ZR ?_; first | refine x1 ?_ | refine x2 ?_ | refine x8 ?_ | refine Z1 ?_ | refine Z2 ?_ | refine x3 fun _ => ?_ | refine x4 fun _ => ?_ | refine x5 fun _ => ?_ | refine Z3 fun _ => ?_ | refine Z4 fun _ => ?_) | refine ZC ?_)
  refine rt_step rfl rfl rfl (st_nextH rfl (by exact in_auto) hI.born (fun hall => ?_) (fun q hq hnq => ?_))
  · have hI2 : RibI ms2 c2 M := by
      refine ⟨hb2, hu2, fun k r => ?_, hI.srt, hI.val⟩
      have e : ∀ (o : Option Rw), (∃ x, o = some x ∧ x.r = r) ↔ o.map (·.r) = some r := fun o => by simp
      rw [e, hlk2, ← hI.fnd, e]
      by_cases hk : k ∈ vk
      · rw [if_pos hk]
      · rw [if_neg hk]
        cases hm : lkH ms k with
        | none => exact Iff.rfl
        | some x =>
          obtain ⟨m, hm2⟩ := lkH_mem hm
          exact absurd ((hsn _ hm2).1 (hall _ hm2)) hk
    repeat (first | refine Z0 ?_ | (refine ZR ?_; first | refine x1 ?_ | refine x2 ?_ | refine x8 ?_ | refine Z1 ?_ | refine Z2 ?_ | refine x3 fun _ => ?_ | refine x4 fun _ => ?_ | refine x5 fun _ => ?_ | refine Z3 fun _ => ?_ | refine Z4 fun _ => ?_) | refine ZC ?_)
    exact re_1 rfl rfl (by exact drop_auto) (hQ _ _ (Rib.mk cp mb2 c2 ms2 G2 hI2 hR2 h0 h6 hl))
  obtain ⟨k, x, bo⟩ := q
  dsimp only at hnq ⊢
  have hkv : k ∉ vk := fun h => hnq ((hsn _ hq).2 h)
  have hk0 : k ∈ ms.map (·.1) := List.mem_map.2 ⟨_, hq, rfl⟩
  have hdec := fltDec hk0 hkv
  have hsn2 := hsn.cons hI.born hI.uq hq
  have hkm : lkH ms k = some x := hI.uq.lkH hq
  obtain ⟨g1, g2, g3⟩ := hI.lkS hkm
  have hRx := hR _ hq
  dsimp only at hRx
  unfold ekP evW
  repeat (first | refine Z0 ?_ | (refine ZR ?_; first | refine x1 ?_ | refine x2 ?_ | refine x8 ?_ | refine Z1 ?_ | refine Z2 ?_ | refine x3 fun _ => ?_ | refine x4 fun _ => ?_ | refine x5 fun _ => ?_ | refine Z3 fun _ => ?_ | refine Z4 fun _ => ?_) | refine ZC ?_)
  refine rt_r rfl rfl rfl (rd_entryH (ek := ekP) (ev := evW) (vs := vs) (p := (k, x, bo)) rfl hm0 (by exact in_auto) hI.born hq) ?_
  dsimp only
  unfold ekP evW enP enW enR
  repeat (first | refine Z0 ?_ | (refine ZR ?_; first | refine x1 ?_ | refine x2 ?_ | refine x8 ?_ | refine Z1 ?_ | refine Z2 ?_ | refine x3 fun _ => ?_ | refine x4 fun _ => ?_ | refine x5 fun _ => ?_ | refine Z3 fun _ => ?_ | refine Z4 fun _ => ?_) | refine ZC ?_)
  rename_i b5 b4
  refine ct_draw (masks := [0, 1, 3, 7, 0, 0, 32, 127]) (plan := [0, 1, 2, 3, 4, 5, 6, 7]) (E := []) (by kernel_rfl) (by kernel_rfl) (by kernel_rfl) (by kernel_rfl) ?_
  repeat (first | refine Y0 ?_ | (refine YP ?_; first | refine y1 ?_ | refine y2 ?_ | refine Y1 ?_ | refine Y2 ?_))
  refine pl_S rfl rfl rfl rfl rfl rfl (st_call rfl rfl rfl rfl (clone48W x (hI.val _ g2).light (hRx.weak (by exact drop_auto)) fun y G hy hyR => ⟨?_, ?_⟩))
  · exact rec_auto
  refine PlanT.perm ?_ (pcG (G := G) (G2 := G2))
  repeat (first | refine Y0 ?_ | (refine YP ?_; first | refine y1 ?_ | refine y2 ?_ | refine Y1 ?_ | refine Y2 ?_))
  refine pl_S0 rfl rfl rfl rfl rfl (st_update rfl rfl rfl (updE_K (C := cx B0 old) (ev := evW) keyMapP ms2 c2 k y) sw4 ⟨by exact rec_auto, ?_⟩)
  repeat (first | refine Y0 ?_ | (refine YP ?_; first | refine y1 ?_ | refine y2 ?_ | refine Y1 ?_ | refine Y2 ?_))
  repeat (first | refine Z0 ?_ | (refine ZR ?_; first | refine x1 ?_ | refine x2 ?_ | refine x8 ?_ | refine Z1 ?_ | refine Z2 ?_ | refine x3 fun _ => ?_ | refine x4 fun _ => ?_ | refine x5 fun _ => ?_ | refine Z3 fun _ => ?_ | refine Z4 fun _ => ?_) | refine ZC ?_)
  refine ⟨(k :: vk, vs ++ [bo], updH ms2 c2 k y, updC ms2 c2 k, G ++ G2), ⟨hb2.upd, hu2.upd, hsn2, rd_upd hu2 hR2 hyR, fun j => ?_⟩, hdec, by repeat (first | exact SubL.nil | refine SubL.cons rfl ?_), by exact drop_auto⟩
  dsimp only
  rw [lkH_upd hu2]
  by_cases hjk : j = k
  · subst hjk
    rw [if_pos rfl, if_pos (List.mem_cons_self ..), hkm, Option.map_some, Option.map_some, hy]
  · rw [if_neg hjk, hlk2]
    have : (j ∈ k :: vk) ↔ (j ∈ vk) := by simp [hjk]
    simp only [this]
end
end Go.Proofs.YtphadapcafibpaaGreat.Abs

/- The walk of RibApart (printed by genap.py). -/
namespace Go.Proofs.YtphadapcafibpaaGreat.Abs
open Go
set_option linter.unusedVariables false
theorem RsL.rows {C : Ctx} {M : List Rt} {w : Value} {G : Hp} (h : RsL C M w G) : ∃ ad c L, w = .slice ad L.length c ∧ L.map (·.r) = M ∧ Arr C G ad 38 enW L ∧ (∀ x ∈ L, Rd C G x) ∧ RsA C G M w := by
  have ha := h.toA
  obtain ⟨L, Gs, Gr, h1, h2, h3, rfl⟩ := h
  obtain ⟨ad, c, e, hw⟩ := h1.arrW (C := C) enW_len
  exact ⟨ad, c, L, e, h3, (hw [] Gr).arr enW_len, fun x hx => (h2 x hx).weak (List.sublist_append_right _ _), ha⟩
theorem pqa (A B C X : Hp) : (A ++ (B ++ (C ++ X))).Perm (B ++ (C ++ (A ++ X))) := by
  have := List.perm_append_comm_assoc A (B ++ C) X
  simpa using this
theorem Rib.ss {C : Ctx} {lim : Int} {M : List Rt} {v : Value} {Hs : Hp} (h : Rib C lim M v Hs) : SrtR M ∧ ∀ x ∈ M, okR x := by cases h with | mk p mb c ms Gm hI hR h0 h6 hl => exact ⟨hI.srt, hI.val⟩
theorem flt_take {f : Rw → Bool} {L : List Rw} {i : Nat} {x : Rw} (hx : L[i]? = some x) : (L.take (i + 1)).filter f = if f x then (L.take i).filter f ++ [x] else (L.take i).filter f := by
  rw [List.take_add_one, hx, List.filter_append]
  show _ ++ [x].filter f = _
  rw [List.filter_cons]
  split <;> simp
section
variable {B0 : Nat} {old : Nat → Option (List Value)} {n : Nat} {Q : Value → Hp → Prop} {c : Nat} {ad : Option Addr} {L : List Ac}
set_option maxRecDepth 10000
set_option maxHeartbeats 32000000
theorem apart5_ct (ha : Arr (cx B0 old) [] ad 39 enAc L) (hL : ∀ x ∈ L, okAc (cx B0 old) [] x) (hl : L.length ≤ 9223372036854775807) (a : Ac) (haa : okAc (cx B0 old) [] a) (hQ : Q (.bool true) []) :
    CallT (cx B0 old) (acall (cx B0 old) ansP (n + 20030)) 5 [.slice ad L.length c, .agg ⟨enAc a⟩] [] Q := by
  obtain ⟨ak, aw⟩ := a
  refine call_in2 149 rfl Tryz.func5 rfl rfl ?_
  have hr := pkF_range (x := ak) (m := 8) (by decide)
  have hpk : ∀ {H1 : Hp} {Θ : Value → Hp → Prop}, Θ (.int .i64 (pkF ak 8)) H1 → CallT (cx B0 old) (acall (cx B0 old) ansP (n + 20029)) 26 [.int .i64 ak, .int .i64 8] H1 Θ := fun h => pick26_ct ak 8 (by decide) (by decide) h
  obtain ⟨hwf, hpe, hrd⟩ := haa
  dsimp only at hwf hpe hrd
  have hokr : okP (plc aw.r) := ⟨⟨keyS_wf hwf, keyS_key _⟩, hpe⟩
  unfold enAc
  dsimp only
  unfold enW enR
  repeat (first | refine Z0 ?_ | (refine ZR ?_; first | refine x1 ?_ | refine x2 ?_ | refine x8 ?_ | refine Z1 ?_ | refine Z2 ?_ | refine x3 fun _ => ?_ | refine x4 fun _ => ?_ | refine x5 fun _ => ?_ | refine Z3 fun _ => ?_ | refine Z4 fun _ => ?_) | refine ZC ?_)
  rename_i b3
  refine rt_step rfl rfl rfl (st_call rfl rfl rfl rfl (call_ext rfl ?_))
  repeat (first | refine Z0 ?_ | (refine ZR ?_; first | refine x1 ?_ | refine x2 ?_ | refine x8 ?_ | refine Z1 ?_ | refine Z2 ?_ | refine x3 fun _ => ?_ | refine x4 fun _ => ?_ | refine x5 fun _ => ?_ | refine Z3 fun _ => ?_ | refine Z4 fun _ => ?_) | refine ZC ?_)
  refine rt_step rfl rfl rfl (st_call rfl rfl rfl rfl (light8_ct (ha.weak (List.nil_sublist _)) hl fun t ht => ?_))
  cases t with
  | false =>
    repeat (first | refine Z0 ?_ | (refine ZR ?_; first | refine x1 ?_ | refine x2 ?_ | refine x8 ?_ | refine Z1 ?_ | refine Z2 ?_ | refine x3 fun _ => ?_ | refine x4 fun _ => ?_ | refine x5 fun _ => ?_ | refine Z3 fun _ => ?_ | refine Z4 fun _ => ?_) | refine ZC ?_)
    exact re_1 rfl rfl (List.nil_sublist _) hQ
  | true =>
  obtain ⟨hltL, hL60⟩ := ht.1 rfl
  repeat (first | refine Z0 ?_ | (refine ZR ?_; first | refine x1 ?_ | refine x2 ?_ | refine x8 ?_ | refine Z1 ?_ | refine Z2 ?_ | refine x3 fun _ => ?_ | refine x4 fun _ => ?_ | refine x5 fun _ => ?_ | refine Z3 fun _ => ?_ | refine Z4 fun _ => ?_) | refine ZC ?_)
  rename_i bs
  refine rt_step rfl rfl rfl (st_call rfl rfl rfl rfl (light8_ct (L := [⟨ak, aw⟩]) (c := 1) ((arrW_one (en := enAc) (a := ⟨ak, aw⟩) enAc_len (List.Mem.head _)).arr enAc_len) (by simp) fun t2 ht2 => ?_))
  cases t2 with
  | false =>
    repeat (first | refine Z0 ?_ | (refine ZR ?_; first | refine x1 ?_ | refine x2 ?_ | refine x8 ?_ | refine Z1 ?_ | refine Z2 ?_ | refine x3 fun _ => ?_ | refine x4 fun _ => ?_ | refine x5 fun _ => ?_ | refine Z3 fun _ => ?_ | refine Z4 fun _ => ?_) | refine ZC ?_)
    exact re_1 rfl rfl (List.nil_sublist _) hQ
  | true =>
  have hlta : ltR aw.r := (ht2.1 rfl).1 ⟨ak, aw⟩ (List.mem_singleton.2 rfl)
  repeat (first | refine Z0 ?_ | (refine ZR ?_; first | refine x1 ?_ | refine x2 ?_ | refine x8 ?_ | refine Z1 ?_ | refine Z2 ?_ | refine x3 fun _ => ?_ | refine x4 fun _ => ?_ | refine x5 fun _ => ?_ | refine Z3 fun _ => ?_ | refine Z4 fun _ => ?_) | refine ZC ?_)
  refine rt_step rfl rfl rfl (st_call rfl rfl rfl rfl (new9_ct (fun h => absurd h (by decide)) fun _ v Hs0 hI0 => ?_))
  obtain ⟨p0, hp0⟩ : ∃ a, v = .pointer (some a) := by cases hI0; exact ⟨_, rfl⟩
  subst hp0
  have hdo : ∀ {M : List Rt} {v : Value} {Hs H1 : Hp} {Θ : Value → Hp → Prop}, Rib (cx B0 old) 1000 M v Hs → (∀ Hs', Rib (cx B0 old) 1000 (doM 1000 (pkF ak 8) aw.r M).1 v Hs' → Θ (.tuple #[.int .i64 (doM 1000 (pkF ak 8) aw.r M).2.1, .int .i64 (doM 1000 (pkF ak 8) aw.r M).2.2]) (Hs' ++ H1)) →
      CallT (cx B0 old) (acall (cx B0 old) ansP (n + 20029)) 11 [v, .agg ⟨enAc ⟨ak, aw⟩⟩] (Hs ++ H1) Θ := fun hI h => CallT.fuel (n := n + 20023 + 6) (do11_ct ak aw ⟨hwf, hpe, hrd.weak (List.nil_sublist _)⟩ hlta hI h) rfl
  have hb3 : (b3, AObj.row (enAc ⟨ak, aw⟩) 39 false) = (b3, AObj.row (enAc ⟨ak, aw⟩) 39 false) := rfl
  repeat (first | refine Z0 ?_ | (refine ZR ?_; first | refine x1 ?_ | refine x2 ?_ | refine x8 ?_ | refine Z1 ?_ | refine Z2 ?_ | refine x3 fun _ => ?_ | refine x4 fun _ => ?_ | refine x5 fun _ => ?_ | refine Z3 fun _ => ?_ | refine Z4 fun _ => ?_) | refine ZC ?_)
  refine ct_midB (ι := List Rt × Hp) (fun j => Rib (cx B0 old) 1000 j.1 (.pointer (some p0)) j.2 ∧ j.1.length ≤ 60) (fun j => [(5, .pointer (some p0)), (3, .pointer (some ⟨b3, 0, none⟩))]) (fun j => j.2 ++ [(b3, AObj.row (enAc ⟨ak, aw⟩) 39 false)]) ?_ ?_
  · refine loop_ind (ι := Nat × List Rt × Hp) (0, [], Hs0) (fun j => L.length - j.1) (fun j => j.1 ≤ L.length ∧ Rib (cx B0 old) 1000 j.2.1 (.pointer (some p0)) j.2.2 ∧ j.2.1.length ≤ j.1)
      (fun j => [(7, .int .i64 (j.1 : Int)), (5, .pointer (some p0)), (3, .pointer (some ⟨b3, 0, none⟩)), (0, .slice ad L.length c)]) (fun j => j.2.2 ++ [(b3, AObj.row (enAc ⟨ak, aw⟩) 39 false)]) ⟨Nat.zero_le _, hI0, Nat.le_refl _⟩ (by repeat (first | exact SubL.nil | refine SubL.cons rfl ?_)) (by exact drop_auto) ?_
    rintro ⟨i, M, Hs⟩ ⟨hi, hI, hml⟩
    dsimp only at hi hI hml ⊢
    repeat (first | refine Z0 ?_ | (refine ZR ?_; first | refine x1 ?_ | refine x2 ?_ | refine x8 ?_ | refine Z1 ?_ | refine Z2 ?_ | refine x3 fun _ => ?_ | refine x4 fun _ => ?_ | refine x5 fun _ => ?_ | refine Z3 fun _ => ?_ | refine Z4 fun _ => ?_) | refine ZC ?_)
    refine ct_condT te_d rfl (fun hlt => ?_) (fun hlt => ?_)
    rotate_left
    · repeat (first | refine Z0 ?_ | (refine ZR ?_; first | refine x1 ?_ | refine x2 ?_ | refine x8 ?_ | refine Z1 ?_ | refine Z2 ?_ | refine x3 fun _ => ?_ | refine x4 fun _ => ?_ | refine x5 fun _ => ?_ | refine Z3 fun _ => ?_ | refine Z4 fun _ => ?_) | refine ZC ?_)
      exact ⟨(M, Hs), ⟨hI, by dsimp only; omega⟩, by repeat (first | exact SubL.nil | refine SubL.cons rfl ?_), by exact drop_auto⟩
    obtain ⟨x, hx⟩ : ∃ x, L[i]? = some x := ⟨_, List.getElem?_eq_getElem (by omega)⟩
    have hxm := List.mem_of_getElem? hx
    obtain ⟨b1, o1, rfl, hL0⟩ := (ha.weak (List.nil_sublist (Hs ++ [(b3, AObj.row (enAc ⟨ak, aw⟩) 39 false)]))).ldW 54 hx rfl (sz rfl)
    repeat (first | refine Z0 ?_ | (refine ZR ?_; first | refine x1 ?_ | refine x2 ?_ | refine x8 ?_ | refine Z1 ?_ | refine Z2 ?_ | refine x3 fun _ => ?_ | refine x4 fun _ => ?_ | refine x5 fun _ => ?_ | refine Z3 fun _ => ?_ | refine Z4 fun _ => ?_) | refine ZC ?_)
    refine rt_step rfl rfl rfl (st_call rfl rfl rfl rfl (do11_ct x.k x.w ((hL x hxm).weak (List.nil_sublist _)) (hltL x hxm) hI fun Hs' hI' => ?_))
    repeat (first | refine Z0 ?_ | (refine ZR ?_; first | refine x1 ?_ | refine x2 ?_ | refine x8 ?_ | refine Z1 ?_ | refine Z2 ?_ | refine x3 fun _ => ?_ | refine x4 fun _ => ?_ | refine x5 fun _ => ?_ | refine Z3 fun _ => ?_ | refine Z4 fun _ => ?_) | refine ZC ?_)
    have hlen := doM_len 1000 (pkF x.k 8) x.w.r M
    exact ⟨(i + 1, _, Hs'), ⟨by dsimp only; omega, hI', Nat.le_trans hlen (Nat.succ_le_succ hml)⟩, by dsimp only; omega, by repeat (first | exact SubL.nil | refine SubL.cons rfl ?_), by exact drop_auto⟩
  rintro ⟨M0, Hs⟩ ⟨hI, hM0⟩
  dsimp only at hI hM0 ⊢
  repeat (first | refine Z0 ?_ | (refine ZR ?_; first | refine x1 ?_ | refine x2 ?_ | refine x8 ?_ | refine Z1 ?_ | refine Z2 ?_ | refine x3 fun _ => ?_ | refine x4 fun _ => ?_ | refine x5 fun _ => ?_ | refine Z3 fun _ => ?_ | refine Z4 fun _ => ?_) | refine ZC ?_)
  refine rt_step rfl rfl rfl (st_call rfl rfl rfl rfl (CallT.fuel (n := n + 9 + 20020) (all16_ct hI (show M0.length ≤ 20000 by omega) fun w G0 hG0 => ?_) rfl))
  obtain ⟨ad0, c0, L0, rfl, hL0m, hA0, hR0, hS0⟩ := hG0.rows
  repeat (first | refine Z0 ?_ | (refine ZR ?_; first | refine x1 ?_ | refine x2 ?_ | refine x8 ?_ | refine Z1 ?_ | refine Z2 ?_ | refine x3 fun _ => ?_ | refine x4 fun _ => ?_ | refine x5 fun _ => ?_ | refine Z3 fun _ => ?_ | refine Z4 fun _ => ?_) | refine ZC ?_)
  refine rt_step rfl rfl rfl (st_call rfl rfl rfl rfl (CallT.perm (CallT.fuel (n := n + 20026 + 3) (copy15_ct (H := G0 ++ [_]) hI fun pc HsC hIC => ?_) rfl) (List.perm_append_comm_assoc Hs G0 _)))
  repeat (first | refine Z0 ?_ | (refine ZR ?_; first | refine x1 ?_ | refine x2 ?_ | refine x8 ?_ | refine Z1 ?_ | refine Z2 ?_ | refine x3 fun _ => ?_ | refine x4 fun _ => ?_ | refine x5 fun _ => ?_ | refine Z3 fun _ => ?_ | refine Z4 fun _ => ?_) | refine ZC ?_)
  refine rt_step rfl rfl rfl (st_call rfl rfl rfl rfl (CallT.perm (hdo (H1 := HsC ++ (G0 ++ [_])) hI fun Hs1 hI1 => ?_) (List.perm_append_comm_assoc Hs HsC _)))
  have hap := doM_apart (lim := 1000) (q := pkF ak 8) hI.ss.1 hI.ss.2 hokr
  have hM1l := doM_len 1000 (pkF ak 8) aw.r M0
  generalize hM1 : (doM 1000 (pkF ak 8) aw.r M0).1 = M1 at *
  repeat (first | refine Z0 ?_ | (refine ZR ?_; first | refine x1 ?_ | refine x2 ?_ | refine x8 ?_ | refine Z1 ?_ | refine Z2 ?_ | refine x3 fun _ => ?_ | refine x4 fun _ => ?_ | refine x5 fun _ => ?_ | refine Z3 fun _ => ?_ | refine Z4 fun _ => ?_) | refine ZC ?_)
  refine rt_step rfl rfl rfl (st_call rfl rfl rfl rfl (CallT.fuel (n := n + 9 + 20020) (all16_ct hI1 (show M1.length ≤ 20000 by omega) fun w G1 hG1 => ?_) rfl))
  obtain ⟨ad1, c1, L1, rfl, hL1m, hA1, hR1, hS1⟩ := hG1.rows
  repeat (first | refine Z0 ?_ | (refine ZR ?_; first | refine x1 ?_ | refine x2 ?_ | refine x8 ?_ | refine Z1 ?_ | refine Z2 ?_ | refine x3 fun _ => ?_ | refine x4 fun _ => ?_ | refine x5 fun _ => ?_ | refine Z3 fun _ => ?_ | refine Z4 fun _ => ?_) | refine ZC ?_)
  refine rt_step rfl rfl rfl (st_call rfl rfl rfl rfl (CallT.perm (H' := HsC ++ (G1 ++ (Hs1 ++ (G0 ++ [_])))) (CallT.fuel (n := n + 9 + 20020) (all16_ct hIC (show M0.length ≤ 20000 by omega) fun w G2 hG2 => ?_) rfl) (pqa HsC G1 Hs1 _)))
  obtain ⟨ad2, c2, L2, rfl, hL2m, hA2, hR2, hS2⟩ := hG2.rows
  repeat (first | refine Z0 ?_ | (refine ZR ?_; first | refine x1 ?_ | refine x2 ?_ | refine x8 ?_ | refine Z1 ?_ | refine Z2 ?_ | refine x3 fun _ => ?_ | refine x4 fun _ => ?_ | refine x5 fun _ => ?_ | refine Z3 fun _ => ?_ | refine Z4 fun _ => ?_) | refine ZC ?_)
  refine rt_step rfl rfl rfl (st_call rfl rfl rfl rfl (sames14_ct (hS2.weak (by exact drop_auto)) (hS0.weak (by exact drop_auto)) (by omega) (fun r hr => (hI.ss.2 r hr).light) fun t ht => ?_))
  obtain rfl : t = true := ht.2 rfl
  repeat (first | refine Z0 ?_ | (refine ZR ?_; first | refine x1 ?_ | refine x2 ?_ | refine x8 ?_ | refine Z1 ?_ | refine Z2 ?_ | refine x3 fun _ => ?_ | refine x4 fun _ => ?_ | refine x5 fun _ => ?_ | refine Z3 fun _ => ?_ | refine Z4 fun _ => ?_) | refine ZC ?_)
  refine rt_step rfl rfl rfl (st_call rfl rfl rfl rfl (hpk ?_))
  have hfW : ∀ {K : List Rw} {N : List Rt}, K.map (·.r) = N → (K.filter fun x => othR (pkF ak 8) aw.r x.r).map (·.r) = N.filter (othR (pkF ak 8) aw.r) := fun h => by rw [← h, List.filter_map]; rfl
  have hl0 : L0.length ≤ 61 := by have := congrArg List.length hL0m; rw [List.length_map] at this; omega
  have hl1 : L1.length ≤ 61 := by have := congrArg List.length hL1m; rw [List.length_map] at this; omega
  have hWx0 : ∀ x : Rw, (fun x : Rw => othR (pkF ak 8) aw.r x.r) x = (decide (x.r.peer ≠ aw.r.peer) || (decide (pkF ak 8 < 5) && decide (nlC x.r.n aw.r.n ≠ 0))) := fun x => rfl
  have hW0 := hfW hL0m
  have hW1 := hfW hL1m
  generalize (fun x : Rw => othR (pkF ak 8) aw.r x.r) = hW at *
  repeat (first | refine Z0 ?_ | (refine ZR ?_; first | refine x1 ?_ | refine x2 ?_ | refine x8 ?_ | refine Z1 ?_ | refine Z2 ?_ | refine x3 fun _ => ?_ | refine x4 fun _ => ?_ | refine x5 fun _ => ?_ | refine Z3 fun _ => ?_ | refine Z4 fun _ => ?_) | refine ZC ?_)
  generalize hone : decide (pkF ak 8 < 5) = one at *
  have hWx := hWx0
  refine ct_midB (ι := Value × Hp) (fun j => Own enW 38 (L0.filter hW) j.1 j.2) (fun j => [(12, j.1), (13, .slice none 0 0), (11, .bool one), (10, .slice ad1 L1.length c1), (9, .pointer (some pc)), (8, .slice ad0 L0.length c0), (5, .pointer (some p0)), (3, .pointer (some ⟨b3, 0, none⟩))]) (fun j => j.2 ++ (HsC ++ (G1 ++ (Hs1 ++ (G0 ++ [(b3, AObj.row (enAc ⟨ak, aw⟩) 39 false)]))))) ?_ ?_
  · refine loop_ind (ι := Nat × Value × Hp) (0, .slice none 0 0, []) (fun j => L0.length - j.1) (fun j => j.1 ≤ L0.length ∧ Own enW 38 ((L0.take j.1).filter hW) j.2.1 j.2.2)
      (fun j => [(14, .int .i64 (j.1 : Int)), (12, j.2.1), (13, .slice none 0 0), (11, .bool one), (10, .slice ad1 L1.length c1), (9, .pointer (some pc)), (8, .slice ad0 L0.length c0), (5, .pointer (some p0)), (3, .pointer (some ⟨b3, 0, none⟩))]) (fun j => j.2.2 ++ (HsC ++ (G1 ++ (Hs1 ++ (G0 ++ [(b3, AObj.row (enAc ⟨ak, aw⟩) 39 false)]))))) ⟨Nat.zero_le _, .nil⟩ (by repeat (first | exact SubL.nil | refine SubL.cons rfl ?_)) (by exact drop_auto) ?_
    rintro ⟨i, vw, Gw⟩ ⟨hi, ho⟩
    dsimp only at hi ho ⊢
    have hfl : ((L0.take i).filter hW).length ≤ 70 := Nat.le_trans (List.length_filter_le _ _) (by rw [List.length_take]; omega)
    obtain ⟨al, cl, rfl, _⟩ := ho.arrW (C := cx B0 old) enW_len
    repeat (first | refine Z0 ?_ | (refine ZR ?_; first | refine x1 ?_ | refine x2 ?_ | refine x8 ?_ | refine Z1 ?_ | refine Z2 ?_ | refine x3 fun _ => ?_ | refine x4 fun _ => ?_ | refine x5 fun _ => ?_ | refine Z3 fun _ => ?_ | refine Z4 fun _ => ?_) | refine ZC ?_)
    refine ct_condT te_d rfl (fun hlt => ?_) (fun hlt => ?_)
    rotate_left
    · obtain rfl : i = L0.length := by omega
      rw [List.take_length] at ho ⊢
      repeat (first | refine Z0 ?_ | (refine ZR ?_; first | refine x1 ?_ | refine x2 ?_ | refine x8 ?_ | refine Z1 ?_ | refine Z2 ?_ | refine x3 fun _ => ?_ | refine x4 fun _ => ?_ | refine x5 fun _ => ?_ | refine Z3 fun _ => ?_ | refine Z4 fun _ => ?_) | refine ZC ?_)
      exact ⟨(_, Gw), ho, by repeat (first | exact SubL.nil | refine SubL.cons rfl ?_), by exact drop_auto⟩
    obtain ⟨x, hx⟩ : ∃ x, L0[i]? = some x := ⟨_, List.getElem?_eq_getElem (by omega)⟩
    have hxm : x.r ∈ M0 := by rw [← hL0m]; exact List.mem_map_of_mem (List.mem_of_getElem? hx)
    have hxw := (hI.ss.2 _ hxm).wf
    obtain ⟨b1, o1, cs1, e1, hrow, hcut⟩ := hA0.els i x hx
    have hLx : ∀ H', G0.Sublist H' → LdT (cx B0 old) 43 H' b1 (o1 + i * 38 + 0) (.agg ⟨en60 x.r.n⟩) := fun H' hs => ldP (hrow.weak hs) rfl (sz rfl) (cut_part hcut rfl (by decide))
    obtain ⟨b1', o1', e1', hL1⟩ := hA0.ldF 39 36 (v := .int .u32 x.r.peer) hx rfl rfl rfl (sz rfl)
    obtain ⟨b1'', o1'', e1'', hL2⟩ := hA0.ldW 52 hx rfl (sz rfl)
    rw [e1] at e1' e1'' ⊢
    cases e1'
    cases e1''
    have hL0 := hLx
    repeat (first | refine Z0 ?_ | (refine ZR ?_; first | refine x1 ?_ | refine x2 ?_ | refine x8 ?_ | refine Z1 ?_ | refine Z2 ?_ | refine x3 fun _ => ?_ | refine x4 fun _ => ?_ | refine x5 fun _ => ?_ | refine Z3 fun _ => ?_ | refine Z4 fun _ => ?_) | refine ZC ?_)
    refine ct_draw (masks := [0, 0, 3, 7, 15, 0, 32, 96, 255, 511, 1023, 2047, 4095, 4095, 16383, 32767, 65535, 4095, 135167, 397311, 1048575, 2097151, 4194303, 8388607]) (plan := [0, 1, 2, 3, 4, 5, 6, 7, 8, 9, 10, 11, 12, 13, 14, 15, 16, 17, 18, 19, 20, 21, 22, 23]) (E := []) (by kernel_rfl) (by kernel_rfl) (by kernel_rfl) (by kernel_rfl) ?_
    refine pl_midE (ι := Bool) (fun b => b = hW x) (fun b => [(92, .bool b), (14, .int .i64 (i : Int)), (12, .slice al ((L0.take i).filter hW).length cl), (13, .slice none 0 0), (11, .bool one), (10, .slice ad1 L1.length c1), (9, .pointer (some pc)), (8, .slice (some ⟨b1, o1, none⟩) L0.length c0), (5, .pointer (some p0)), (3, .pointer (some ⟨b3, 0, none⟩))]) (fun _ => Gw ++ (HsC ++ (G1 ++ (Hs1 ++ (G0 ++ [(b3, AObj.row (enAc ⟨ak, aw⟩) 39 false)]))))) ?_ ?_
    · repeat (first | refine Y0 ?_ | (refine YP ?_; first | refine y1 ?_ | refine y2 ?_ | refine Y1 ?_ | refine Y2 ?_))
      refine isPlan ?_
      refine z3 (fun hc => ?_) (fun hc => ?_)
      · repeat (first | refine Y0 ?_ | (refine YP ?_; first | refine y1 ?_ | refine y2 ?_ | refine Y1 ?_ | refine Y2 ?_))
        exact ⟨true, by rw [hWx, decide_eq_true hc]; rfl, by repeat (first | exact SubL.nil | refine SubL.cons rfl ?_), List.Sublist.refl _⟩
      · repeat (first | refine Y0 ?_ | (refine YP ?_; first | refine y1 ?_ | refine y2 ?_ | refine Y1 ?_ | refine Y2 ?_))
        cases one with
        | false =>
          repeat (first | refine Y0 ?_ | (refine YP ?_; first | refine y1 ?_ | refine y2 ?_ | refine Y1 ?_ | refine Y2 ?_))
          exact ⟨false, by rw [hWx, decide_eq_false (by simpa using hc)]; rfl, by repeat (first | exact SubL.nil | refine SubL.cons rfl ?_), List.Sublist.refl _⟩
        | true =>
          repeat (first | refine Y0 ?_ | (refine YP ?_; first | refine y1 ?_ | refine y2 ?_ | refine Y1 ?_ | refine Y2 ?_))
          refine pl_S rfl rfl rfl rfl rfl rfl (st_call rfl rfl rfl rfl (compare24_ct (n := n + 20025) x.r.n aw.r.n hxw hwf ⟨by exact rec_auto, ?_⟩))
          repeat (first | refine Y0 ?_ | (refine YP ?_; first | refine y1 ?_ | refine y2 ?_ | refine Y1 ?_ | refine Y2 ?_))
          refine ⟨_, ?_, by repeat (first | exact SubL.nil | refine SubL.cons rfl ?_), by exact drop_auto⟩
          rw [hWx, decide_eq_false (by simpa using hc), Bool.true_and, Bool.false_or, Bool.eq_iff_iff]
          simp
    intro b hb
    cases b
    · repeat (first | refine Z0 ?_ | (refine ZR ?_; first | refine x1 ?_ | refine x2 ?_ | refine x8 ?_ | refine Z1 ?_ | refine Z2 ?_ | refine x3 fun _ => ?_ | refine x4 fun _ => ?_ | refine x5 fun _ => ?_ | refine Z3 fun _ => ?_ | refine Z4 fun _ => ?_) | refine ZC ?_)
      exact ⟨(i + 1, _, Gw), ⟨by dsimp only; omega, by dsimp only; rw [flt_take hx, ← hb]; exact ho⟩, by dsimp only; omega, by repeat (first | exact SubL.nil | refine SubL.cons rfl ?_), by exact drop_auto⟩
    · repeat (first | refine Z0 ?_ | (refine ZR ?_; first | refine x1 ?_ | refine x2 ?_ | refine x8 ?_ | refine Z1 ?_ | refine Z2 ?_ | refine x3 fun _ => ?_ | refine x4 fun _ => ?_ | refine x5 fun _ => ?_ | refine Z3 fun _ => ?_ | refine Z4 fun _ => ?_) | refine ZC ?_)
      rename_i bs
      refine rt_step rfl rfl rfl (st_appP (M := [x]) (c := 1) (pre := [_]) ho enW_len enW_one rfl rfl (ap rfl) (arrW_one enW_len hm0) (Nat.le_trans (Nat.mul_le_mul_right _ (show 2 * (((L0.take i).filter hW).length + [x].length) + 192 ≤ 6000 by rw [List.length_singleton]; omega)) (by decide)) fun v1 G9 o9 => ?_)
      repeat (first | refine Z0 ?_ | (refine ZR ?_; first | refine x1 ?_ | refine x2 ?_ | refine x8 ?_ | refine Z1 ?_ | refine Z2 ?_ | refine x3 fun _ => ?_ | refine x4 fun _ => ?_ | refine x5 fun _ => ?_ | refine Z3 fun _ => ?_ | refine Z4 fun _ => ?_) | refine ZC ?_)
      exact ⟨(i + 1, v1, G9), ⟨by dsimp only; omega, by dsimp only; rw [flt_take hx, ← hb]; exact o9⟩, by dsimp only; omega, by repeat (first | exact SubL.nil | refine SubL.cons rfl ?_), by exact drop_auto⟩
  rintro ⟨vw0, Gw0⟩ how
  dsimp only at how ⊢
  obtain ⟨aw0, cw0, rfl, hww⟩ := how.arrW (C := cx B0 old) enW_len
  repeat (first | refine Z0 ?_ | (refine ZR ?_; first | refine x1 ?_ | refine x2 ?_ | refine x8 ?_ | refine Z1 ?_ | refine Z2 ?_ | refine x3 fun _ => ?_ | refine x4 fun _ => ?_ | refine x5 fun _ => ?_ | refine Z3 fun _ => ?_ | refine Z4 fun _ => ?_) | refine ZC ?_)
  refine ct_midB (ι := Value × Hp) (fun j => Own enW 38 (L1.filter hW) j.1 j.2) (fun j => [(13, j.1), (12, .slice aw0 (L0.filter hW).length cw0), (11, .bool one), (10, .slice ad1 L1.length c1), (9, .pointer (some pc)), (3, .pointer (some ⟨b3, 0, none⟩))]) (fun j => j.2 ++ (Gw0 ++ (HsC ++ (G1 ++ (Hs1 ++ (G0 ++ [(b3, AObj.row (enAc ⟨ak, aw⟩) 39 false)])))))) ?_ ?_
  · refine loop_ind (ι := Nat × Value × Hp) (0, .slice none 0 0, []) (fun j => L1.length - j.1) (fun j => j.1 ≤ L1.length ∧ Own enW 38 ((L1.take j.1).filter hW) j.2.1 j.2.2)
      (fun j => [(15, .int .i64 (j.1 : Int)), (13, j.2.1), (12, .slice aw0 (L0.filter hW).length cw0), (11, .bool one), (10, .slice ad1 L1.length c1), (9, .pointer (some pc)), (3, .pointer (some ⟨b3, 0, none⟩))]) (fun j => j.2.2 ++ (Gw0 ++ (HsC ++ (G1 ++ (Hs1 ++ (G0 ++ [(b3, AObj.row (enAc ⟨ak, aw⟩) 39 false)])))))) ⟨Nat.zero_le _, .nil⟩ (by repeat (first | exact SubL.nil | refine SubL.cons rfl ?_)) (by exact drop_auto) ?_
    rintro ⟨i, vw, Gw⟩ ⟨hi, ho⟩
    dsimp only at hi ho ⊢
    have hfl : ((L1.take i).filter hW).length ≤ 70 := Nat.le_trans (List.length_filter_le _ _) (by rw [List.length_take]; omega)
    obtain ⟨al, cl, rfl, _⟩ := ho.arrW (C := cx B0 old) enW_len
    repeat (first | refine Z0 ?_ | (refine ZR ?_; first | refine x1 ?_ | refine x2 ?_ | refine x8 ?_ | refine Z1 ?_ | refine Z2 ?_ | refine x3 fun _ => ?_ | refine x4 fun _ => ?_ | refine x5 fun _ => ?_ | refine Z3 fun _ => ?_ | refine Z4 fun _ => ?_) | refine ZC ?_)
    refine ct_condT te_d rfl (fun hlt => ?_) (fun hlt => ?_)
    rotate_left
    · obtain rfl : i = L1.length := by omega
      rw [List.take_length] at ho ⊢
      repeat (first | refine Z0 ?_ | (refine ZR ?_; first | refine x1 ?_ | refine x2 ?_ | refine x8 ?_ | refine Z1 ?_ | refine Z2 ?_ | refine x3 fun _ => ?_ | refine x4 fun _ => ?_ | refine x5 fun _ => ?_ | refine Z3 fun _ => ?_ | refine Z4 fun _ => ?_) | refine ZC ?_)
      exact ⟨(_, Gw), ho, by repeat (first | exact SubL.nil | refine SubL.cons rfl ?_), by exact drop_auto⟩
    obtain ⟨x, hx⟩ : ∃ x, L1[i]? = some x := ⟨_, List.getElem?_eq_getElem (by omega)⟩
    have hxm : x.r ∈ M1 := by rw [← hL1m]; exact List.mem_map_of_mem (List.mem_of_getElem? hx)
    have hxw := (hI1.ss.2 _ hxm).wf
    obtain ⟨b1, o1, cs1, e1, hrow, hcut⟩ := hA1.els i x hx
    have hLx : ∀ H', G1.Sublist H' → LdT (cx B0 old) 43 H' b1 (o1 + i * 38 + 0) (.agg ⟨en60 x.r.n⟩) := fun H' hs => ldP (hrow.weak hs) rfl (sz rfl) (cut_part hcut rfl (by decide))
    obtain ⟨b1', o1', e1', hL1⟩ := hA1.ldF 39 36 (v := .int .u32 x.r.peer) hx rfl rfl rfl (sz rfl)
    obtain ⟨b1'', o1'', e1'', hL2⟩ := hA1.ldW 52 hx rfl (sz rfl)
    rw [e1] at e1' e1'' ⊢
    cases e1'
    cases e1''
    have hL0 := hLx
    repeat (first | refine Z0 ?_ | (refine ZR ?_; first | refine x1 ?_ | refine x2 ?_ | refine x8 ?_ | refine Z1 ?_ | refine Z2 ?_ | refine x3 fun _ => ?_ | refine x4 fun _ => ?_ | refine x5 fun _ => ?_ | refine Z3 fun _ => ?_ | refine Z4 fun _ => ?_) | refine ZC ?_)
    refine ct_draw (masks := [0, 0, 3, 7, 15, 0, 32, 96, 255, 511, 1023, 2047, 4095, 4095, 16383, 32767, 65535, 4095, 135167, 397311, 1048575, 2097151, 4194303, 8388607]) (plan := [0, 1, 2, 3, 4, 5, 6, 7, 8, 9, 10, 11, 12, 13, 14, 15, 16, 17, 18, 19, 20, 21, 22, 23]) (E := []) (by kernel_rfl) (by kernel_rfl) (by kernel_rfl) (by kernel_rfl) ?_
    refine pl_midE (ι := Bool) (fun b => b = hW x) (fun b => [(129, .bool b), (15, .int .i64 (i : Int)), (13, .slice al ((L1.take i).filter hW).length cl), (12, .slice aw0 (L0.filter hW).length cw0), (11, .bool one), (10, .slice (some ⟨b1, o1, none⟩) L1.length c1), (9, .pointer (some pc)), (3, .pointer (some ⟨b3, 0, none⟩))]) (fun _ => Gw ++ (Gw0 ++ (HsC ++ (G1 ++ (Hs1 ++ (G0 ++ [(b3, AObj.row (enAc ⟨ak, aw⟩) 39 false)])))))) ?_ ?_
    · repeat (first | refine Y0 ?_ | (refine YP ?_; first | refine y1 ?_ | refine y2 ?_ | refine Y1 ?_ | refine Y2 ?_))
      refine isPlan ?_
      refine z3 (fun hc => ?_) (fun hc => ?_)
      · repeat (first | refine Y0 ?_ | (refine YP ?_; first | refine y1 ?_ | refine y2 ?_ | refine Y1 ?_ | refine Y2 ?_))
        exact ⟨true, by rw [hWx, decide_eq_true hc]; rfl, by repeat (first | exact SubL.nil | refine SubL.cons rfl ?_), List.Sublist.refl _⟩
      · repeat (first | refine Y0 ?_ | (refine YP ?_; first | refine y1 ?_ | refine y2 ?_ | refine Y1 ?_ | refine Y2 ?_))
        cases one with
        | false =>
          repeat (first | refine Y0 ?_ | (refine YP ?_; first | refine y1 ?_ | refine y2 ?_ | refine Y1 ?_ | refine Y2 ?_))
          exact ⟨false, by rw [hWx, decide_eq_false (by simpa using hc)]; rfl, by repeat (first | exact SubL.nil | refine SubL.cons rfl ?_), List.Sublist.refl _⟩
        | true =>
          repeat (first | refine Y0 ?_ | (refine YP ?_; first | refine y1 ?_ | refine y2 ?_ | refine Y1 ?_ | refine Y2 ?_))
          refine pl_S rfl rfl rfl rfl rfl rfl (st_call rfl rfl rfl rfl (compare24_ct (n := n + 20025) x.r.n aw.r.n hxw hwf ⟨by exact rec_auto, ?_⟩))
          repeat (first | refine Y0 ?_ | (refine YP ?_; first | refine y1 ?_ | refine y2 ?_ | refine Y1 ?_ | refine Y2 ?_))
          refine ⟨_, ?_, by repeat (first | exact SubL.nil | refine SubL.cons rfl ?_), by exact drop_auto⟩
          rw [hWx, decide_eq_false (by simpa using hc), Bool.true_and, Bool.false_or, Bool.eq_iff_iff]
          simp
    intro b hb
    cases b
    · repeat (first | refine Z0 ?_ | (refine ZR ?_; first | refine x1 ?_ | refine x2 ?_ | refine x8 ?_ | refine Z1 ?_ | refine Z2 ?_ | refine x3 fun _ => ?_ | refine x4 fun _ => ?_ | refine x5 fun _ => ?_ | refine Z3 fun _ => ?_ | refine Z4 fun _ => ?_) | refine ZC ?_)
      exact ⟨(i + 1, _, Gw), ⟨by dsimp only; omega, by dsimp only; rw [flt_take hx, ← hb]; exact ho⟩, by dsimp only; omega, by repeat (first | exact SubL.nil | refine SubL.cons rfl ?_), by exact drop_auto⟩
    · repeat (first | refine Z0 ?_ | (refine ZR ?_; first | refine x1 ?_ | refine x2 ?_ | refine x8 ?_ | refine Z1 ?_ | refine Z2 ?_ | refine x3 fun _ => ?_ | refine x4 fun _ => ?_ | refine x5 fun _ => ?_ | refine Z3 fun _ => ?_ | refine Z4 fun _ => ?_) | refine ZC ?_)
      rename_i bs
      refine rt_step rfl rfl rfl (st_appP (M := [x]) (c := 1) (pre := [_]) ho enW_len enW_one rfl rfl (ap rfl) (arrW_one enW_len hm0) (Nat.le_trans (Nat.mul_le_mul_right _ (show 2 * (((L1.take i).filter hW).length + [x].length) + 192 ≤ 6000 by rw [List.length_singleton]; omega)) (by decide)) fun v1 G9 o9 => ?_)
      repeat (first | refine Z0 ?_ | (refine ZR ?_; first | refine x1 ?_ | refine x2 ?_ | refine x8 ?_ | refine Z1 ?_ | refine Z2 ?_ | refine x3 fun _ => ?_ | refine x4 fun _ => ?_ | refine x5 fun _ => ?_ | refine Z3 fun _ => ?_ | refine Z4 fun _ => ?_) | refine ZC ?_)
      exact ⟨(i + 1, v1, G9), ⟨by dsimp only; omega, by dsimp only; rw [flt_take hx, ← hb]; exact o9⟩, by dsimp only; omega, by repeat (first | exact SubL.nil | refine SubL.cons rfl ?_), by exact drop_auto⟩
  rintro ⟨vw1, Gw1⟩ hon
  dsimp only at hon ⊢
  obtain ⟨aw1, cw1, rfl, hwn⟩ := hon.arrW (C := cx B0 old) enW_len
  repeat (first | refine Z0 ?_ | (refine ZR ?_; first | refine x1 ?_ | refine x2 ?_ | refine x8 ?_ | refine Z1 ?_ | refine Z2 ?_ | refine x3 fun _ => ?_ | refine x4 fun _ => ?_ | refine x5 fun _ => ?_ | refine Z3 fun _ => ?_ | refine Z4 fun _ => ?_) | refine ZC ?_)
  refine rt_step rfl rfl rfl (st_call rfl rfl rfl rfl (CallT.perm (hdo (H1 := Gw1 ++ (Gw0 ++ (G1 ++ (Hs1 ++ (G0 ++ [_]))))) hIC fun HsC1 hIC1 => ?_) (pqa HsC Gw1 Gw0 _)))
  rw [hM1] at hIC1
  have hw0 : ArrW (cx B0 old) Gw0 aw0 38 enW (L0.filter hW) := by simpa using hww [] []
  have hw1 : ArrW (cx B0 old) Gw1 aw1 38 enW (L1.filter hW) := by simpa using hwn [] []
  repeat (first | refine Z0 ?_ | (refine ZR ?_; first | refine x1 ?_ | refine x2 ?_ | refine x8 ?_ | refine Z1 ?_ | refine Z2 ?_ | refine x3 fun _ => ?_ | refine x4 fun _ => ?_ | refine x5 fun _ => ?_ | refine Z3 fun _ => ?_ | refine Z4 fun _ => ?_) | refine ZC ?_)
  refine rt_step rfl rfl rfl (st_call rfl rfl rfl rfl (sames14_ct (M1 := (L0.filter hW).map (·.r)) (M2 := (L1.filter hW).map (·.r)) ⟨_, aw0, cw0, rfl, hw0.weak (by exact drop_auto), fun x hx => (hR0 x (List.mem_filter.1 hx).1).weak (by exact drop_auto), rfl⟩ ⟨_, aw1, cw1, rfl, hw1.weak (by exact drop_auto), fun x hx => (hR1 x (List.mem_filter.1 hx).1).weak (by exact drop_auto), rfl⟩ (by rw [List.length_map]; have := List.length_filter_le hW L0; omega) (fun r hr => by
    rw [hW0] at hr
    exact (hI.ss.2 r (List.mem_filter.1 hr).1).light) fun t ht => ?_))
  obtain rfl : t = true := ht.2 (by rw [hW0, hW1, hap])
  repeat (first | refine Z0 ?_ | (refine ZR ?_; first | refine x1 ?_ | refine x2 ?_ | refine x8 ?_ | refine Z1 ?_ | refine Z2 ?_ | refine x3 fun _ => ?_ | refine x4 fun _ => ?_ | refine x5 fun _ => ?_ | refine Z3 fun _ => ?_ | refine Z4 fun _ => ?_) | refine ZC ?_)
  refine rt_step rfl rfl rfl (st_call rfl rfl rfl rfl (CallT.fuel (n := n + 9 + 20020) (all16_ct hIC1 (show M1.length ≤ 20000 by omega) fun w G3 hG3 => ?_) rfl))
  obtain ⟨ad3, c3, L3, rfl, hL3m, hA3, hR3, hS3⟩ := hG3.rows
  repeat (first | refine Z0 ?_ | (refine ZR ?_; first | refine x1 ?_ | refine x2 ?_ | refine x8 ?_ | refine Z1 ?_ | refine Z2 ?_ | refine x3 fun _ => ?_ | refine x4 fun _ => ?_ | refine x5 fun _ => ?_ | refine Z3 fun _ => ?_ | refine Z4 fun _ => ?_) | refine ZC ?_)
  refine rt_step rfl rfl rfl (st_call rfl rfl rfl rfl (sames14_ct (hS3.weak (by exact drop_auto)) (hS1.weak (by exact drop_auto)) (by omega) (fun r hr => (hI1.ss.2 r hr).light) fun t ht => ?_))
  obtain rfl : t = true := ht.2 rfl
  repeat (first | refine Z0 ?_ | (refine ZR ?_; first | refine x1 ?_ | refine x2 ?_ | refine x8 ?_ | refine Z1 ?_ | refine Z2 ?_ | refine x3 fun _ => ?_ | refine x4 fun _ => ?_ | refine x5 fun _ => ?_ | refine Z3 fun _ => ?_ | refine Z4 fun _ => ?_) | refine ZC ?_)
  exact re_1 rfl rfl (List.nil_sublist _) hQ
end
end Go.Proofs.YtphadapcafibpaaGreat.Abs
