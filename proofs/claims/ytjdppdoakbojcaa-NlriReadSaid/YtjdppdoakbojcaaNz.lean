/- Plain laws: what is read of bytes that are encoded routes, whole or cut. -/
import Derived.Test.YtjdppdoakbojcaaNy
import Derived.Test.YtjdppdoakbojcaaTop
namespace Go.Proofs.Ytjdppdoakbojcaa.Abs
open Go
set_option linter.unusedVariables false
/-- What is read: a fault within the bytes and no route, or routes of which the bytes are the encoding. -/
theorem nlR_spec : ∀ (f : Nat) (r : List Int) (i : Nat) (acc : List S60), r.length < f → (∀ y ∈ r, isY y) →
    (∃ e at', nlR f r i acc = ([], e, at') ∧ e ≠ 0 ∧ (i : Int) ≤ at' ∧ at' < i + r.length) ∨ (∃ V, nlR f r i acc = (acc ++ V, 0, 0) ∧ catB V = r ∧ ∀ x ∈ V, x.wf ∧ NlOk x)
  | 0, r, i, acc, h, _ => by omega
  | f + 1, r, i, acc, h, hy => by
    unfold nlR
    by_cases h0 : r.length = 0
    · rw [if_pos h0]
      refine .inr ⟨[], by rw [List.append_nil], ?_, fun x hx => by cases hx⟩
      rw [List.eq_nil_of_length_eq_zero h0]; rfl
    · rw [if_neg h0]
      have hp := pcSz_pos (r := r) (by intro e; rw [e] at h0; exact h0 rfl)
      have hle := pcSz_le r
      by_cases hd : (dcR (r.take (pcSz r))).2 ≠ 0
      · rw [if_pos hd]
        exact .inl ⟨_, _, rfl, hd, by omega, by omega⟩
      · rw [if_neg hd]
        have hdl : (r.drop (pcSz r)).length = r.length - pcSz r := List.length_drop
        have hd0 : (dcR (r.take (pcSz r))).2 = 0 := Classical.byContradiction hd
        obtain ⟨w1, w2, w3⟩ := dc_ok (fun y hm => hy y (List.mem_of_mem_take hm)) hd0
        rcases nlR_spec f (r.drop (pcSz r)) (i + pcSz r) (acc ++ [(dcR (r.take (pcSz r))).1]) (by omega) (fun y hm => hy y (List.mem_of_mem_drop hm)) with ⟨e, a, h1, h2, h3, h4⟩ | ⟨V, h1, h2, h3⟩
        · exact .inl ⟨e, a, h1, h2, by omega, by omega⟩
        · refine .inr ⟨_ :: V, by rw [h1, List.append_assoc]; rfl, ?_, ?_⟩
          · show nlB _ ++ catB V = r
            rw [w3, h2, List.take_append_drop]
          · intro x hx
            rcases List.mem_cons.1 hx with rfl | hx
            · exact ⟨w1, w2⟩
            · exact h3 x hx
theorem nlRd_spec {b : List Int} (hy : ∀ y ∈ b, isY y) :
    (∃ e at', nlRd b = ([], e, at') ∧ e ≠ 0 ∧ 0 ≤ at' ∧ at' < b.length) ∨ (∃ V, nlRd b = (V, 0, 0) ∧ catB V = b ∧ ∀ x ∈ V, x.wf ∧ NlOk x) := by
  rcases nlR_spec (b.length + 1) b 0 [] (by omega) hy with ⟨e, a, h1, h2, h3, h4⟩ | ⟨V, h1, h2, h3⟩
  · exact .inl ⟨e, a, h1, h2, by omega, by omega⟩
  · exact .inr ⟨V, h1, h2, h3⟩
/-- A piece that is cut. -/
theorem dcR_cut {x : S60} {k : Nat} (h0 : 0 < k) (hk : k < (nlB x).length) : dcR ((nlB x).take k) = (zS, 4) ∧ pcSz ((nlB x).take k) = k := by
  have hl : (nlB x).length = (nlV x).length + 2 := rfl
  have ht : ((nlB x).take k).length = k := by rw [List.length_take]; omega
  have g1 : 2 ≤ k → ((nlB x).take k).getD 1 0 = ((nlV x).length : Int) := fun h => by
    obtain ⟨j, rfl⟩ : ∃ j, k = j + 2 := ⟨k - 2, by omega⟩
    rfl
  constructor
  · unfold dcR
    rw [ht, if_pos]
    by_cases h2 : k < 2
    · exact .inl h2
    · right
      rw [g1 (by omega)]
      omega
  · unfold pcSz
    rw [ht]
    split
    · rename_i h2
      rw [g1 h2]
      omega
    · rfl
theorem nlR_first {x : S60} {T : List Int} (hw : x.wf) (ok : NlOk x) (i : Nat) (acc : List S60) : nlR ((nlB x ++ T).length + 1) (nlB x ++ T) i acc = nlR (T.length + 1) T (i + (nlB x).length) (acc ++ [x]) := by
  have hl : (nlB x).length = (nlV x).length + 2 := rfl
  have hne : nlB x ++ T ≠ [] := by intro e; cases e
  have hsz : pcSz (nlB x ++ T) = (nlB x).length := by
    unfold pcSz
    rw [List.length_append, if_pos (by omega)]
    have : (nlB x ++ T).getD 1 0 = ((nlV x).length : Int) := rfl
    rw [this]
    omega
  have htk : (nlB x ++ T).take (nlB x).length = nlB x := List.take_left' rfl
  have hdr : (nlB x ++ T).drop (nlB x).length = T := List.drop_left' rfl
  rw [nlR_step hne, hsz, htk, hdr, dc_B hw ok, if_neg (fun h => h rfl)]
theorem catB_cons (x : S60) (V : List S60) : catB (x :: V) = nlB x ++ catB V := rfl
theorem catB_snoc (V : List S60) (x : S60) : catB (V ++ [x]) = catB V ++ nlB x := by unfold catB; rw [List.flatMap_append]; simp
/-- Cut inside of a route. -/
theorem nlR_in : ∀ (V : List S60) (j cut i : Nat) (acc : List S60), (∀ x ∈ V, x.wf ∧ NlOk x) → j < V.length → (catB (V.take j)).length < cut → cut < (catB (V.take (j + 1))).length →
    nlR (((catB V).take cut).length + 1) ((catB V).take cut) i acc = ([], 4, ((i + (catB (V.take j)).length : Nat) : Int))
  | [], j, cut, i, acc, _, hj, _, _ => absurd hj (by simp)
  | x :: V, 0, cut, i, acc, h, _, h1, h2 => by
    have e1 : (x :: V).take 0 = [] := rfl
    have e2 : (x :: V).take (0 + 1) = [x] := rfl
    rw [e1] at h1 ⊢
    rw [e2] at h2
    have h1 : 0 < cut := h1
    have e3 : catB [x] = nlB x := by rw [catB_cons]; exact List.append_nil _
    rw [e3] at h2
    have e4 : (catB (x :: V)).take cut = (nlB x).take cut := by rw [catB_cons, List.take_append_of_le_length (by omega)]
    obtain ⟨g1, g2⟩ := dcR_cut (x := x) h1 h2
    have ht : ((nlB x).take cut).length = cut := by rw [List.length_take]; omega
    have hne : (nlB x).take cut ≠ [] := by intro e; rw [e] at ht; simp at ht; omega
    have e5 : ((nlB x).take cut).take cut = (nlB x).take cut := List.take_of_length_le (by omega)
    rw [e4, nlR_step hne, g2, e5, g1, if_pos (by decide)]
    rfl
  | x :: V, j + 1, cut, i, acc, h, hj, h1, h2 => by
    obtain ⟨hw, ok⟩ := h x (List.mem_cons_self ..)
    have e1 : (x :: V).take (j + 1) = x :: V.take j := rfl
    have e2 : (x :: V).take (j + 1 + 1) = x :: V.take (j + 1) := rfl
    rw [e1] at h1 ⊢
    rw [e2] at h2
    rw [catB_cons, List.length_append] at h1 h2
    rw [catB_cons x (V.take j), List.length_append]
    have e4 : (catB (x :: V)).take cut = nlB x ++ (catB V).take (cut - (nlB x).length) := by
      rw [catB_cons, List.take_append, List.take_of_length_le (by omega)]
    rw [e4, nlR_first hw ok, nlR_in V j (cut - (nlB x).length) _ _ (fun y hy => h y (List.mem_cons_of_mem _ hy)) (by simpa using hj) (by omega) (by omega)]
    rw [Nat.add_assoc]
/-- Cut between routes. -/
theorem nlR_out : ∀ (V : List S60) (cut i : Nat) (acc : List S60), (∀ x ∈ V, x.wf ∧ NlOk x) → (∀ j, j < V.length → ¬ ((catB (V.take j)).length < cut ∧ cut < (catB (V.take (j + 1))).length)) →
    ∃ j, j ≤ V.length ∧ nlR (((catB V).take cut).length + 1) ((catB V).take cut) i acc = (acc ++ V.take j, 0, 0)
  | [], cut, i, acc, _, _ => by
    have : (catB []).take cut = [] := List.take_nil
    exact ⟨0, Nat.le_refl _, by rw [this]; show (acc, (0 : Int), (0 : Int)) = _; rw [List.take_nil, List.append_nil]⟩
  | x :: V, cut, i, acc, h, hn => by
    obtain ⟨hw, ok⟩ := h x (List.mem_cons_self ..)
    by_cases hc : cut = 0
    · subst hc
      exact ⟨0, Nat.zero_le _, by show (acc, (0 : Int), (0 : Int)) = _; rw [List.take_zero, List.append_nil]⟩
    have hn0 := hn 0 (by simp)
    have e1 : (x :: V).take 0 = [] := rfl
    have e2 : (x :: V).take (0 + 1) = [x] := rfl
    have e3 : catB [x] = nlB x := by rw [catB_cons]; exact List.append_nil _
    rw [e1, e2, e3] at hn0
    have hn1 : ¬ (0 < cut ∧ cut < (nlB x).length) := hn0
    have e4 : (catB (x :: V)).take cut = nlB x ++ (catB V).take (cut - (nlB x).length) := by
      rw [catB_cons, List.take_append, List.take_of_length_le (by omega)]
    obtain ⟨j, hj, ej⟩ := nlR_out V (cut - (nlB x).length) (i + (nlB x).length) (acc ++ [x]) (fun y hy => h y (List.mem_cons_of_mem _ hy)) (fun j hj g => hn (j + 1) (by simpa using hj) (by
      have e1 : (x :: V).take (j + 1) = x :: V.take j := rfl
      have e2 : (x :: V).take (j + 1 + 1) = x :: V.take (j + 1) := rfl
      rw [e1, e2, catB_cons, catB_cons, List.length_append, List.length_append]
      omega))
    exact ⟨j + 1, by simpa using hj, by rw [e4, nlR_first hw ok, ej, List.append_assoc]; rfl⟩
/-- Where a cut lies: the loop's two variables. -/
structure CutAt (V : List S60) (cut i start : Nat) (inside : Bool) : Prop where
  yes : inside = true → ∃ j, j < i ∧ (catB (V.take j)).length < cut ∧ cut < (catB (V.take (j + 1))).length ∧ start = (catB (V.take j)).length
  no : inside = false → ∀ j, j < i → ¬ ((catB (V.take j)).length < cut ∧ cut < (catB (V.take (j + 1))).length)
theorem CutAt.zero (V : List S60) (cut : Nat) : CutAt V cut 0 0 false := ⟨fun h => (by cases h), fun _ j h => absurd h (Nat.not_lt_zero _)⟩
theorem CutAt.hit {V : List S60} {cut i start : Nat} {inside : Bool} (h : CutAt V cut i start inside) (h1 : (catB (V.take i)).length < cut) (h2 : cut < (catB (V.take (i + 1))).length) : CutAt V cut (i + 1) (catB (V.take i)).length true :=
  ⟨fun _ => ⟨i, Nat.lt_succ_self _, h1, h2, rfl⟩, fun e => by cases e⟩
theorem CutAt.miss {V : List S60} {cut i start : Nat} {inside : Bool} (h : CutAt V cut i start inside) (h1 : ¬ ((catB (V.take i)).length < cut ∧ cut < (catB (V.take (i + 1))).length)) : CutAt V cut (i + 1) start inside :=
  ⟨fun e => by obtain ⟨j, a, b⟩ := h.yes e; exact ⟨j, by omega, b⟩, fun e j hj => by
    rcases (by omega : j < i ∨ j = i) with g | rfl
    · exact h.no e j g
    · exact h1⟩
theorem CutAt.rd {V : List S60} {cut start : Nat} {inside : Bool} (h : CutAt V cut V.length start inside) (hv : ∀ x ∈ V, x.wf ∧ NlOk x) :
    (inside = true ∧ nlRd ((catB V).take cut) = ([], 4, (start : Int))) ∨ (inside = false ∧ ∃ j, j ≤ V.length ∧ nlRd ((catB V).take cut) = (V.take j, 0, 0)) := by
  cases inside with
  | true =>
    obtain ⟨j, h1, h2, h3, rfl⟩ := h.yes rfl
    refine .inl ⟨rfl, ?_⟩
    unfold nlRd
    rw [nlR_in V j cut 0 [] hv h1 h2 h3, Nat.zero_add]
  | false =>
    refine .inr ⟨rfl, ?_⟩
    obtain ⟨j, hj, e⟩ := nlR_out V cut 0 [] hv (h.no rfl)
    exact ⟨j, hj, e⟩
end Go.Proofs.Ytjdppdoakbojcaa.Abs

/- The contract of the statement NlriOnly. -/
namespace Go.Proofs.Ytjdppdoakbojcaa.Abs
open Go
set_option linter.unusedVariables false
theorem normV_adr {hs : Nat} {v : Value} {ad : Option Addr} {n c : Nat} (h : normV hs v = .slice ad n c) : (ad = none ∧ c = 0) ∨ ∃ b o, ad = some ⟨b, o, none⟩ := by
  have key : ∀ a : Addr, ∃ b o, nAddr hs (some a) = some ⟨b, o, none⟩ := fun ⟨b, o, p⟩ => by
    cases p with
    | none =>
      show ∃ b' o', (if b < hs then some (⟨b, o, none⟩ : Addr) else some ⟨hs, 0, none⟩) = _
      split
      · exact ⟨b, o, rfl⟩
      · exact ⟨hs, 0, rfl⟩
    | some _ => exact ⟨hs, 0, rfl⟩
  unfold normV at h
  split at h
  all_goals first
    | (cases h; done)
    | (cases h; exact .inl ⟨rfl, rfl⟩)
    | (split at h <;> first | (cases h; exact .inr (key _)) | (unfold anyV at h; cases h))
    | (unfold anyV at h; cases h)
theorem catB_ge : ∀ V : List S60, V.length ≤ (catB V).length
  | [] => Nat.zero_le _
  | x :: V => by
    have h1 := catB_ge V
    have h2 : (nlB x).length = (nlV x).length + 2 := rfl
    rw [catB_cons, List.length_append, List.length_cons]
    omega
theorem catB_le {V : List S60} (i : Nat) : (catB (V.take i)).length ≤ (catB V).length := by
  have e : catB V = catB (V.take i) ++ catB (V.drop i) := by
    unfold catB
    rw [← List.flatMap_append, List.take_append_drop]
  rw [e, List.length_append]
  omega
theorem catB_at {V : List S60} {i : Nat} {x : S60} (hx : V[i]? = some x) : catB (V.take (i + 1)) = catB (V.take i) ++ nlB x := by
  rw [List.take_add_one, hx]
  exact catB_snoc _ _
section
variable {B0 : Nat} {old : Nat → Option (List Value)} {n : Nat} {H : Hp} {Q : Value → Hp → Prop} {ad : Option Addr} {c : Nat} {b : List Int}
set_option maxRecDepth 10000
set_option maxHeartbeats 8000000
theorem pick33n_ct (x N : Int) (h0 : 0 < N) (hN : N ≤ 1000000) (hx : -9223372036854775808 ≤ x ∧ x ≤ 9223372036854775807) (hQ : ∀ y : Nat, (y : Int) < N → Q (.int .i64 (y : Int)) H) : CallT (cx B0 old) (acall (cx B0 old) ansP (n + 1)) 33 [.int .i64 x, .int .i64 N] H Q := by
  have hm1 : x.tmod N < N ∧ -N < x.tmod N := ⟨Int.tmod_lt_of_pos x h0, Int.lt_tmod_of_pos x h0⟩
  refine call_in2 14 rfl Try.func33 rfl rfl ?_
  repeat (first | refine Z0 ?_ | (refine ZR ?_; first | refine x1 ?_ | refine x2 ?_ | refine x8 ?_ | refine Z1 ?_ | refine Z2 ?_ | refine x3 fun _ => ?_ | refine x4 fun _ => ?_ | refine x5 fun _ => ?_ | refine Z3 fun _ => ?_ | refine Z4 fun _ => ?_) | refine Za ?_ | refine Zb ?_ | refine Zl ?_ | refine Zc ?_ | refine Ze ?_ | refine Zi ?_ | refine Zj ?_ | refine Zf ?_ | refine Zg ?_ | refine Zm ?_ | refine Zn ?_ | refine Zo ?_ | refine Zp ?_ | refine Zq ?_ | refine Zr ?_ | refine Zk ?_)
  apply rt_p rfl rfl rfl
  case hp => exact p_rem rfl rfl (by omega)
  generalize x.tmod N = m at *
  repeat (first | refine Z0 ?_ | (refine ZR ?_; first | refine x1 ?_ | refine x2 ?_ | refine x8 ?_ | refine Z1 ?_ | refine Z2 ?_ | refine x3 fun _ => ?_ | refine x4 fun _ => ?_ | refine x5 fun _ => ?_ | refine Z3 fun _ => ?_ | refine Z4 fun _ => ?_) | refine Za ?_ | refine Zb ?_ | refine Zl ?_ | refine Zc ?_ | refine Ze ?_ | refine Zi ?_ | refine Zj ?_ | refine Zf ?_ | refine Zg ?_ | refine Zm ?_ | refine Zn ?_ | refine Zo ?_ | refine Zp ?_ | refine Zq ?_ | refine Zr ?_ | refine Zk ?_)
  refine ct_condT te_d rfl (fun hc => ?_) (fun hc => ?_)
  · repeat (first | refine Z0 ?_ | (refine ZR ?_; first | refine x1 ?_ | refine x2 ?_ | refine x8 ?_ | refine Z1 ?_ | refine Z2 ?_ | refine x3 fun _ => ?_ | refine x4 fun _ => ?_ | refine x5 fun _ => ?_ | refine Z3 fun _ => ?_ | refine Z4 fun _ => ?_) | refine Za ?_ | refine Zb ?_ | refine Zl ?_ | refine Zc ?_ | refine Ze ?_ | refine Zi ?_ | refine Zj ?_ | refine Zf ?_ | refine Zg ?_ | refine Zm ?_ | refine Zn ?_ | refine Zo ?_ | refine Zp ?_ | refine Zq ?_ | refine Zr ?_ | refine Zk ?_)
    obtain ⟨y, hy⟩ := Int.eq_ofNat_of_zero_le (show 0 ≤ m + N by omega)
    rw [hy]
    exact re_1 rfl rfl (by exact drop_auto) (hQ y (by omega))
  · repeat (first | refine Z0 ?_ | (refine ZR ?_; first | refine x1 ?_ | refine x2 ?_ | refine x8 ?_ | refine Z1 ?_ | refine Z2 ?_ | refine x3 fun _ => ?_ | refine x4 fun _ => ?_ | refine x5 fun _ => ?_ | refine Z3 fun _ => ?_ | refine Z4 fun _ => ?_) | refine Za ?_ | refine Zb ?_ | refine Zl ?_ | refine Zc ?_ | refine Ze ?_ | refine Zi ?_ | refine Zj ?_ | refine Zf ?_ | refine Zg ?_ | refine Zm ?_ | refine Zn ?_ | refine Zo ?_ | refine Zp ?_ | refine Zq ?_ | refine Zr ?_ | refine Zk ?_)
    obtain ⟨y, rfl⟩ := Int.eq_ofNat_of_zero_le (show 0 ≤ m by omega)
    exact re_1 rfl rfl (by exact drop_auto) (hQ y (by omega))
theorem only13_ct (h1 : ArrW (cx B0 old) H ad 1 encY b) (hc1 : b.length ≤ c) (hm1 : c < EL) (had : (ad = none ∧ c = 0) ∨ ∃ b o, ad = some ⟨b, o, none⟩) (hy : ∀ y ∈ b, isY y) (k : Int) (hk : -9223372036854775808 ≤ k ∧ k ≤ 9223372036854775807) (hQ : ∀ H', Q (.bool true) H') :
    CallT (cx B0 old) (acall (cx B0 old) ansP (n + 13)) 13 [.slice ad b.length c, .int .i64 k] H Q := by
  refine call_in2 124 rfl Try.func13 rfl rfl ?_
  repeat (first | refine Z0 ?_ | (refine ZR ?_; first | refine x1 ?_ | refine x2 ?_ | refine x8 ?_ | refine Z1 ?_ | refine Z2 ?_ | refine x3 fun _ => ?_ | refine x4 fun _ => ?_ | refine x5 fun _ => ?_ | refine Z3 fun _ => ?_ | refine Z4 fun _ => ?_) | refine Za ?_ | refine Zb ?_ | refine Zl ?_ | refine Zc ?_ | refine Ze ?_ | refine Zi ?_ | refine Zj ?_ | refine Zf ?_ | refine Zg ?_ | refine Zm ?_ | refine Zn ?_ | refine Zo ?_ | refine Zp ?_ | refine Zq ?_ | refine Zr ?_ | refine Zk ?_)
  refine rt_step rfl rfl rfl (st_call rfl rfl rfl rfl (call_ext rfl ?_))
  repeat (first | refine Z0 ?_ | (refine ZR ?_; first | refine x1 ?_ | refine x2 ?_ | refine x8 ?_ | refine Z1 ?_ | refine Z2 ?_ | refine x3 fun _ => ?_ | refine x4 fun _ => ?_ | refine x5 fun _ => ?_ | refine Z3 fun _ => ?_ | refine Z4 fun _ => ?_) | refine Za ?_ | refine Zb ?_ | refine Zl ?_ | refine Zc ?_ | refine Ze ?_ | refine Zi ?_ | refine Zj ?_ | refine Zf ?_ | refine Zg ?_ | refine Zm ?_ | refine Zn ?_ | refine Zo ?_ | refine Zp ?_ | refine Zq ?_ | refine Zr ?_ | refine Zk ?_)
  refine ct_condT te_d rfl (fun hc => ?_) (fun hc => ?_)
  · repeat (first | refine Z0 ?_ | (refine ZR ?_; first | refine x1 ?_ | refine x2 ?_ | refine x8 ?_ | refine Z1 ?_ | refine Z2 ?_ | refine x3 fun _ => ?_ | refine x4 fun _ => ?_ | refine x5 fun _ => ?_ | refine Z3 fun _ => ?_ | refine Z4 fun _ => ?_) | refine Za ?_ | refine Zb ?_ | refine Zl ?_ | refine Zc ?_ | refine Ze ?_ | refine Zi ?_ | refine Zj ?_ | refine Zf ?_ | refine Zg ?_ | refine Zm ?_ | refine Zn ?_ | refine Zo ?_ | refine Zp ?_ | refine Zq ?_ | refine Zr ?_ | refine Zk ?_)
    exact re_1 rfl rfl (List.Sublist.refl _) (hQ _)
  have hbl : b.length ≤ 400 := by omega
  have hcv : ∀ {H1}, H.Sublist H1 → CutV (cx B0 old) H1 encY 1 b (.slice ad b.length c) := fun hs => by
    by_cases hne : b = []
    · subst hne
      rcases had with ⟨rfl, rfl⟩ | ⟨b', o', rfl⟩
      · exact .nil
      · exact .fx b' o' c [] .nil hc1 hm1
    · exact arg_cutV (h1.weak hs) hne hc1 hm1
  repeat (first | refine Z0 ?_ | (refine ZR ?_; first | refine x1 ?_ | refine x2 ?_ | refine x8 ?_ | refine Z1 ?_ | refine Z2 ?_ | refine x3 fun _ => ?_ | refine x4 fun _ => ?_ | refine x5 fun _ => ?_ | refine Z3 fun _ => ?_ | refine Z4 fun _ => ?_) | refine Za ?_ | refine Zb ?_ | refine Zl ?_ | refine Zc ?_ | refine Ze ?_ | refine Zi ?_ | refine Zj ?_ | refine Zf ?_ | refine Zg ?_ | refine Zm ?_ | refine Zn ?_ | refine Zo ?_ | refine Zp ?_ | refine Zq ?_ | refine Zr ?_ | refine Zk ?_)
  refine rt_step rfl rfl rfl (st_call rfl rfl rfl rfl (read47_ct (hcv (List.Sublist.refl _)).a hy (by omega) fun v G o => ?_))
  rcases nlRd_spec hy with ⟨er, at', hr, her, h0, hlt⟩ | ⟨V, hr, hcat, hv⟩
  · rw [hr] at o ⊢
    dsimp only at o ⊢
    obtain ⟨a1, c1, e1, g1⟩ := o.arrW (C := cx B0 old) en60_len
    subst e1
    repeat (first | refine Z0 ?_ | (refine ZR ?_; first | refine x1 ?_ | refine x2 ?_ | refine x8 ?_ | refine Z1 ?_ | refine Z2 ?_ | refine x3 fun _ => ?_ | refine x4 fun _ => ?_ | refine x5 fun _ => ?_ | refine Z3 fun _ => ?_ | refine Z4 fun _ => ?_) | refine Za ?_ | refine Zb ?_ | refine Zl ?_ | refine Zc ?_ | refine Ze ?_ | refine Zi ?_ | refine Zj ?_ | refine Zf ?_ | refine Zg ?_ | refine Zm ?_ | refine Zn ?_ | refine Zo ?_ | refine Zp ?_ | refine Zq ?_ | refine Zr ?_ | refine Zk ?_)
    refine ct_condT te_ne rfl (fun hc => ?_) (fun hc => absurd hc her)
    repeat (first | refine Z0 ?_ | (refine ZR ?_; first | refine x1 ?_ | refine x2 ?_ | refine x8 ?_ | refine Z1 ?_ | refine Z2 ?_ | refine x3 fun _ => ?_ | refine x4 fun _ => ?_ | refine x5 fun _ => ?_ | refine Z3 fun _ => ?_ | refine Z4 fun _ => ?_) | refine Za ?_ | refine Zb ?_ | refine Zl ?_ | refine Zc ?_ | refine Ze ?_ | refine Zi ?_ | refine Zj ?_ | refine Zf ?_ | refine Zg ?_ | refine Zm ?_ | refine Zn ?_ | refine Zo ?_ | refine Zp ?_ | refine Zq ?_ | refine Zr ?_ | refine Zk ?_)
    rw [show decide (at' ≥ 0) = true from decide_eq_true h0]
    repeat (first | refine Z0 ?_ | (refine ZR ?_; first | refine x1 ?_ | refine x2 ?_ | refine x8 ?_ | refine Z1 ?_ | refine Z2 ?_ | refine x3 fun _ => ?_ | refine x4 fun _ => ?_ | refine x5 fun _ => ?_ | refine Z3 fun _ => ?_ | refine Z4 fun _ => ?_) | refine Za ?_ | refine Zb ?_ | refine Zl ?_ | refine Zc ?_ | refine Ze ?_ | refine Zi ?_ | refine Zj ?_ | refine Zf ?_ | refine Zg ?_ | refine Zm ?_ | refine Zn ?_ | refine Zo ?_ | refine Zp ?_ | refine Zq ?_ | refine Zr ?_ | refine Zk ?_)
    rw [show decide (at' < (b.length : Int)) = true from decide_eq_true hlt]
    repeat (first | refine Z0 ?_ | (refine ZR ?_; first | refine x1 ?_ | refine x2 ?_ | refine x8 ?_ | refine Z1 ?_ | refine Z2 ?_ | refine x3 fun _ => ?_ | refine x4 fun _ => ?_ | refine x5 fun _ => ?_ | refine Z3 fun _ => ?_ | refine Z4 fun _ => ?_) | refine Za ?_ | refine Zb ?_ | refine Zl ?_ | refine Zc ?_ | refine Ze ?_ | refine Zi ?_ | refine Zj ?_ | refine Zf ?_ | refine Zg ?_ | refine Zm ?_ | refine Zn ?_ | refine Zo ?_ | refine Zp ?_ | refine Zq ?_ | refine Zr ?_ | refine Zk ?_)
    exact re_1 rfl rfl (List.Sublist.refl _) (hQ _)
  rw [hr] at o ⊢
  dsimp only at o ⊢
  obtain ⟨a1, c1, e1, g1⟩ := o.arrW (C := cx B0 old) en60_len
  subst e1
  have hge := catB_ge V
  rw [hcat] at hge
  have hgv : Arr (cx B0 old) (G ++ H) a1 21 en60 V := (g1 [] H).arr en60_len
  clear g1
  repeat (first | refine Z0 ?_ | (refine ZR ?_; first | refine x1 ?_ | refine x2 ?_ | refine x8 ?_ | refine Z1 ?_ | refine Z2 ?_ | refine x3 fun _ => ?_ | refine x4 fun _ => ?_ | refine x5 fun _ => ?_ | refine Z3 fun _ => ?_ | refine Z4 fun _ => ?_) | refine Za ?_ | refine Zb ?_ | refine Zl ?_ | refine Zc ?_ | refine Ze ?_ | refine Zi ?_ | refine Zj ?_ | refine Zf ?_ | refine Zg ?_ | refine Zm ?_ | refine Zn ?_ | refine Zo ?_ | refine Zp ?_ | refine Zq ?_ | refine Zr ?_ | refine Zk ?_)
  refine rt_step rfl rfl rfl (st_call rfl rfl rfl rfl (pick33n_ct k ((b.length : Int) + 1) (by omega) (by omega) hk fun y hyl => ?_))
  repeat (first | refine Z0 ?_ | (refine ZR ?_; first | refine x1 ?_ | refine x2 ?_ | refine x8 ?_ | refine Z1 ?_ | refine Z2 ?_ | refine x3 fun _ => ?_ | refine x4 fun _ => ?_ | refine x5 fun _ => ?_ | refine Z3 fun _ => ?_ | refine Z4 fun _ => ?_) | refine Za ?_ | refine Zb ?_ | refine Zl ?_ | refine Zc ?_ | refine Ze ?_ | refine Zi ?_ | refine Zj ?_ | refine Zf ?_ | refine Zg ?_ | refine Zm ?_ | refine Zn ?_ | refine Zo ?_ | refine Zp ?_ | refine Zq ?_ | refine Zr ?_ | refine Zk ?_)
  refine loop_ind (ι := Nat × Nat × Bool × Value × Hp) (0, 0, false, .slice none 0 0, []) (fun i => V.length - i.1) (fun i => i.1 ≤ V.length ∧ CutAt V y i.1 i.2.1 i.2.2.1 ∧ Own encY 1 (catB (V.take i.1)) i.2.2.2.1 i.2.2.2.2)
    (fun i => [(10, .int .i64 (i.1 : Int)), (8, .int .i64 (i.2.1 : Int)), (9, .bool i.2.2.1), (7, i.2.2.2.1), (5, .slice a1 V.length c1), (0, .slice ad b.length c), (1, .int .i64 (y : Int))]) (fun i => i.2.2.2.2 ++ (G ++ H)) ⟨Nat.zero_le _, CutAt.zero _ _, Own.nil⟩ (by repeat (first | exact SubL.nil | refine SubL.cons rfl ?_)) (by exact drop_auto) ?_
  rintro ⟨i, start, inside, va, Ga⟩ ⟨hi, hca, oa⟩
  dsimp only at hi hca oa ⊢
  obtain ⟨a2, c2, e2, g2⟩ := oa.arrW (C := cx B0 old) encY_len
  subst e2
  repeat (first | refine Z0 ?_ | (refine ZR ?_; first | refine x1 ?_ | refine x2 ?_ | refine x8 ?_ | refine Z1 ?_ | refine Z2 ?_ | refine x3 fun _ => ?_ | refine x4 fun _ => ?_ | refine x5 fun _ => ?_ | refine Z3 fun _ => ?_ | refine Z4 fun _ => ?_) | refine Za ?_ | refine Zb ?_ | refine Zl ?_ | refine Zc ?_ | refine Ze ?_ | refine Zi ?_ | refine Zj ?_ | refine Zf ?_ | refine Zg ?_ | refine Zm ?_ | refine Zn ?_ | refine Zo ?_ | refine Zp ?_ | refine Zq ?_ | refine Zr ?_ | refine Zk ?_)
  refine ct_condT te_d rfl (fun hg => ?_) (fun hg => ?_)
  · obtain ⟨x, hx⟩ : ∃ x, V[i]? = some x := ⟨_, List.getElem?_eq_getElem (by omega)⟩
    obtain ⟨hxw, hxo⟩ := hv x (List.mem_of_getElem? hx)
    obtain ⟨b1, o1, e1, k1, k2⟩ := hgv.ldE hx
    subst e1
    have hL0 := k1 60 rfl (sz rfl)
    clear k1 k2
    have hb1 : ∀ {H1 : Hp} {Θ : Value → Hp → Prop}, (∀ v G, Own encY 1 (nlB x) v G → Θ (.tuple #[v, .int .i64 0]) (G ++ H1)) → CallT (cx B0 old) (acall (cx B0 old) ansP (n + 12)) 37 [.agg ⟨en60 x⟩] H1 Θ := fun a => bytes37_ct x hxw (fun h => absurd (nlOk_iff.2 hxo) h) (fun _ => a)
    have hcl := catB_le (V := V) i
    rw [hcat] at hcl
    have hBl : (nlB x).length = (nlV x).length + 2 := rfl
    have hVl := nlV_len x
    have hat := catB_at hx
    have hln : (catB (V.take (i + 1))).length = (catB (V.take i)).length + (nlB x).length := by rw [hat, List.length_append]
    unfold en60 at hL0 hb1
    repeat (first | refine Z0 ?_ | (refine ZR ?_; first | refine x1 ?_ | refine x2 ?_ | refine x8 ?_ | refine Z1 ?_ | refine Z2 ?_ | refine x3 fun _ => ?_ | refine x4 fun _ => ?_ | refine x5 fun _ => ?_ | refine Z3 fun _ => ?_ | refine Z4 fun _ => ?_) | refine Za ?_ | refine Zb ?_ | refine Zl ?_ | refine Zc ?_ | refine Ze ?_ | refine Zi ?_ | refine Zj ?_ | refine Zf ?_ | refine Zg ?_ | refine Zm ?_ | refine Zn ?_ | refine Zo ?_ | refine Zp ?_ | refine Zq ?_ | refine Zr ?_ | refine Zk ?_)
    refine rt_step rfl rfl rfl (st_call rfl rfl rfl rfl (hb1 fun v3 G3 o3 => ?_))
    obtain ⟨a3, c3, e3, g3⟩ := o3.arrW (C := cx B0 old) encY_len
    subst e3
    repeat (first | refine Z0 ?_ | (refine ZR ?_; first | refine x1 ?_ | refine x2 ?_ | refine x8 ?_ | refine Z1 ?_ | refine Z2 ?_ | refine x3 fun _ => ?_ | refine x4 fun _ => ?_ | refine x5 fun _ => ?_ | refine Z3 fun _ => ?_ | refine Z4 fun _ => ?_) | refine Za ?_ | refine Zb ?_ | refine Zl ?_ | refine Zc ?_ | refine Ze ?_ | refine Zi ?_ | refine Zj ?_ | refine Zf ?_ | refine Zg ?_ | refine Zm ?_ | refine Zn ?_ | refine Zo ?_ | refine Zp ?_ | refine Zq ?_ | refine Zr ?_ | refine Zk ?_)
    refine rt_midE (ι := Bool) (fun t => t = decide ((catB (V.take i)).length < y ∧ y < (catB (V.take (i + 1))).length)) (fun t => [(76, .bool t), (10, .int .i64 (i : Int)), (8, .int .i64 (start : Int)), (9, .bool inside), (7, .slice a2 (catB (V.take i)).length c2), (11, .slice a3 (nlB x).length c3), (5, .slice (some ⟨b1, o1, none⟩) V.length c1), (0, .slice ad b.length c), (1, .int .i64 (y : Int))]) (fun _ => G3 ++ (Ga ++ (G ++ H))) ?_ ?_
    · refine isRun ?_
      refine z1 (fun q1 => ?_) (fun q1 => ?_)
      · repeat (first | refine Z0 ?_ | (refine ZR ?_; first | refine x1 ?_ | refine x2 ?_ | refine x8 ?_ | refine Z1 ?_ | refine Z2 ?_ | refine x3 fun _ => ?_ | refine x4 fun _ => ?_ | refine x5 fun _ => ?_ | refine Z3 fun _ => ?_ | refine Z4 fun _ => ?_) | refine Za ?_ | refine Zb ?_ | refine Zl ?_ | refine Zc ?_ | refine Ze ?_ | refine Zi ?_ | refine Zj ?_ | refine Zf ?_ | refine Zg ?_ | refine Zm ?_ | refine Zn ?_ | refine Zo ?_ | refine Zp ?_ | refine Zq ?_ | refine Zr ?_ | refine Zk ?_)
        by_cases q2 : (y : Int) < (catB (V.take i)).length + (nlB x).length
        · rw [show decide ((y : Int) < (catB (V.take i)).length + (nlB x).length) = true from decide_eq_true q2]
          exact ⟨true, (decide_eq_true (by omega)).symm, by repeat (first | exact SubL.nil | refine SubL.cons rfl ?_), List.Sublist.refl _⟩
        · rw [show decide ((y : Int) < (catB (V.take i)).length + (nlB x).length) = false from decide_eq_false q2]
          exact ⟨false, (decide_eq_false (by omega)).symm, by repeat (first | exact SubL.nil | refine SubL.cons rfl ?_), List.Sublist.refl _⟩
      · repeat (first | refine Z0 ?_ | (refine ZR ?_; first | refine x1 ?_ | refine x2 ?_ | refine x8 ?_ | refine Z1 ?_ | refine Z2 ?_ | refine x3 fun _ => ?_ | refine x4 fun _ => ?_ | refine x5 fun _ => ?_ | refine Z3 fun _ => ?_ | refine Z4 fun _ => ?_) | refine Za ?_ | refine Zb ?_ | refine Zl ?_ | refine Zc ?_ | refine Ze ?_ | refine Zi ?_ | refine Zj ?_ | refine Zf ?_ | refine Zg ?_ | refine Zm ?_ | refine Zn ?_ | refine Zo ?_ | refine Zp ?_ | refine Zq ?_ | refine Zr ?_ | refine Zk ?_)
        exact ⟨false, (decide_eq_false (by omega)).symm, by repeat (first | exact SubL.nil | refine SubL.cons rfl ?_), List.Sublist.refl _⟩
    intro t ht
    repeat (first | refine Z0 ?_ | (refine ZR ?_; first | refine x1 ?_ | refine x2 ?_ | refine x8 ?_ | refine Z1 ?_ | refine Z2 ?_ | refine x3 fun _ => ?_ | refine x4 fun _ => ?_ | refine x5 fun _ => ?_ | refine Z3 fun _ => ?_ | refine Z4 fun _ => ?_) | refine Za ?_ | refine Zb ?_ | refine Zl ?_ | refine Zc ?_ | refine Ze ?_ | refine Zi ?_ | refine Zj ?_ | refine Zf ?_ | refine Zg ?_ | refine Zm ?_ | refine Zn ?_ | refine Zo ?_ | refine Zp ?_ | refine Zq ?_ | refine Zr ?_ | refine Zk ?_)
    refine ct_midE (ι := Nat × Bool) (fun j => CutAt V y (i + 1) j.1 j.2) (fun j => [(10, .int .i64 (i : Int)), (8, .int .i64 (j.1 : Int)), (9, .bool j.2), (7, .slice a2 (catB (V.take i)).length c2), (11, .slice a3 (nlB x).length c3), (5, .slice (some ⟨b1, o1, none⟩) V.length c1), (0, .slice ad b.length c), (1, .int .i64 (y : Int))]) (fun _ => G3 ++ (Ga ++ (G ++ H))) ?_ ?_
    · cases t
      · have ht := of_decide_eq_false ht.symm
        repeat (first | refine Z0 ?_ | (refine ZR ?_; first | refine x1 ?_ | refine x2 ?_ | refine x8 ?_ | refine Z1 ?_ | refine Z2 ?_ | refine x3 fun _ => ?_ | refine x4 fun _ => ?_ | refine x5 fun _ => ?_ | refine Z3 fun _ => ?_ | refine Z4 fun _ => ?_) | refine Za ?_ | refine Zb ?_ | refine Zl ?_ | refine Zc ?_ | refine Ze ?_ | refine Zi ?_ | refine Zj ?_ | refine Zf ?_ | refine Zg ?_ | refine Zm ?_ | refine Zn ?_ | refine Zo ?_ | refine Zp ?_ | refine Zq ?_ | refine Zr ?_ | refine Zk ?_)
        exact ⟨(start, inside), hca.miss ht, by repeat (first | exact SubL.nil | refine SubL.cons rfl ?_), List.Sublist.refl _⟩
      · have ht := of_decide_eq_true ht.symm
        repeat (first | refine Z0 ?_ | (refine ZR ?_; first | refine x1 ?_ | refine x2 ?_ | refine x8 ?_ | refine Z1 ?_ | refine Z2 ?_ | refine x3 fun _ => ?_ | refine x4 fun _ => ?_ | refine x5 fun _ => ?_ | refine Z3 fun _ => ?_ | refine Z4 fun _ => ?_) | refine Za ?_ | refine Zb ?_ | refine Zl ?_ | refine Zc ?_ | refine Ze ?_ | refine Zi ?_ | refine Zj ?_ | refine Zf ?_ | refine Zg ?_ | refine Zm ?_ | refine Zn ?_ | refine Zo ?_ | refine Zp ?_ | refine Zq ?_ | refine Zr ?_ | refine Zk ?_)
        exact ⟨((catB (V.take i)).length, true), hca.hit ht.1 ht.2, by repeat (first | exact SubL.nil | refine SubL.cons rfl ?_), List.Sublist.refl _⟩
    rintro ⟨start', inside'⟩ hca'
    dsimp only at hca' ⊢
    repeat (first | refine Z0 ?_ | (refine ZR ?_; first | refine x1 ?_ | refine x2 ?_ | refine x8 ?_ | refine Z1 ?_ | refine Z2 ?_ | refine x3 fun _ => ?_ | refine x4 fun _ => ?_ | refine x5 fun _ => ?_ | refine Z3 fun _ => ?_ | refine Z4 fun _ => ?_) | refine Za ?_ | refine Zb ?_ | refine Zl ?_ | refine Zc ?_ | refine Ze ?_ | refine Zi ?_ | refine Zj ?_ | refine Zf ?_ | refine Zg ?_ | refine Zm ?_ | refine Zn ?_ | refine Zo ?_ | refine Zp ?_ | refine Zq ?_ | refine Zr ?_ | refine Zk ?_)
    refine rt_step rfl rfl rfl (st_appO (pre := G3) (M := nlB x) (c := c3) oa encY_len encY_one rfl rfl (ap rfl) (g3 [] _) (by show _ * (1 + 1) ≤ _; omega) fun v4 G4 o4 => ?_)
    repeat (first | refine Z0 ?_ | (refine ZR ?_; first | refine x1 ?_ | refine x2 ?_ | refine x8 ?_ | refine Z1 ?_ | refine Z2 ?_ | refine x3 fun _ => ?_ | refine x4 fun _ => ?_ | refine x5 fun _ => ?_ | refine Z3 fun _ => ?_ | refine Z4 fun _ => ?_) | refine Za ?_ | refine Zb ?_ | refine Zl ?_ | refine Zc ?_ | refine Ze ?_ | refine Zi ?_ | refine Zj ?_ | refine Zf ?_ | refine Zg ?_ | refine Zm ?_ | refine Zn ?_ | refine Zo ?_ | refine Zp ?_ | refine Zq ?_ | refine Zr ?_ | refine Zk ?_)
    rw [← hat] at o4
    exact ⟨(i + 1, start', inside', v4, G4), ⟨by dsimp only; omega, hca', o4⟩, by dsimp only; omega, by repeat (first | exact SubL.nil | refine SubL.cons rfl ?_), by exact drop_auto⟩
  obtain rfl : i = V.length := by omega
  rw [List.take_length, hcat] at oa g2
  rw [List.take_length, hcat]
  have hrd := hca.rd hv
  rw [hcat] at hrd
  have hbY : Arr (cx B0 old) (Ga ++ (G ++ H)) a2 1 encY b := (g2 [] _).arr encY_len
  obtain ⟨v2, e2, hv2⟩ := (hcv (H1 := Ga ++ (G ++ H)) (by exact drop_auto)).part encY_len (t := 34) (e := 5) (lo := none) (hi := some (.int .i64 (y : Int))) 0 y rfl (sz rfl) (by omega) (by omega) (.inr ⟨rfl, rfl⟩) (.inl (by simp [natOf]))
  rw [List.drop_zero, Nat.sub_zero] at hv2
  have hy2 : ∀ z ∈ b.take y, isY z := fun z hz => hy z (List.mem_of_mem_take hz)
  have hbl2 : (b.take y).length ≤ 1000 := by rw [List.length_take]; omega
  repeat (first | refine Z0 ?_ | (refine ZR ?_; first | refine x1 ?_ | refine x2 ?_ | refine x8 ?_ | refine Z1 ?_ | refine Z2 ?_ | refine x3 fun _ => ?_ | refine x4 fun _ => ?_ | refine x5 fun _ => ?_ | refine Z3 fun _ => ?_ | refine Z4 fun _ => ?_) | refine Za ?_ | refine Zb ?_ | refine Zl ?_ | refine Zc ?_ | refine Ze ?_ | refine Zi ?_ | refine Zj ?_ | refine Zf ?_ | refine Zg ?_ | refine Zm ?_ | refine Zn ?_ | refine Zo ?_ | refine Zp ?_ | refine Zq ?_ | refine Zr ?_ | refine Zk ?_)
  apply rt_p rfl rfl rfl
  case hp => exact p_slc rfl rfl rfl e2
  repeat (first | refine Z0 ?_ | (refine ZR ?_; first | refine x1 ?_ | refine x2 ?_ | refine x8 ?_ | refine Z1 ?_ | refine Z2 ?_ | refine x3 fun _ => ?_ | refine x4 fun _ => ?_ | refine x5 fun _ => ?_ | refine Z3 fun _ => ?_ | refine Z4 fun _ => ?_) | refine Za ?_ | refine Zb ?_ | refine Zl ?_ | refine Zc ?_ | refine Ze ?_ | refine Zi ?_ | refine Zj ?_ | refine Zf ?_ | refine Zg ?_ | refine Zm ?_ | refine Zn ?_ | refine Zo ?_ | refine Zp ?_ | refine Zq ?_ | refine Zr ?_ | refine Zk ?_)
  refine rt_step rfl rfl rfl (st_call rfl rfl rfl rfl (read47_ct hv2.a hy2 hbl2 fun v5 G5 o5 => ?_))
  rcases hrd with ⟨rfl, hrd⟩ | ⟨rfl, j, hj, hrd⟩
  · rw [hrd] at o5 ⊢
    dsimp only at o5 ⊢
    obtain ⟨a5, c5, e5, g5⟩ := o5.arrW (C := cx B0 old) en60_len
    subst e5
    repeat (first | refine Z0 ?_ | (refine ZR ?_; first | refine x1 ?_ | refine x2 ?_ | refine x8 ?_ | refine Z1 ?_ | refine Z2 ?_ | refine x3 fun _ => ?_ | refine x4 fun _ => ?_ | refine x5 fun _ => ?_ | refine Z3 fun _ => ?_ | refine Z4 fun _ => ?_) | refine Za ?_ | refine Zb ?_ | refine Zl ?_ | refine Zc ?_ | refine Ze ?_ | refine Zi ?_ | refine Zj ?_ | refine Zf ?_ | refine Zg ?_ | refine Zm ?_ | refine Zn ?_ | refine Zo ?_ | refine Zp ?_ | refine Zq ?_ | refine Zr ?_ | refine Zk ?_)
    have hE : ∀ {X : List Value}, X = [.int .i64 4, .int .i64 (start : Int)] → leafsEq [.int .i64 4, .int .i64 (start : Int)] X = true := by rintro _ rfl; simp [leafsEq, leafEq]
    rw [hE]
    rotate_left
    · rfl
    repeat (first | refine Z0 ?_ | (refine ZR ?_; first | refine x1 ?_ | refine x2 ?_ | refine x8 ?_ | refine Z1 ?_ | refine Z2 ?_ | refine x3 fun _ => ?_ | refine x4 fun _ => ?_ | refine x5 fun _ => ?_ | refine Z3 fun _ => ?_ | refine Z4 fun _ => ?_) | refine Za ?_ | refine Zb ?_ | refine Zl ?_ | refine Zc ?_ | refine Ze ?_ | refine Zi ?_ | refine Zj ?_ | refine Zf ?_ | refine Zg ?_ | refine Zm ?_ | refine Zn ?_ | refine Zo ?_ | refine Zp ?_ | refine Zq ?_ | refine Zr ?_ | refine Zk ?_)
    refine rt_step rfl rfl rfl (st_call rfl rfl rfl rfl (same50_ct (hbY.weak (by exact drop_auto)) ((h1.weak (by exact drop_auto)).arr encY_len) (by omega) ?_))
    repeat (first | refine Z0 ?_ | (refine ZR ?_; first | refine x1 ?_ | refine x2 ?_ | refine x8 ?_ | refine Z1 ?_ | refine Z2 ?_ | refine x3 fun _ => ?_ | refine x4 fun _ => ?_ | refine x5 fun _ => ?_ | refine Z3 fun _ => ?_ | refine Z4 fun _ => ?_) | refine Za ?_ | refine Zb ?_ | refine Zl ?_ | refine Zc ?_ | refine Ze ?_ | refine Zi ?_ | refine Zj ?_ | refine Zf ?_ | refine Zg ?_ | refine Zm ?_ | refine Zn ?_ | refine Zo ?_ | refine Zp ?_ | refine Zq ?_ | refine Zr ?_ | refine Zk ?_)
    exact re_1 rfl rfl (List.Sublist.refl _) (hQ _)
  · rw [hrd] at o5 ⊢
    dsimp only at o5 ⊢
    obtain ⟨a5, c5, e5, g5⟩ := o5.arrW (C := cx B0 old) en60_len
    subst e5
    have hlj : (V.take j).length = j := by rw [List.length_take]; omega
    obtain ⟨a6, c6, e6, g6⟩ := (o.cuts (C := cx B0 old) (pre := []) (H0 := H) en60_len).part 71 60 none (some (.int .i64 ((V.take j).length : Int))) 0 (V.take j).length rfl (sz rfl) (Nat.zero_le _) (by omega) (.inr ⟨rfl, rfl⟩) (.inl (by simp [natOf]))
    rw [List.drop_zero, Nat.sub_zero, hlj] at g6
    rw [Nat.sub_zero] at e6
    have h5 : Arr (cx B0 old) (G5 ++ (Ga ++ (G ++ H))) a5 21 en60 (V.take j) := (g5 [] _).arr en60_len
    have h6 : Arr (cx B0 old) (G ++ H) a6 21 en60 (V.take j) := g6.arr en60_len
    repeat (first | refine Z0 ?_ | (refine ZR ?_; first | refine x1 ?_ | refine x2 ?_ | refine x8 ?_ | refine Z1 ?_ | refine Z2 ?_ | refine x3 fun _ => ?_ | refine x4 fun _ => ?_ | refine x5 fun _ => ?_ | refine Z3 fun _ => ?_ | refine Z4 fun _ => ?_) | refine Za ?_ | refine Zb ?_ | refine Zl ?_ | refine Zc ?_ | refine Ze ?_ | refine Zi ?_ | refine Zj ?_ | refine Zf ?_ | refine Zg ?_ | refine Zm ?_ | refine Zn ?_ | refine Zo ?_ | refine Zp ?_ | refine Zq ?_ | refine Zr ?_ | refine Zk ?_)
    have hE : ∀ {X : List Value}, X = [.int .i64 0, .int .i64 0] → leafsEq [.int .i64 0, .int .i64 0] X = true := by rintro _ rfl; simp [leafsEq, leafEq]
    rw [hE]
    rotate_left
    · rfl
    repeat (first | refine Z0 ?_ | (refine ZR ?_; first | refine x1 ?_ | refine x2 ?_ | refine x8 ?_ | refine Z1 ?_ | refine Z2 ?_ | refine x3 fun _ => ?_ | refine x4 fun _ => ?_ | refine x5 fun _ => ?_ | refine Z3 fun _ => ?_ | refine Z4 fun _ => ?_) | refine Za ?_ | refine Zb ?_ | refine Zl ?_ | refine Zc ?_ | refine Ze ?_ | refine Zi ?_ | refine Zj ?_ | refine Zf ?_ | refine Zg ?_ | refine Zm ?_ | refine Zn ?_ | refine Zo ?_ | refine Zp ?_ | refine Zq ?_ | refine Zr ?_ | refine Zk ?_)
    rw [show decide (((V.take j).length : Int) > (V.length : Int)) = false from decide_eq_false (by omega)]
    repeat (first | refine Z0 ?_ | (refine ZR ?_; first | refine x1 ?_ | refine x2 ?_ | refine x8 ?_ | refine Z1 ?_ | refine Z2 ?_ | refine x3 fun _ => ?_ | refine x4 fun _ => ?_ | refine x5 fun _ => ?_ | refine Z3 fun _ => ?_ | refine Z4 fun _ => ?_) | refine Za ?_ | refine Zb ?_ | refine Zl ?_ | refine Zc ?_ | refine Ze ?_ | refine Zi ?_ | refine Zj ?_ | refine Zf ?_ | refine Zg ?_ | refine Zm ?_ | refine Zn ?_ | refine Zo ?_ | refine Zp ?_ | refine Zq ?_ | refine Zr ?_ | refine Zk ?_)
    apply rt_p rfl rfl rfl
    case hp => exact p_slc rfl rfl rfl e6
    repeat (first | refine Z0 ?_ | (refine ZR ?_; first | refine x1 ?_ | refine x2 ?_ | refine x8 ?_ | refine Z1 ?_ | refine Z2 ?_ | refine x3 fun _ => ?_ | refine x4 fun _ => ?_ | refine x5 fun _ => ?_ | refine Z3 fun _ => ?_ | refine Z4 fun _ => ?_) | refine Za ?_ | refine Zb ?_ | refine Zl ?_ | refine Zc ?_ | refine Ze ?_ | refine Zi ?_ | refine Zj ?_ | refine Zf ?_ | refine Zg ?_ | refine Zm ?_ | refine Zn ?_ | refine Zo ?_ | refine Zp ?_ | refine Zq ?_ | refine Zr ?_ | refine Zk ?_)
    refine rt_step rfl rfl rfl (st_call rfl rfl rfl rfl (same49_ct (h5.weak (by exact drop_auto)) (h6.weak (by exact drop_auto)) (by omega) ?_))
    repeat (first | refine Z0 ?_ | (refine ZR ?_; first | refine x1 ?_ | refine x2 ?_ | refine x8 ?_ | refine Z1 ?_ | refine Z2 ?_ | refine x3 fun _ => ?_ | refine x4 fun _ => ?_ | refine x5 fun _ => ?_ | refine Z3 fun _ => ?_ | refine Z4 fun _ => ?_) | refine Za ?_ | refine Zb ?_ | refine Zl ?_ | refine Zc ?_ | refine Ze ?_ | refine Zi ?_ | refine Zj ?_ | refine Zf ?_ | refine Zg ?_ | refine Zm ?_ | refine Zn ?_ | refine Zo ?_ | refine Zp ?_ | refine Zq ?_ | refine Zr ?_ | refine Zk ?_)
    refine rt_step rfl rfl rfl (st_call rfl rfl rfl rfl (same50_ct (hbY.weak (by exact drop_auto)) ((h1.weak (by exact drop_auto)).arr encY_len) (by omega) ?_))
    repeat (first | refine Z0 ?_ | (refine ZR ?_; first | refine x1 ?_ | refine x2 ?_ | refine x8 ?_ | refine Z1 ?_ | refine Z2 ?_ | refine x3 fun _ => ?_ | refine x4 fun _ => ?_ | refine x5 fun _ => ?_ | refine Z3 fun _ => ?_ | refine Z4 fun _ => ?_) | refine Za ?_ | refine Zb ?_ | refine Zl ?_ | refine Zc ?_ | refine Ze ?_ | refine Zi ?_ | refine Zj ?_ | refine Zf ?_ | refine Zg ?_ | refine Zm ?_ | refine Zn ?_ | refine Zo ?_ | refine Zp ?_ | refine Zq ?_ | refine Zr ?_ | refine Zk ?_)
    exact re_1 rfl rfl (List.Sublist.refl _) (hQ _)
end
end Go.Proofs.Ytjdppdoakbojcaa.Abs

/- Readings of bytes for the statements of chapter 04. -/
namespace Go.Proofs.Ytjdppdoakbojcaa.Abs
open Go Go.RowKit
set_option linter.unusedVariables false
set_option maxRecDepth 100000
set_option maxHeartbeats 2000000
theorem lt_EL {c : Nat} (h : c ≤ maxLen) : c < EL := by unfold maxLen at h; unfold EL; omega
theorem isY_wf {n : Int} (h : (Lit.int .u8 n).wf = true) : isY n := by
  have := wf_u8 h
  unfold isY
  omega
theorem lv5 : leaves Try.prog 10 5 = some [5] := by kernel_rfl
section
variable {H : Type} {enc : TypeId × Value → H} {w : World} {base : Nat} {spare : Nat → Bool} {held : Bool}
theorem u8_read {hs fuel : Nat} {cs : List Value} {x : DataW H × List MemPlace} (h : DataW.trod enc Try.prog w base spare held fuel 5 cs = some x) : cs.length = 1 ∧ ∃ p : Int, cs.map (normV hs) = encY p ∧ isY p := by
  have hh := leaves_ok 10 5 _ lv5 _ _ _ h
  refine ⟨hh.1, ?_⟩
  obtain ⟨v0, cs0, rfl, l0, h0⟩ := LeafOk.next hh
  obtain rfl := LeafOk.done h0
  obtain ⟨n0, rfl, w0⟩ := leaf_int (k := .u8) Try.underlying5 l0
  exact ⟨n0, rfl, isY_wf w0⟩
end
end Go.Proofs.Ytjdppdoakbojcaa.Abs
