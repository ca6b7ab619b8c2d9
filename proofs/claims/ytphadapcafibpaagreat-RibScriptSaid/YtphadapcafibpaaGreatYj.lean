/- Contracts: routes are checked and encoded by the reference. -/
import Derived.Test.YtphadapcafibpaaGreatYb
import Derived.Test.YtphadapcafibpaaGreatYe
import Derived.Test.YtphadapcafibpaaGreatSep3
import Derived.Test.YtphadapcafibpaaGreatYc
import Derived.Test.YtphadapcafibpaaGreatYs
namespace Go.Proofs.YtphadapcafibpaaGreat.Abs
open Go
set_option linter.unusedVariables false
theorem p_cpl32 {C : Ctx} {l : Sl} {t : TypeId} {x : Operand} {a : Int} (h : evalL l x = some (.int .u32 a)) : PureT C (.unOp .xor t x) l (.int .u32 (IntKind.u32.wrap ((BitVec.ofInt 32 4294967295 ^^^ BitVec.ofInt 32 a).toNat : Int))) := by
  unfold PureT
  refine ⟨cov1 h, ?_⟩
  simp only [aP, aun, rhoL_eq h, aint]
  rfl
theorem msk_all : ∀ k : Fin 33, IntKind.u32.wrap ((BitVec.ofInt 32 4294967295 ^^^ BitVec.ofInt 32 (IntKind.u32.wrap (IntKind.u32.wrap (1 * 2 ^ (min ((32 : Int) - (k.val : Int)).toNat IntKind.u32.bits)) - 1))).toNat : Int) = mskI (k.val : Int) := by decide
theorem msk_eq {b : Int} (hb : 0 ≤ b ∧ b ≤ 32) : IntKind.u32.wrap ((BitVec.ofInt 32 4294967295 ^^^ BitVec.ofInt 32 (IntKind.u32.wrap (IntKind.u32.wrap (1 * 2 ^ (min (32 - b).toNat IntKind.u32.bits)) - 1))).toNat : Int) = mskI b := by
  obtain ⟨k, rfl⟩ := Int.eq_ofNat_of_zero_le hb.1
  exact msk_all ⟨k, by omega⟩
theorem clI_u32 (a b : Int) : 0 ≤ clI a b ∧ clI a b < 4294967296 := u32r _
section
variable {B0 : Nat} {old : Nat → Option (List Value)} {n : Nat} {H Hs : Hp} {Q : Value → Hp → Prop} {B : List Int} {v : Value}
set_option maxRecDepth 10000
set_option maxHeartbeats 8000000
theorem valid129_ct (a b : Int) (hQ : Q (.bool (decide (0 ≤ b ∧ b ≤ 32))) H) : CallT (cx B0 old) (acall (cx B0 old) ansP (n + 1)) 129 [.agg ⟨[.int .u32 a, .int .i64 b]⟩] H Q := by
  refine call_in1 11 rfl Tryz.func129 rfl rfl ?_
  repeat(refine ZX ?_;try intro _)
  refine isRun ?_
  refine z1 (fun h1 => ?_) (fun h1 => ?_)
  · repeat(refine ZX ?_;try intro _)
    exact re_1 (H' := H) rfl rfl (by exact drop_auto) (by rw [show decide (b ≤ 32) = decide (0 ≤ b ∧ b ≤ 32) from decide_eq_decide.2 ⟨fun h => ⟨h1, h⟩, fun h => h.2⟩]; exact hQ)
  · repeat(refine ZX ?_;try intro _)
    exact re_1 (H' := H) rfl rfl (by exact drop_auto) (by rw [decide_eq_false (fun h => h1 h.1)] at hQ; exact hQ)
theorem mask130_ct (b : Int) (hb : 0 ≤ b ∧ b ≤ 32) (hQ : Q (.int .u32 (mskI b)) H) : CallT (cx B0 old) (acall (cx B0 old) ansP (n + 1)) 130 [.int .i64 b] H Q := by
  refine call_in1 8 rfl Tryz.func130 rfl rfl ?_
  repeat(refine ZX ?_;try intro _)
  apply rt_p rfl rfl rfl
  case hp => exact p_shl rfl rfl (by omega)
  repeat(refine ZX ?_;try intro _)
  apply rt_p rfl rfl rfl
  case hp => exact p_cpl32 rfl
  rw [msk_eq hb]
  repeat(refine ZX ?_;try intro _)
  exact re_1 (H' := H) rfl rfl (by exact drop_auto) hQ
theorem clean105_ct (a b : Int) (h1 : ¬ (0 ≤ b ∧ b ≤ 32) → Q (.tuple #[.agg ⟨[.int .u32 0, .int .i64 0]⟩, .int .i64 2]) H) (h2 : 0 ≤ b ∧ b ≤ 32 → Q (.tuple #[.agg ⟨[.int .u32 (clI a b), .int .i64 b]⟩, .int .i64 0]) H) :
    CallT (cx B0 old) (acall (cx B0 old) ansP (n + 2)) 105 [.agg ⟨[.int .u32 a, .int .i64 b]⟩] H Q := by
  unfold clI at h2
  refine call_in1 17 rfl Tryz.func105 rfl rfl ?_
  repeat(refine ZX ?_;try intro _)
  refine rt_step rfl rfl rfl (st_call rfl rfl rfl rfl (valid129_ct a b ?_))
  repeat(refine ZX ?_;try intro _)
  refine ct_condT (te_n te_d) rfl (fun hc => ?_) (fun hc => ?_)
  · repeat(refine ZX ?_;try intro _)
    exact re_c2 (H' := H) rfl rfl (.own _ _ hm0) rfl (sz rfl) rfl rfl (by exact drop_auto) (h1 hc)
  · repeat(refine ZX ?_;try intro _)
    refine ct_draw (masks := [0, 1, 0, 4, 12, 31, 0, 64, 255, 511, 1023]) (plan := [0, 1, 2, 3, 6, 7, 4, 5, 8, 9, 10]) (E := []) (by kernel_rfl) (by kernel_rfl) (by kernel_rfl) (by kernel_rfl) ?_
    repeat refine YX ?_
    refine pl_S rfl rfl rfl rfl rfl rfl (st_call rfl rfl rfl rfl (mask130_ct b hc ⟨by exact rec_auto, ?_⟩))
    repeat refine YX ?_
    refine y3 ?_
    repeat refine YX ?_
    repeat(refine ZX ?_;try intro _)
    exact re_c2 (H' := H) rfl rfl (.own _ _ hm0) rfl (sz rfl) rfl rfl (by exact drop_auto) (h2 hc)
theorem only104_ct (x : S60) (h1 : ¬ (1 ≤ x.a0 ∧ x.a0 ≤ 5) → ∀ y : S60, Q (.tuple #[.agg ⟨en60 y⟩, .bool false]) H) (h2 : 1 ≤ x.a0 ∧ x.a0 ≤ 5 → Q (.tuple #[.agg ⟨en60 (onlyS x)⟩, .bool true]) H) :
    CallT (cx B0 old) (acall (cx B0 old) ansP (n + 1)) 104 [.agg ⟨en60 x⟩] H Q := by
  have h1 := fun hn => h1 hn { zS with a0 := x.a0, a1 := x.a1 }
  unfold onlyS at h2
  refine call_in1 85 rfl Tryz.func104 rfl rfl ?_
  unfold en60 zS at h1
  unfold en60 at h2 ⊢
  dsimp only at h1
  repeat' (first | refine Z0 ?_ | (refine ZR ?_; first | refine x1 ?_ | refine x2 ?_ | refine x8 ?_ | refine Z1 ?_ | refine Z2 ?_ | refine x3 fun _ => ?_ | refine x4 fun _ => ?_ | refine x5 fun _ => ?_ | refine Z3 fun _ => ?_ | refine Z4 fun _ => ?_) | refine Za ?_ | refine Zb ?_ | refine Zl ?_ | refine Zc ?_ | refine Ze ?_ | refine Zi ?_ | refine Zj ?_ | refine Zf ?_ | refine Zg ?_ | refine Zm ?_ | refine Zn ?_ | refine Zo ?_ | refine Zp ?_ | refine Zq ?_ | refine Zr ?_ | refine Zk ?_ | refine Y0 ?_ | (refine YP ?_; first | refine y1 ?_ | refine y2 ?_ | refine Y1 ?_ | refine Y2 ?_) | (refine isPlan ?_; refine y3 ?_) | (first | (refine isRun ?_; refine z1 (fun hc => ?_) (fun hc => ?_)) | refine z2 (fun hc => ?_) (fun hc => ?_) | (refine isPlan ?_; refine z3 (fun hc => ?_) (fun hc => ?_))) | (first | refine ct_draw (id := 5) (masks := [0, 1, 0, 4, 0, 16, 3, 67, 207, 463, 1023, 2047]) (plan := [0, 1, 2, 3, 4, 5, 6, 7, 8, 9, 10, 11]) (E := []) (by kernel_rfl) (by kernel_rfl) (by kernel_rfl) (by kernel_rfl) ?_ | refine ct_draw (id := 7) (masks := [0, 1, 0, 4, 0, 16, 0, 64, 0, 256, 0, 1024, 3, 4099, 12303, 28687, 61503, 127039, 258303, 520447, 1045503, 2094079, 4194303, 8388607]) (plan := [0, 1, 2, 3, 4, 5, 6, 7, 8, 9, 10, 11, 12, 13, 14, 15, 16, 17, 18, 19, 20, 21, 22, 23]) (E := []) (by kernel_rfl) (by kernel_rfl) (by kernel_rfl) (by kernel_rfl) ?_ | refine ct_draw (id := 11) (masks := [0, 1, 0, 4, 3, 19, 63, 127, 255, 511]) (plan := [0, 1, 2, 3, 4, 5, 6, 7, 8, 9]) (E := []) (by kernel_rfl) (by kernel_rfl) (by kernel_rfl) (by kernel_rfl) ?_ | refine ct_draw (id := 13) (masks := [0, 1, 0, 4, 3, 19, 63, 127, 255, 511]) (plan := [0, 1, 2, 3, 4, 5, 6, 7, 8, 9]) (E := []) (by kernel_rfl) (by kernel_rfl) (by kernel_rfl) (by kernel_rfl) ?_ | refine ct_draw (id := 15) (masks := [0, 1, 0, 4, 0, 16, 0, 64, 0, 256, 3, 1027, 3087, 7183, 15423, 31807, 64767, 130303, 262143, 524287]) (plan := [0, 1, 2, 3, 4, 5, 6, 7, 8, 9, 10, 11, 12, 13, 14, 15, 16, 17, 18, 19]) (E := []) (by kernel_rfl) (by kernel_rfl) (by kernel_rfl) (by kernel_rfl) ?_))
  all_goals refine re_c2 (H' := H) rfl rfl (.own _ _ hm1) rfl (sz rfl) rfl rfl (by exact drop_auto) ?_
  · have h2 := h2 (by omega); rw [if_pos (by omega)] at h2; exact h2
  · have h2 := h2 (by omega); rw [if_neg (by omega), if_pos (by omega)] at h2; dsimp only at h2; rw [if_pos hc] at h2; exact h2
  · have h2 := h2 (by omega); rw [if_neg (by omega), if_pos (by omega)] at h2; dsimp only at h2; rw [if_neg (by rw [hc]; decide)] at h2; exact h2
  · have h2 := h2 (by omega); rw [if_neg (by omega), if_neg (by omega), if_pos (by omega)] at h2; exact h2
  · have h2 := h2 (by omega); rw [if_neg (by omega), if_neg (by omega), if_neg (by omega), if_pos (by omega)] at h2; exact h2
  · have h2 := h2 (by omega); rw [if_neg (by omega), if_neg (by omega), if_neg (by omega), if_neg (by omega)] at h2; exact h2
  · exact h1 (by omega)
theorem check70_ct (x : S60) (hQ : Q (.int .i64 (nlCk x)) H) : CallT (cx B0 old) (acall (cx B0 old) ansP (n + 3)) 70 [.agg ⟨en60 x⟩] H Q := by
  have hf1 : ∀ {H1 : Hp} {Θ : Value → Hp → Prop}, ¬ (1 ≤ x.a0 ∧ x.a0 ≤ 5) → (∀ y : S60, Θ (.tuple #[.agg ⟨en60 y⟩, .bool false]) H1) → CallT (cx B0 old) (acall (cx B0 old) ansP (n + 2)) 104 [.agg ⟨en60 x⟩] H1 Θ := fun hn h => only104_ct x (fun _ => h) (fun g => absurd g hn)
  have hf2 : ∀ {H1 : Hp} {Θ : Value → Hp → Prop}, 1 ≤ x.a0 ∧ x.a0 ≤ 5 → Θ (.tuple #[.agg ⟨en60 (onlyS x)⟩, .bool true]) H1 → CallT (cx B0 old) (acall (cx B0 old) ansP (n + 2)) 104 [.agg ⟨en60 x⟩] H1 Θ := fun hy h => only104_ct x (fun g => absurd hy g) (fun _ => h)
  have e6 := ck_6 (x := x)
  have e3 := ck_3 (x := x)
  have e2 := ck_2 (x := x)
  have ec := ck_c (x := x)
  have hfm : nlForm x = leafsEq (en60 (onlyS x)) (en60 x) := rfl
  generalize nlCk x = r at *
  generalize nlForm x = fm at *
  generalize onlyS x = o at *
  refine call_in1 55 rfl Tryz.func70 rfl rfl ?_
  unfold en60 at hf1 hf2 hfm ⊢
  repeat(refine ZX ?_;try intro _)
  by_cases hk : 1 ≤ x.a0 ∧ x.a0 ≤ 5
  rotate_left
  · refine rt_step rfl rfl rfl (st_call rfl rfl rfl rfl (hf1 hk fun y => ?_))
    repeat(refine ZX ?_;try intro _)
    exact re_1 (H' := H) rfl rfl (by exact drop_auto) (by rw [e6 (by omega)] at hQ; exact hQ)
  have hk' : ¬ (x.a0 < 1 ∨ x.a0 > 5) := by omega
  refine rt_step rfl rfl rfl (st_call rfl rfl rfl rfl (hf2 hk ?_))
  repeat(refine ZX ?_;try intro _)
  rw [← hfm]
  refine ct_condT (te_n te_b) rfl (fun hd => ?_) (fun hd => ?_)
  · repeat(refine ZX ?_;try intro _)
    exact re_1 (H' := H) rfl rfl (by exact drop_auto) (by rw [e3 hk' hd] at hQ; exact hQ)
  have hlf : leafsEq [.int .u32 (clI x.a16 x.a17), .int .i64 x.a17] [.int .u32 x.a16, .int .i64 x.a17] = (clI x.a16 x.a17 == x.a16) := by simp [leafsEq, leafN]
  repeat' (first | refine Z0 ?_ | (refine ZR ?_; first | refine x1 ?_ | refine x2 ?_ | refine x8 ?_ | refine Z1 ?_ | refine Z2 ?_ | refine x3 fun _ => ?_ | refine x4 fun _ => ?_ | refine x5 fun _ => ?_ | refine Z3 fun _ => ?_ | refine Z4 fun _ => ?_) | refine Za ?_ | refine Zb ?_ | refine Zl ?_ | refine Zc ?_ | refine Ze ?_ | refine Zi ?_ | refine Zj ?_ | refine Zf ?_ | refine Zg ?_ | refine Zm ?_ | refine Zn ?_ | refine Zo ?_ | refine Zp ?_ | refine Zq ?_ | refine Zr ?_ | refine Zk ?_ | refine Y0 ?_ | (refine YP ?_; first | refine y1 ?_ | refine y2 ?_ | refine Y1 ?_ | refine Y2 ?_) | (refine isPlan ?_; refine y3 ?_) | (first | (refine isRun ?_; refine z1 (fun hc => ?_) (fun hc => ?_)) | refine z2 (fun hc => ?_) (fun hc => ?_) | (refine isPlan ?_; refine z3 (fun hc => ?_) (fun hc => ?_))))
  all_goals first
    | exact re_1 (H' := H) rfl rfl (by exact drop_auto) (by rw [e2 hk' hd (by omega)] at hQ; exact hQ)
    | skip
  refine rt_step rfl rfl rfl (st_call rfl rfl rfl rfl (clean105_ct x.a16 x.a17 (fun hn => ?_) (fun hy => ?_)))
  · exfalso; omega
  · rw [ec hk' hd (by omega)] at hQ
    repeat(refine ZX ?_;try intro _)
    refine ct_condT (te_n te_b) rfl (fun hz => ?_) (fun hz => ?_)
    · have hz' := hlf.symm.trans hz
      rw [if_pos (beq_eq_false_iff_ne.1 hz')] at hQ
      repeat(refine ZX ?_;try intro _)
      exact re_1 (H' := H) rfl rfl (by exact drop_auto) hQ
    · have hz' := hlf.symm.trans hz
      rw [if_neg (fun g => g (beq_iff_eq.1 hz'))] at hQ
      repeat(refine ZX ?_;try intro _)
      exact re_1 (H' := H) rfl rfl (by exact drop_auto) hQ
end
end Go.Proofs.YtphadapcafibpaaGreat.Abs


/- A restart, in plain Lean: routes that became stale, were put again, or swept. -/
namespace Go.Proofs.YtphadapcafibpaaGreat.Abs
open Go
set_option linter.unusedVariables false
variable {e : Rt} {M : List Rt} {f g : Rt → Bool} {p : Int}
theorem putR_front : ∀ {L : List Rt}, (∀ x ∈ L, rkR e < rkR x) → putR e L = e :: L
  | [], _ => rfl
  | x :: l, h => by
    have := h x (List.mem_cons_self ..)
    unfold putR
    rw [if_neg (by omega), if_neg (by omega)]
theorem putR_cons (e x : Rt) (l : List Rt) : putR e (x :: l) = if rkR x < rkR e then x :: putR e l else if rkR x = rkR e then e :: l else e :: x :: l := rfl
theorem putR_filter (hf : f e = true) : ∀ {M : List Rt}, SrtR M → (putR e M).filter f = putR e (M.filter f)
  | [], _ => by simp [putR, hf]
  | x :: l, h => by
    obtain ⟨h1, h2⟩ := SrtR.cons.1 h
    rw [putR_cons]
    by_cases c1 : rkR x < rkR e
    · rw [if_pos c1]
      have ih := putR_filter hf h2
      cases hx : f x with
      | true =>
        rw [List.filter_cons_of_pos hx, List.filter_cons_of_pos hx, ih]
        rw [putR_cons, if_pos c1]
      | false =>
        rw [List.filter_cons_of_neg (by simp [hx]), List.filter_cons_of_neg (by simp [hx]), ih]
    · rw [if_neg c1]
      by_cases c2 : rkR x = rkR e
      · rw [if_pos c2, List.filter_cons_of_pos hf]
        cases hx : f x with
        | true =>
          rw [List.filter_cons_of_pos hx]
          rw [putR_cons, if_neg c1, if_pos c2]
        | false =>
          rw [List.filter_cons_of_neg (by simp [hx]), putR_front (L := l.filter f) fun y hy => by have := h1 y (List.mem_filter.1 hy).1; omega]
      · rw [if_neg c2, List.filter_cons_of_pos hf]
        rw [putR_front (L := (x :: l).filter f) fun y hy => by
          rcases List.mem_cons.1 (List.mem_filter.1 hy).1 with rfl | h
          · omega
          · have := h1 y h; omega]
theorem putR_filterN (hg : g e = false) : ∀ {M : List Rt}, (∀ x ∈ M, rkR x = rkR e → g x = false) → (putR e M).filter g = M.filter g
  | [], _ => by simp [putR, hg]
  | x :: l, h => by
    have ih := putR_filterN (M := l) hg fun y hy => h y (List.mem_cons_of_mem _ hy)
    unfold putR
    split
    · rw [List.filter_cons, List.filter_cons, ih]
    · split
      · rename_i h1 h2
        rw [List.filter_cons_of_neg (by simp [hg]), List.filter_cons_of_neg (by simp [h x (List.mem_cons_self ..) h2])]
      · rw [List.filter_cons_of_neg (by simp [hg])]
theorem putR_sub (hg : g e = false) : ∀ {M : List Rt}, ((putR e M).filter g).Sublist (M.filter g)
  | [] => by simp [putR, hg]
  | x :: l => by
    have ih := putR_sub (M := l) hg
    unfold putR
    split
    · rw [List.filter_cons, List.filter_cons]
      split
      · exact ih.cons_cons _
      · exact ih
    · split
      · rw [List.filter_cons_of_neg (by simp [hg]), List.filter_cons]
        split
        · exact List.sublist_cons_self _ _
        · exact List.Sublist.refl _
      · rw [List.filter_cons_of_neg (by simp [hg])]
        exact List.Sublist.refl _
theorem putR_ge : ∀ {M : List Rt}, M.length ≤ (putR e M).length
  | [] => Nat.zero_le _
  | x :: l => by
    have := putR_ge (M := l)
    unfold putR
    split
    · simp only [List.length_cons]; omega
    · split <;> simp only [List.length_cons] <;> omega
theorem putR_self : ∀ {M : List Rt}, SrtR M → e ∈ M → putR e M = M
  | [], _, h => by cases h
  | x :: l, h, hm => by
    obtain ⟨h1, h2⟩ := SrtR.cons.1 h
    unfold putR
    rcases List.mem_cons.1 hm with rfl | hm
    · rw [if_neg (by omega), if_pos rfl]
    · have := h1 e hm
      rw [if_pos this, putR_self h2 hm]
/-- Where a route is put. -/
theorem putR_at : ∀ {M : List Rt} {k : Nat}, SrtR M → k ≤ M.length → (∀ (j : Nat) x, M[j]? = some x → j < k → rkR x < rkR e) → (∀ x, M[k]? = some x → rkR e ≤ rkR x) →
    putR e M = match M[k]? with | some x => if rkR x = rkR e then M.set k e else M.take k ++ ([e] ++ M.drop k) | none => M.take k ++ ([e] ++ M.drop k)
  | [], k, _, hk, _, _ => by
    have : k = 0 := by simpa using hk
    subst this; rfl
  | x :: l, 0, h, _, _, h2 => by
    have := h2 x rfl
    unfold putR
    rw [if_neg (by omega)]
    show _ = if rkR x = rkR e then _ else _
    split <;> rfl
  | x :: l, k + 1, h, hk, h1, h2 => by
    obtain ⟨g1, g2⟩ := SrtR.cons.1 h
    have ih := putR_at (M := l) (k := k) g2 (by simpa using hk) (fun j y hy hj => h1 (j + 1) y (by simpa using hy) (by omega)) (fun y hy => h2 y (by simpa using hy))
    have := h1 0 x rfl (by omega)
    unfold putR
    rw [if_pos this, ih, List.getElem?_cons_succ]
    split
    · split <;> rfl
    · rfl
theorem nlC_key (x y : S60) : nlC (keyS x) (keyS y) = nlC x y := by unfold nlC; rw [keyS_key, keyS_key]
theorem rk_peer {x r : Rt} (hx : okP (plc x)) (hr : okP (plc r)) (hp : x.peer = r.peer) : (rkR x < rkR r ↔ nlC x.n r.n < 0) ∧ (rkR x = rkR r ↔ nlC x.n r.n = 0) := by
  refine ⟨?_, ?_⟩
  · unfold rkR
    rw [← rkP_lt hx hr]
    show (if nlC (keyS x.n) (keyS r.n) = 0 then sgn x.peer r.peer else nlC (keyS x.n) (keyS r.n)) < 0 ↔ _
    rw [nlC_key, hp, sgn_self]
    split
    · rename_i h; rw [h]
    · exact Iff.rfl
  · rw [nlC_zero]
    constructor
    · intro e
      have := rkP_inj hx hr e
      exact congrArg Pk.k this
    · intro e
      unfold rkR plc
      rw [e, hp]
def pP (p : Int) (r : Rt) : Bool := decide (r.peer = p)
def fP (p : Int) (r : Rt) : Bool := decide (r.peer = p) && !r.stale
def sP (p : Int) (r : Rt) : Bool := decide (r.peer = p) && r.stale
structure RsI (p : Int) (oth st : Nat) (M last : List Rt) : Prop where
  last : last = M.filter (fP p)
  oth : (M.filter (keepD p)).length = oth
  s1 : (M.filter (sP p)).length ≤ st
  s2 : st ≤ (M.filter (pP p)).length
theorem parts (p : Int) : ∀ M : List Rt, (M.filter (keepD p)).length + (M.filter (pP p)).length = M.length ∧ (M.filter (sP p)).length + (M.filter (fP p)).length = (M.filter (pP p)).length ∧ (M.filter (keepD p)).length + (M.filter (fP p)).length = (M.filter (keepS p)).length
  | [] => by simp
  | x :: l => by
    have ih := parts p l
    simp only [List.filter_cons]
    by_cases h : x.peer = p <;> cases h2 : x.stale <;> simp [keepD, pP, sP, fP, keepS, h, h2] <;> omega
theorem RsI.start (p : Int) (M : List Rt) : RsI p (M.filter (keepD p)).length (M.filter (pP p)).length (M.map (stlR p)) [] := by
  have h1 : ∀ x : Rt, keepD p (stlR p x) = keepD p x ∧ pP p (stlR p x) = pP p x ∧ fP p (stlR p x) = false ∧ sP p (stlR p x) = pP p x := fun x => by
    unfold stlR
    by_cases h : x.peer = p
    · rw [if_pos h]; simp [keepD, pP, fP, sP, h]
    · rw [if_neg h]; simp [keepD, pP, fP, sP, h]
  refine ⟨?_, ?_, ?_, ?_⟩
  · symm
    rw [List.filter_eq_nil_iff]
    intro x hx
    obtain ⟨y, _, rfl⟩ := List.mem_map.1 hx
    rw [(h1 y).2.2.1]; decide
  · rw [List.filter_map, List.length_map]
    congr 1
    exact List.filter_congr fun x _ => (h1 x).1
  · rw [List.filter_map, List.length_map]
    exact Nat.le_of_eq (by congr 1; exact List.filter_congr fun x _ => (h1 x).2.2.2)
  · rw [List.filter_map, List.length_map]
    exact Nat.le_of_eq (by congr 1; exact List.filter_congr fun x _ => (h1 x).2.1.symm)
theorem putM_err {lim : Int} {r : Rt} (h : (putM lim r M).2.2 ≠ 0) : (putM lim r M).1 = M := by
  unfold putM at h ⊢
  split
  · rfl
  · rename_i h1
    rw [if_neg h1] at h
    split
    · rename_i h2
      rw [h2] at h
      dsimp only at h
      split
      · rfl
      · rename_i h3
        rw [if_neg h3] at h
        exact absurd rfl h
    · rename_i o h2
      rw [h2] at h
      dsimp only at h
      split
      · rfl
      · rename_i h3
        rw [if_neg h3] at h
        exact absurd rfl h
theorem putM_ok {lim : Int} {r : Rt} (hs : SrtR M) (h : (putM lim r M).2.2 = 0) : rtCk r = 0 ∧ (putM lim r M).1 = putR r M := by
  unfold putM at h ⊢
  by_cases h1 : rtCk r ≠ 0
  · rw [if_pos h1] at h; exact absurd h h1
  · rw [if_neg h1] at h ⊢
    refine ⟨by omega, ?_⟩
    split
    · rename_i h2
      rw [h2] at h
      dsimp only at h
      split
      · rename_i h3; rw [if_pos h3] at h; cases h
      · rfl
    · rename_i o h2
      split
      · rename_i h3
        subst h3
        exact (putR_self hs ((getR_iff hs).1 h2).1).symm
      · rfl
theorem RsI.put {oth st : Nat} {last : List Rt} {r : Rt} (h : RsI p oth st M last) (hs : SrtR M) (hv : ∀ x ∈ M, okR x) (hr : okP (plc r)) (hp : r.peer = p) (ht : r.stale = false) : RsI p oth st (putR r M) (putR r last) := by
  have hf : fP p r = true := by simp [fP, hp, ht]
  have hd : keepD p r = false := by simp [keepD, hp]
  have hsp : sP p r = false := by simp [sP, ht]
  have hpp : pP p r = true := by simp [pP, hp]
  refine ⟨?_, ?_, ?_, ?_⟩
  · rw [putR_filter hf hs, h.last]
  · rw [putR_filterN hd fun x hx e => ?_, h.oth]
    have := rkP_inj (hv x hx).pl hr e
    have := congrArg Pk.peer this
    have h2 : x.peer = p := by rw [← hp]; exact this
    simp [keepD, h2]
  · exact Nat.le_trans (putR_sub hsp).length_le h.s1
  · rw [putR_filter hpp hs]
    exact Nat.le_trans h.s2 putR_ge
theorem RsI.fin {oth st : Nat} {last : List Rt} (h : RsI p oth st M last) : (M.filter (keepS p)).filter (pP p) = last ∧ (M.filter (keepS p)).length = oth + last.length ∧ (M.length : Int) - ((M.filter (keepS p)).length : Int) ≤ st ∧ (st : Int) - last.length ≤ (M.length : Int) - ((M.filter (keepS p)).length : Int) := by
  obtain ⟨p1, p2, p3⟩ := parts p M
  have h1 := h.oth
  have h2 := h.s1
  have h3 := h.s2
  have h4 : last.length = (M.filter (fP p)).length := by rw [h.last]
  refine ⟨?_, by omega, by omega, by omega⟩
  rw [List.filter_filter, h.last]
  refine List.filter_congr fun x _ => ?_
  simp only [pP, keepS, fP]
  cases decide (x.peer = p) <;> cases x.stale <;> rfl
end Go.Proofs.YtphadapcafibpaaGreat.Abs

/- A call for one peer, in plain Lean. -/
namespace Go.Proofs.YtphadapcafibpaaGreat.Abs
open Go
set_option linter.unusedVariables false
/-- Routes of other peers, and, of a call for one key, routes with other keys. -/
def othR (q : Int) (r x : Rt) : Bool := decide (x.peer ≠ r.peer) || (decide (q < 5) && decide (nlC x.n r.n ≠ 0))
theorem othR_plc {q : Int} {r x : Rt} (h5 : q < 5) (h : othR q r x = true) : plc x ≠ plc r := fun e => by
  have h1 : x.peer = r.peer := congrArg Pk.peer e
  have h2 : nlC x.n r.n = 0 := nlC_zero.2 (congrArg Pk.k e)
  unfold othR at h
  simp [h1, h2] at h
theorem othR_self (q : Int) {r : Rt} (h5 : q < 5) : othR q r r = false := by
  cases h : othR q r r with
  | false => rfl
  | true => exact absurd rfl (othR_plc h5 h)
theorem othR_6 {q : Int} (h5 : ¬ q < 5) (r x : Rt) : othR q r x = decide (x.peer ≠ r.peer) := by unfold othR; rw [decide_eq_false h5]; simp
theorem doM_apart {lim q : Int} {r : Rt} {M : List Rt} (hs : SrtR M) (hv : ∀ x ∈ M, okR x) (hr : okP (plc r)) : (doM lim q r M).1.filter (othR q r) = M.filter (othR q r) := by
  unfold doM
  split
  · rename_i h4
    have h5 : q < 5 := by omega
    by_cases he : (putM lim r M).2.2 = 0
    · obtain ⟨h1, h2⟩ := putM_ok hs he
      rw [h2]
      exact putR_filterN (othR_self q h5) fun x hx e => by
        cases h : othR q r x with
        | false => rfl
        | true => exact absurd (rkP_inj (hv x hx).pl hr e) (othR_plc h5 h)
    · rw [putM_err he]
  · split
    · rename_i h4 h5
      have h5 : q < 5 := by omega
      split
      · rfl
      · unfold dropR
        rw [List.filter_filter]
        refine List.filter_congr fun x hx => ?_
        cases h : othR q r x with
        | false => simp
        | true => simp [othR_plc h5 h]
    · rename_i h4 h4'
      have h5 : ¬ q < 5 := by omega
      have e : othR q r = fun x => decide (x.peer ≠ r.peer) := funext fun x => othR_6 h5 r x
      rw [e]
      split
      · rw [List.filter_filter]
        refine List.filter_congr fun x hx => ?_
        unfold keepD
        by_cases h : x.peer = r.peer <;> simp [h]
      · split
        · rw [List.filter_map]
          have e2 : ((fun x : Rt => decide (x.peer ≠ r.peer)) ∘ stlR r.peer) = fun x => decide (x.peer ≠ r.peer) := funext fun x => by
            show decide ((stlR r.peer x).peer ≠ r.peer) = _
            unfold stlR
            split <;> rfl
          rw [e2]
          have : ∀ L : List Rt, (∀ x ∈ L, x.peer ≠ r.peer) → L.map (stlR r.peer) = L := fun L h => by
            conv => rhs; rw [← List.map_id L]
            exact List.map_congr_left fun x hx => by unfold stlR; rw [if_neg (h x hx)]; rfl
          exact this _ fun x hx => of_decide_eq_true (List.mem_filter.1 hx).2
        · rw [List.filter_filter]
          refine List.filter_congr fun x hx => ?_
          unfold keepS
          by_cases h : x.peer = r.peer <;> simp [h]
end Go.Proofs.YtphadapcafibpaaGreat.Abs

/- What is read of the arguments; the contract of the closed examples (printed by gentz.py). -/
namespace Go.Proofs.YtphadapcafibpaaGreat.Abs
open Go Go.RowKit
set_option linter.unusedVariables false
set_option maxRecDepth 100000
set_option maxHeartbeats 2000000
theorem livesRun : acall (cell0 Tryz.prog) ansB 60 7 [] st0 isTrue = true := by kernel_rfl
theorem extOk [Tok] (B0 : Nat) (old : Nat → Option (List Value)) : ExtOk (cx B0 old) := by
  intro f args v h0
  have h : extS f args = some v := h0
  clear h0
  unfold extS at h
  split at h
  · rename_i e
    have e := Nat.eq_of_beq_eq_true e
    subst e
    cases h
    refine ⟨rfl, fun φ N args' w ha => ?_⟩
    cases ha
    exact closedX 60 7 livesRun w
  · cases h
theorem wfz_i64 {n : Int} (h : (Lit.int .i64 n).wf = true) : -9223372036854775808 ≤ n ∧ n ≤ 9223372036854775807 := by
  simp [Lit.wf, IntKind.min, IntKind.max, IntKind.signed, IntKind.bits] at h; omega
theorem wfz_u64 {n : Int} (h : (Lit.int .u64 n).wf = true) : 0 ≤ n ∧ n ≤ 18446744073709551615 := by
  simp [Lit.wf, IntKind.min, IntKind.max, IntKind.signed, IntKind.bits] at h; omega
theorem wfz_u32 {n : Int} (h : (Lit.int .u32 n).wf = true) : 0 ≤ n ∧ n ≤ 4294967295 := by
  simp [Lit.wf, IntKind.min, IntKind.max, IntKind.signed, IntKind.bits] at h; omega
theorem wfz_u8 {n : Int} (h : (Lit.int .u8 n).wf = true) : 0 ≤ n ∧ n ≤ 255 := by
  simp [Lit.wf, IntKind.min, IntKind.max, IntKind.signed, IntKind.bits] at h; omega
theorem lv37 : leaves Tryz.prog 10 37 = some [37] := by kernel_rfl
theorem lv39 : leaves Tryz.prog 10 39 = some [39] := by kernel_rfl
theorem lv114 : leaves Tryz.prog 10 114 = some [5, 5, 5, 5, 5, 5, 5, 5] := by kernel_rfl
theorem lv52 : leaves Tryz.prog 10 52 = some [3, 34, 5, 5, 5, 5, 5, 5, 5, 5, 5, 5, 37, 38, 39, 4, 39, 3, 39, 37, 37, 3, 44, 39, 4, 37, 4, 37, 4, 39, 45, 46, 3, 37, 39, 39, 39, 4] := by kernel_rfl
theorem lv54 : leaves Tryz.prog 10 54 = some [3, 3, 34, 5, 5, 5, 5, 5, 5, 5, 5, 5, 5, 37, 38, 39, 4, 39, 3, 39, 37, 37, 3, 44, 39, 4, 37, 4, 37, 4, 39, 45, 46, 3, 37, 39, 39, 39, 4] := by kernel_rfl
section
variable {H : Type} {enc : TypeId × Value → H} {W : World} {base : Nat} {spare : Nat → Bool} {held : Bool}
theorem u32_read {hs fuel : Nat} {cs : List Value} {x : DataW H × List MemPlace} (h : DataW.trod enc Tryz.prog W base spare held fuel 37 cs = some x) : cs.length = 1 ∧ ∃ p : Int, cs.map (normV hs) = enU p ∧ True := by
  have hh := leaves_ok 10 37 _ lv37 _ _ _ h
  refine ⟨hh.1, ?_⟩
  obtain ⟨v0, cs0, rfl, l0, h0⟩ := LeafOk.next hh
  obtain rfl := LeafOk.done h0
  obtain ⟨n0, rfl, w0⟩ := leaf_int (k := .u32) Tryz.underlying37 l0
  exact ⟨n0, rfl, trivial⟩
theorem ip_read {hs fuel : Nat} {cs : List Value} {x : DataW H × List MemPlace} (h : DataW.trod enc Tryz.prog W base spare held fuel 39 cs = some x) : cs.length = 1 ∧ ∃ p : Int, cs.map (normV hs) = enU p ∧ True := by
  have hh := leaves_ok 10 39 _ lv39 _ _ _ h
  refine ⟨hh.1, ?_⟩
  obtain ⟨v0, cs0, rfl, l0, h0⟩ := LeafOk.next hh
  obtain rfl := LeafOk.done h0
  obtain ⟨n0, rfl, w0⟩ := leaf_int (k := .u32) Tryz.underlying39 l0
  exact ⟨n0, rfl, trivial⟩
theorem comm_read {hs fuel : Nat} {cs : List Value} {x : DataW H × List MemPlace} (h : DataW.trod enc Tryz.prog W base spare held fuel 114 cs = some x) : cs.length = 8 ∧ ∃ p : C8, cs.map (normV hs) = enC p ∧ True := by
  have hh := leaves_ok 10 114 _ lv114 _ _ _ h
  refine ⟨hh.1, ?_⟩
  obtain ⟨v0, cs0, rfl, l0, h0⟩ := LeafOk.next hh
  obtain ⟨v1, cs1, rfl, l1, h1⟩ := LeafOk.next h0
  obtain ⟨v2, cs2, rfl, l2, h2⟩ := LeafOk.next h1
  obtain ⟨v3, cs3, rfl, l3, h3⟩ := LeafOk.next h2
  obtain ⟨v4, cs4, rfl, l4, h4⟩ := LeafOk.next h3
  obtain ⟨v5, cs5, rfl, l5, h5⟩ := LeafOk.next h4
  obtain ⟨v6, cs6, rfl, l6, h6⟩ := LeafOk.next h5
  obtain ⟨v7, cs7, rfl, l7, h7⟩ := LeafOk.next h6
  obtain rfl := LeafOk.done h7
  obtain ⟨n0, rfl, w0⟩ := leaf_int (k := .u8) Tryz.underlying5 l0
  obtain ⟨n1, rfl, w1⟩ := leaf_int (k := .u8) Tryz.underlying5 l1
  obtain ⟨n2, rfl, w2⟩ := leaf_int (k := .u8) Tryz.underlying5 l2
  obtain ⟨n3, rfl, w3⟩ := leaf_int (k := .u8) Tryz.underlying5 l3
  obtain ⟨n4, rfl, w4⟩ := leaf_int (k := .u8) Tryz.underlying5 l4
  obtain ⟨n5, rfl, w5⟩ := leaf_int (k := .u8) Tryz.underlying5 l5
  obtain ⟨n6, rfl, w6⟩ := leaf_int (k := .u8) Tryz.underlying5 l6
  obtain ⟨n7, rfl, w7⟩ := leaf_int (k := .u8) Tryz.underlying5 l7
  exact ⟨⟨n0, n1, n2, n3, n4, n5, n6, n7⟩, rfl, trivial⟩
theorem route_readW {fuel : Nat} {cs : List Value} {x : DataW H × List MemPlace} (h : DataW.trod enc Tryz.prog W 0 spare held fuel 52 cs = some x) : cs.length = 38 ∧ ∃ r : Rw, cs.map (normV W.heap.size) = enW r ∧ okAc (cx (W.heap.size + 1) (oldW W)) [] ⟨0, r⟩ := by
  have hh := leaves_ok 10 52 _ lv52 _ _ _ h
  clear h
  refine ⟨hh.1, ?_⟩
  obtain ⟨v0, cs0, rfl, l0, h0⟩ := LeafOk.next hh
  obtain ⟨v1, cs1, rfl, l1, h1⟩ := LeafOk.next h0
  obtain ⟨v2, cs2, rfl, l2, h2⟩ := LeafOk.next h1
  obtain ⟨v3, cs3, rfl, l3, h3⟩ := LeafOk.next h2
  obtain ⟨v4, cs4, rfl, l4, h4⟩ := LeafOk.next h3
  obtain ⟨v5, cs5, rfl, l5, h5⟩ := LeafOk.next h4
  obtain ⟨v6, cs6, rfl, l6, h6⟩ := LeafOk.next h5
  obtain ⟨v7, cs7, rfl, l7, h7⟩ := LeafOk.next h6
  obtain ⟨v8, cs8, rfl, l8, h8⟩ := LeafOk.next h7
  obtain ⟨v9, cs9, rfl, l9, h9⟩ := LeafOk.next h8
  obtain ⟨v10, cs10, rfl, l10, h10⟩ := LeafOk.next h9
  obtain ⟨v11, cs11, rfl, l11, h11⟩ := LeafOk.next h10
  obtain ⟨v12, cs12, rfl, l12, h12⟩ := LeafOk.next h11
  obtain ⟨v13, cs13, rfl, l13, h13⟩ := LeafOk.next h12
  obtain ⟨v14, cs14, rfl, l14, h14⟩ := LeafOk.next h13
  obtain ⟨v15, cs15, rfl, l15, h15⟩ := LeafOk.next h14
  obtain ⟨v16, cs16, rfl, l16, h16⟩ := LeafOk.next h15
  obtain ⟨v17, cs17, rfl, l17, h17⟩ := LeafOk.next h16
  obtain ⟨v18, cs18, rfl, l18, h18⟩ := LeafOk.next h17
  obtain ⟨v19, cs19, rfl, l19, h19⟩ := LeafOk.next h18
  obtain ⟨v20, cs20, rfl, l20, h20⟩ := LeafOk.next h19
  obtain ⟨v21, cs21, rfl, l21, h21⟩ := LeafOk.next h20
  obtain ⟨v22, cs22, rfl, l22, h22⟩ := LeafOk.next h21
  obtain ⟨v23, cs23, rfl, l23, h23⟩ := LeafOk.next h22
  obtain ⟨v24, cs24, rfl, l24, h24⟩ := LeafOk.next h23
  obtain ⟨v25, cs25, rfl, l25, h25⟩ := LeafOk.next h24
  obtain ⟨v26, cs26, rfl, l26, h26⟩ := LeafOk.next h25
  obtain ⟨v27, cs27, rfl, l27, h27⟩ := LeafOk.next h26
  obtain ⟨v28, cs28, rfl, l28, h28⟩ := LeafOk.next h27
  obtain ⟨v29, cs29, rfl, l29, h29⟩ := LeafOk.next h28
  obtain ⟨v30, cs30, rfl, l30, h30⟩ := LeafOk.next h29
  obtain ⟨v31, cs31, rfl, l31, h31⟩ := LeafOk.next h30
  obtain ⟨v32, cs32, rfl, l32, h32⟩ := LeafOk.next h31
  obtain ⟨v33, cs33, rfl, l33, h33⟩ := LeafOk.next h32
  obtain ⟨v34, cs34, rfl, l34, h34⟩ := LeafOk.next h33
  obtain ⟨v35, cs35, rfl, l35, h35⟩ := LeafOk.next h34
  obtain ⟨v36, cs36, rfl, l36, h36⟩ := LeafOk.next h35
  obtain ⟨v37, cs37, rfl, l37, h37⟩ := LeafOk.next h36
  obtain rfl := LeafOk.done h37
  obtain ⟨n0, rfl, w0⟩ := leaf_int (k := .i64) Tryz.underlying3 l0
  obtain ⟨n1, rfl, w1⟩ := leaf_int (k := .u64) Tryz.underlying34 l1
  obtain ⟨n2, rfl, w2⟩ := leaf_int (k := .u8) Tryz.underlying5 l2
  obtain ⟨n3, rfl, w3⟩ := leaf_int (k := .u8) Tryz.underlying5 l3
  obtain ⟨n4, rfl, w4⟩ := leaf_int (k := .u8) Tryz.underlying5 l4
  obtain ⟨n5, rfl, w5⟩ := leaf_int (k := .u8) Tryz.underlying5 l5
  obtain ⟨n6, rfl, w6⟩ := leaf_int (k := .u8) Tryz.underlying5 l6
  obtain ⟨n7, rfl, w7⟩ := leaf_int (k := .u8) Tryz.underlying5 l7
  obtain ⟨n8, rfl, w8⟩ := leaf_int (k := .u8) Tryz.underlying5 l8
  obtain ⟨n9, rfl, w9⟩ := leaf_int (k := .u8) Tryz.underlying5 l9
  obtain ⟨n10, rfl, w10⟩ := leaf_int (k := .u8) Tryz.underlying5 l10
  obtain ⟨n11, rfl, w11⟩ := leaf_int (k := .u8) Tryz.underlying5 l11
  obtain ⟨n12, rfl, w12⟩ := leaf_int (k := .u32) Tryz.underlying37 l12
  obtain ⟨n13, rfl, w13⟩ := leaf_int (k := .u64) Tryz.underlying38 l13
  obtain ⟨n14, rfl, w14⟩ := leaf_int (k := .u32) Tryz.underlying39 l14
  obtain ⟨n15, rfl⟩ := leaf_bool Tryz.underlying4 l15
  obtain ⟨n16, rfl, w16⟩ := leaf_int (k := .u32) Tryz.underlying39 l16
  obtain ⟨n17, rfl, w17⟩ := leaf_int (k := .i64) Tryz.underlying3 l17
  obtain ⟨n18, rfl, w18⟩ := leaf_int (k := .u32) Tryz.underlying39 l18
  obtain ⟨n19, rfl, w19⟩ := leaf_int (k := .u32) Tryz.underlying37 l19
  obtain ⟨n20, rfl, w20⟩ := leaf_int (k := .u32) Tryz.underlying37 l20
  obtain ⟨n21, rfl, w21⟩ := leaf_int (k := .i64) Tryz.underlying3 l21
  obtain ⟨a22, c22, L22, e22, g22, m22, ar22, _⟩ := arr_read (C := cx (W.heap.size + 1) (oldW W)) (k := 1) (en := enU) (Pr := fun _ => True) rfl (fun _ => rfl) Tryz.underlying44 (by kernel_rfl) (by decide) (fun cs m y h => u32_read h) l22
  obtain ⟨n23, rfl, w23⟩ := leaf_int (k := .u32) Tryz.underlying39 l23
  obtain ⟨n24, rfl⟩ := leaf_bool Tryz.underlying4 l24
  obtain ⟨n25, rfl, w25⟩ := leaf_int (k := .u32) Tryz.underlying37 l25
  obtain ⟨n26, rfl⟩ := leaf_bool Tryz.underlying4 l26
  obtain ⟨n27, rfl, w27⟩ := leaf_int (k := .u32) Tryz.underlying37 l27
  obtain ⟨n28, rfl⟩ := leaf_bool Tryz.underlying4 l28
  obtain ⟨n29, rfl, w29⟩ := leaf_int (k := .u32) Tryz.underlying39 l29
  obtain ⟨a30, c30, L30, e30, g30, m30, ar30, _⟩ := arr_read (C := cx (W.heap.size + 1) (oldW W)) (k := 1) (en := enU) (Pr := fun _ => True) rfl (fun _ => rfl) Tryz.underlying45 (by kernel_rfl) (by decide) (fun cs m y h => ip_read h) l30
  obtain ⟨a31, c31, L31, e31, g31, m31, ar31, _⟩ := arr_read (C := cx (W.heap.size + 1) (oldW W)) (k := 8) (en := enC) (Pr := fun _ => True) rfl (fun _ => rfl) Tryz.underlying46 (by kernel_rfl) (by decide) (fun cs m y h => comm_read h) l31
  obtain ⟨n32, rfl, w32⟩ := leaf_int (k := .i64) Tryz.underlying3 l32
  obtain ⟨n33, rfl, w33⟩ := leaf_int (k := .u32) Tryz.underlying37 l33
  obtain ⟨n34, rfl, w34⟩ := leaf_int (k := .u32) Tryz.underlying39 l34
  obtain ⟨n35, rfl, w35⟩ := leaf_int (k := .u32) Tryz.underlying39 l35
  obtain ⟨n36, rfl, w36⟩ := leaf_int (k := .u32) Tryz.underlying39 l36
  obtain ⟨n37, rfl⟩ := leaf_bool Tryz.underlying4 l37
  refine ⟨⟨⟨⟨n0, n1, n2, n3, n4, n5, n6, n7, n8, n9, n10, n11, n12, n13, n14, n15, n16, n17, n18, n19, n20⟩, ⟨n21, L22, n23, n24, n25, n26, n27, n28, n29, L30, L31, n32, n33, n34, n35⟩, n36, n37⟩, a22, c22, a30, c30, a31, c31⟩, ?_, ⟨⟨wfz_i64 w0, wfz_u64 w1, wfz_u8 w2, wfz_u8 w3, wfz_u8 w4, wfz_u8 w5, wfz_u8 w6, wfz_u8 w7, wfz_u8 w8, wfz_u8 w9, wfz_u8 w10, wfz_u8 w11, wfz_u32 w12, wfz_u64 w13, wfz_u32 w14, wfz_u32 w16, wfz_i64 w17, wfz_u32 w18, wfz_u32 w19, wfz_u32 w20⟩, wfz_u32 w36, ⟨ar22.toW, ar30.toW, ar31.toW⟩⟩⟩
  simp only [List.map_cons, List.map_nil, e22, e30, e31]
  rfl
theorem act_readW {fuel : Nat} {cs : List Value} {x : DataW H × List MemPlace} (h : DataW.trod enc Tryz.prog W 0 spare held fuel 54 cs = some x) : cs.length = 39 ∧ ∃ r : Ac, cs.map (normV W.heap.size) = enAc r ∧ okAc (cx (W.heap.size + 1) (oldW W)) [] r := by
  have hh := leaves_ok 10 54 _ lv54 _ _ _ h
  clear h
  refine ⟨hh.1, ?_⟩
  obtain ⟨v0, cs0, rfl, l0, h0⟩ := LeafOk.next hh
  obtain ⟨v1, cs1, rfl, l1, h1⟩ := LeafOk.next h0
  obtain ⟨v2, cs2, rfl, l2, h2⟩ := LeafOk.next h1
  obtain ⟨v3, cs3, rfl, l3, h3⟩ := LeafOk.next h2
  obtain ⟨v4, cs4, rfl, l4, h4⟩ := LeafOk.next h3
  obtain ⟨v5, cs5, rfl, l5, h5⟩ := LeafOk.next h4
  obtain ⟨v6, cs6, rfl, l6, h6⟩ := LeafOk.next h5
  obtain ⟨v7, cs7, rfl, l7, h7⟩ := LeafOk.next h6
  obtain ⟨v8, cs8, rfl, l8, h8⟩ := LeafOk.next h7
  obtain ⟨v9, cs9, rfl, l9, h9⟩ := LeafOk.next h8
  obtain ⟨v10, cs10, rfl, l10, h10⟩ := LeafOk.next h9
  obtain ⟨v11, cs11, rfl, l11, h11⟩ := LeafOk.next h10
  obtain ⟨v12, cs12, rfl, l12, h12⟩ := LeafOk.next h11
  obtain ⟨v13, cs13, rfl, l13, h13⟩ := LeafOk.next h12
  obtain ⟨v14, cs14, rfl, l14, h14⟩ := LeafOk.next h13
  obtain ⟨v15, cs15, rfl, l15, h15⟩ := LeafOk.next h14
  obtain ⟨v16, cs16, rfl, l16, h16⟩ := LeafOk.next h15
  obtain ⟨v17, cs17, rfl, l17, h17⟩ := LeafOk.next h16
  obtain ⟨v18, cs18, rfl, l18, h18⟩ := LeafOk.next h17
  obtain ⟨v19, cs19, rfl, l19, h19⟩ := LeafOk.next h18
  obtain ⟨v20, cs20, rfl, l20, h20⟩ := LeafOk.next h19
  obtain ⟨v21, cs21, rfl, l21, h21⟩ := LeafOk.next h20
  obtain ⟨v22, cs22, rfl, l22, h22⟩ := LeafOk.next h21
  obtain ⟨v23, cs23, rfl, l23, h23⟩ := LeafOk.next h22
  obtain ⟨v24, cs24, rfl, l24, h24⟩ := LeafOk.next h23
  obtain ⟨v25, cs25, rfl, l25, h25⟩ := LeafOk.next h24
  obtain ⟨v26, cs26, rfl, l26, h26⟩ := LeafOk.next h25
  obtain ⟨v27, cs27, rfl, l27, h27⟩ := LeafOk.next h26
  obtain ⟨v28, cs28, rfl, l28, h28⟩ := LeafOk.next h27
  obtain ⟨v29, cs29, rfl, l29, h29⟩ := LeafOk.next h28
  obtain ⟨v30, cs30, rfl, l30, h30⟩ := LeafOk.next h29
  obtain ⟨v31, cs31, rfl, l31, h31⟩ := LeafOk.next h30
  obtain ⟨v32, cs32, rfl, l32, h32⟩ := LeafOk.next h31
  obtain ⟨v33, cs33, rfl, l33, h33⟩ := LeafOk.next h32
  obtain ⟨v34, cs34, rfl, l34, h34⟩ := LeafOk.next h33
  obtain ⟨v35, cs35, rfl, l35, h35⟩ := LeafOk.next h34
  obtain ⟨v36, cs36, rfl, l36, h36⟩ := LeafOk.next h35
  obtain ⟨v37, cs37, rfl, l37, h37⟩ := LeafOk.next h36
  obtain ⟨v38, cs38, rfl, l38, h38⟩ := LeafOk.next h37
  obtain rfl := LeafOk.done h38
  obtain ⟨n0, rfl, w0⟩ := leaf_int (k := .i64) Tryz.underlying3 l0
  obtain ⟨n1, rfl, w1⟩ := leaf_int (k := .i64) Tryz.underlying3 l1
  obtain ⟨n2, rfl, w2⟩ := leaf_int (k := .u64) Tryz.underlying34 l2
  obtain ⟨n3, rfl, w3⟩ := leaf_int (k := .u8) Tryz.underlying5 l3
  obtain ⟨n4, rfl, w4⟩ := leaf_int (k := .u8) Tryz.underlying5 l4
  obtain ⟨n5, rfl, w5⟩ := leaf_int (k := .u8) Tryz.underlying5 l5
  obtain ⟨n6, rfl, w6⟩ := leaf_int (k := .u8) Tryz.underlying5 l6
  obtain ⟨n7, rfl, w7⟩ := leaf_int (k := .u8) Tryz.underlying5 l7
  obtain ⟨n8, rfl, w8⟩ := leaf_int (k := .u8) Tryz.underlying5 l8
  obtain ⟨n9, rfl, w9⟩ := leaf_int (k := .u8) Tryz.underlying5 l9
  obtain ⟨n10, rfl, w10⟩ := leaf_int (k := .u8) Tryz.underlying5 l10
  obtain ⟨n11, rfl, w11⟩ := leaf_int (k := .u8) Tryz.underlying5 l11
  obtain ⟨n12, rfl, w12⟩ := leaf_int (k := .u8) Tryz.underlying5 l12
  obtain ⟨n13, rfl, w13⟩ := leaf_int (k := .u32) Tryz.underlying37 l13
  obtain ⟨n14, rfl, w14⟩ := leaf_int (k := .u64) Tryz.underlying38 l14
  obtain ⟨n15, rfl, w15⟩ := leaf_int (k := .u32) Tryz.underlying39 l15
  obtain ⟨n16, rfl⟩ := leaf_bool Tryz.underlying4 l16
  obtain ⟨n17, rfl, w17⟩ := leaf_int (k := .u32) Tryz.underlying39 l17
  obtain ⟨n18, rfl, w18⟩ := leaf_int (k := .i64) Tryz.underlying3 l18
  obtain ⟨n19, rfl, w19⟩ := leaf_int (k := .u32) Tryz.underlying39 l19
  obtain ⟨n20, rfl, w20⟩ := leaf_int (k := .u32) Tryz.underlying37 l20
  obtain ⟨n21, rfl, w21⟩ := leaf_int (k := .u32) Tryz.underlying37 l21
  obtain ⟨n22, rfl, w22⟩ := leaf_int (k := .i64) Tryz.underlying3 l22
  obtain ⟨a23, c23, L23, e23, g23, m23, ar23, _⟩ := arr_read (C := cx (W.heap.size + 1) (oldW W)) (k := 1) (en := enU) (Pr := fun _ => True) rfl (fun _ => rfl) Tryz.underlying44 (by kernel_rfl) (by decide) (fun cs m y h => u32_read h) l23
  obtain ⟨n24, rfl, w24⟩ := leaf_int (k := .u32) Tryz.underlying39 l24
  obtain ⟨n25, rfl⟩ := leaf_bool Tryz.underlying4 l25
  obtain ⟨n26, rfl, w26⟩ := leaf_int (k := .u32) Tryz.underlying37 l26
  obtain ⟨n27, rfl⟩ := leaf_bool Tryz.underlying4 l27
  obtain ⟨n28, rfl, w28⟩ := leaf_int (k := .u32) Tryz.underlying37 l28
  obtain ⟨n29, rfl⟩ := leaf_bool Tryz.underlying4 l29
  obtain ⟨n30, rfl, w30⟩ := leaf_int (k := .u32) Tryz.underlying39 l30
  obtain ⟨a31, c31, L31, e31, g31, m31, ar31, _⟩ := arr_read (C := cx (W.heap.size + 1) (oldW W)) (k := 1) (en := enU) (Pr := fun _ => True) rfl (fun _ => rfl) Tryz.underlying45 (by kernel_rfl) (by decide) (fun cs m y h => ip_read h) l31
  obtain ⟨a32, c32, L32, e32, g32, m32, ar32, _⟩ := arr_read (C := cx (W.heap.size + 1) (oldW W)) (k := 8) (en := enC) (Pr := fun _ => True) rfl (fun _ => rfl) Tryz.underlying46 (by kernel_rfl) (by decide) (fun cs m y h => comm_read h) l32
  obtain ⟨n33, rfl, w33⟩ := leaf_int (k := .i64) Tryz.underlying3 l33
  obtain ⟨n34, rfl, w34⟩ := leaf_int (k := .u32) Tryz.underlying37 l34
  obtain ⟨n35, rfl, w35⟩ := leaf_int (k := .u32) Tryz.underlying39 l35
  obtain ⟨n36, rfl, w36⟩ := leaf_int (k := .u32) Tryz.underlying39 l36
  obtain ⟨n37, rfl, w37⟩ := leaf_int (k := .u32) Tryz.underlying39 l37
  obtain ⟨n38, rfl⟩ := leaf_bool Tryz.underlying4 l38
  refine ⟨⟨n0, ⟨⟨⟨n1, n2, n3, n4, n5, n6, n7, n8, n9, n10, n11, n12, n13, n14, n15, n16, n17, n18, n19, n20, n21⟩, ⟨n22, L23, n24, n25, n26, n27, n28, n29, n30, L31, L32, n33, n34, n35, n36⟩, n37, n38⟩, a23, c23, a31, c31, a32, c32⟩⟩, ?_, ⟨⟨wfz_i64 w1, wfz_u64 w2, wfz_u8 w3, wfz_u8 w4, wfz_u8 w5, wfz_u8 w6, wfz_u8 w7, wfz_u8 w8, wfz_u8 w9, wfz_u8 w10, wfz_u8 w11, wfz_u8 w12, wfz_u32 w13, wfz_u64 w14, wfz_u32 w15, wfz_u32 w17, wfz_i64 w18, wfz_u32 w19, wfz_u32 w20, wfz_u32 w21⟩, wfz_u32 w37, ⟨ar23.toW, ar31.toW, ar32.toW⟩⟩⟩
  simp only [List.map_cons, List.map_nil, e23, e31, e32]
  rfl
end
end Go.Proofs.YtphadapcafibpaaGreat.Abs

/- Contract of Copy. -/
namespace Go.Proofs.YtphadapcafibpaaGreat.Abs
open Go
set_option linter.unusedVariables false
theorem pcG {G G2 X : Hp} {a b c d e : Nat × AObj} : (a :: b :: c :: d :: e :: ((G ++ G2) ++ X)).Perm (G ++ (a :: b :: c :: d :: e :: (G2 ++ X))) := by
  rw [List.append_assoc]
  exact (List.perm_append_comm_assoc G [a, b, c, d, e] (G2 ++ X)).symm
section
variable {B0 : Nat} {old : Nat → Option (List Value)} {n : Nat} {H : Hp} {Q : Value → Hp → Prop} {lim : Int} {M : List Rt} {v : Value} {Hs : Hp}
set_option maxRecDepth 10000
set_option maxHeartbeats 16000000
theorem copy15_ct (hI : Rib (cx B0 old) lim M v Hs) (hQ : ∀ a Hs', Rib (cx B0 old) lim M (.pointer (some a)) Hs' → Q (.pointer (some a)) (Hs' ++ (Hs ++ H))) :
    CallT (cx B0 old) (acall (cx B0 old) ansP (n + 3)) 15 [v] (Hs ++ H) Q := by
  cases hI with
  | mk p mb c ms Gm hI hR h0 h6 hl =>
  refine call_in1 39 rfl Tryz.func15 rfl rfl ?_
  repeat(refine ZX ?_;try intro _)
  refine rt_step rfl rfl rfl (st_call rfl rfl rfl rfl (valid47_ct h0 ?_))
  repeat(refine ZX ?_;try intro _)
  refine ct_draw (masks := [0, 1, 3, 7, 0, 16, 48, 112, 240, 496, 1023, 2047, 4095]) (plan := [0, 1, 2, 3, 4, 5, 6, 7, 8, 9, 10, 11, 12]) (E := []) (by kernel_rfl) (by kernel_rfl) (by kernel_rfl) (by kernel_rfl) ?_
  repeat refine YX ?_
  refine pl_R rfl rfl rfl rfl rfl rfl (rd_mapLen rfl hm1 rfl) ?_
  repeat refine YX ?_
  refine pl_S rfl rfl rfl rfl rfl rfl (st_A rfl rfl (fun _ => rfl) rfl fun mb2 => ⟨?_, ?_⟩)
  · exact rec_auto
  repeat refine YX ?_
  refine pl_S rfl rfl rfl rfl rfl rfl (st_box rfl (sz rfl) rfl rfl fun cp => ⟨?_, ?_⟩)
  · exact rec_auto
  repeat refine YX ?_
  repeat(refine ZX ?_;try intro _)
  refine rt_step rfl rfl rfl (st_range rfl hm3 rfl fun it => ?_)
  repeat(refine ZX ?_;try intro _)
  refine loop_ind (ι := List Pk × List Nat × List (Pk × Rw × Nat) × Nat × Hp) ([], [], [], 0, []) (fun j => ((ms.map (·.1)).filter fun k => decide (k ∉ j.1)).length)
    (fun j => Born j.2.2.1 j.2.2.2.1 ∧ Uq j.2.2.1 ∧ SeenK ms j.1 j.2.1 ∧ (∀ q ∈ j.2.2.1, Rd (cx B0 old) j.2.2.2.2 q.2.1) ∧ ∀ k, (lkH j.2.2.1 k).map (·.r) = if k ∈ j.1 then (lkH ms k).map (·.r) else none)
    (fun j => [(25, .pointer (some ⟨it, 0, none⟩)), (3, .pointer (some ⟨cp, 0, none⟩))])
    (fun j => (it, .iter (some mb) c j.2.1 c) :: (cp, AObj.row [.int .i64 lim, .map (some mb2)] 2 false) :: (mb2, AObj.map (mkH ekP evW j.2.2.1) j.2.2.2.1) :: (j.2.2.2.2 ++ ((p, AObj.row [.int .i64 lim, .map (some mb)] 2 false) :: (mb, AObj.map (mkH ekP evW ms) c) :: (Gm ++ H))))
    ⟨Born.nil 0, List.nodup_nil, SeenK.nil _, fun q h => (by cases h), fun k => (by simp [lkH, fH])⟩ (by repeat (first | exact SubL.nil | refine SubL.cons rfl ?_)) (List.Sublist.refl _) ?_
  rintro ⟨vk, vs, ms2, c2, G2⟩ ⟨hb2, hu2, hsn, hR2, hlk2⟩
  dsimp only at hb2 hu2 hsn hR2 hlk2 ⊢
  repeat(refine ZX ?_;try intro _)
  refine rt_step rfl rfl rfl (st_nextH rfl (by exact in_auto) hI.born (fun hall => ?_) (fun q hq hnq => ?_))
  · have hI2 : RibI ms2 c2 M := by
      refine ⟨hb2, hu2, fun k r => ?_, hI.srt, hI.val⟩
      have e : ∀ (o : Option Rw), (∃ x, o = some x ∧ x.r = r) ↔ o.map (·.r) = some r := fun o => by simp
      rw [e, hlk2, ← hI.fnd, e]
      by_cases hk : k ∈ vk
      · rw [if_pos hk]
      · rw [if_neg hk]
        cases hm : lkH ms k with
        | none => exact Iff.rfl
        | some x =>
          obtain ⟨m, hm2⟩ := lkH_mem hm
          exact absurd ((hsn _ hm2).1 (hall _ hm2)) hk
    repeat(refine ZX ?_;try intro _)
    exact re_1 rfl rfl (by exact drop_auto) (hQ _ _ (Rib.mk cp mb2 c2 ms2 G2 hI2 hR2 h0 h6 hl))
  obtain ⟨k, x, bo⟩ := q
  dsimp only at hnq ⊢
  have hkv : k ∉ vk := fun h => hnq ((hsn _ hq).2 h)
  have hk0 : k ∈ ms.map (·.1) := List.mem_map.2 ⟨_, hq, rfl⟩
  have hdec := fltDec hk0 hkv
  have hsn2 := hsn.cons hI.born hI.uq hq
  have hkm : lkH ms k = some x := hI.uq.lkH hq
  obtain ⟨g1, g2, g3⟩ := hI.lkS hkm
  have hRx := hR _ hq
  dsimp only at hRx
  unfold ekP evW
  repeat(refine ZX ?_;try intro _)
  refine rt_r rfl rfl rfl (rd_entryH (ek := ekP) (ev := evW) (vs := vs) (p := (k, x, bo)) rfl hm0 (by exact in_auto) hI.born hq) ?_
  dsimp only
  unfold ekP evW enP enW enR
  repeat(refine ZX ?_;try intro _)
  rename_i b5 b4
  refine ct_draw (masks := [0, 1, 3, 7, 0, 0, 32, 127]) (plan := [0, 1, 2, 3, 4, 5, 6, 7]) (E := []) (by kernel_rfl) (by kernel_rfl) (by kernel_rfl) (by kernel_rfl) ?_
  repeat refine YX ?_
  refine pl_S rfl rfl rfl rfl rfl rfl (st_call rfl rfl rfl rfl (clone48W x (hI.val _ g2).light (hRx.weak (by exact drop_auto)) fun y G hy hyR => ⟨?_, ?_⟩))
  · exact rec_auto
  refine PlanT.perm ?_ (pcG (G := G) (G2 := G2))
  repeat refine YX ?_
  refine pl_S0 rfl rfl rfl rfl rfl (st_update rfl rfl rfl (updE_K (C := cx B0 old) (ev := evW) keyMapP ms2 c2 k y) sw4 ⟨by exact rec_auto, ?_⟩)
  repeat refine YX ?_
  repeat(refine ZX ?_;try intro _)
  refine ⟨(k :: vk, vs ++ [bo], updH ms2 c2 k y, updC ms2 c2 k, G ++ G2), ⟨hb2.upd, hu2.upd, hsn2, rd_upd hu2 hR2 hyR, fun j => ?_⟩, hdec, by repeat (first | exact SubL.nil | refine SubL.cons rfl ?_), by exact drop_auto⟩
  dsimp only
  rw [lkH_upd hu2]
  by_cases hjk : j = k
  · subst hjk
    rw [if_pos rfl, if_pos (List.mem_cons_self ..), hkm, Option.map_some, Option.map_some, hy]
  · rw [if_neg hjk, hlk2]
    have : (j ∈ k :: vk) ↔ (j ∈ vk) := by simp [hjk]
    simp only [this]
end
end Go.Proofs.YtphadapcafibpaaGreat.Abs

/- Lists of keys: equal neighbours are left out; Same, Compact. -/
namespace Go.Proofs.YtphadapcafibpaaGreat.Abs
open Go
set_option linter.unusedVariables false
/-- Of equal neighbours the first. -/
def dd : List S60 → List S60
  | [] => []
  | [a] => [a]
  | a :: b :: l => if a = b then dd (b :: l) else a :: dd (b :: l)
theorem dd_ne : ∀ {l : List S60} {a : S60}, dd (a :: l) ≠ []
  | [], a => by simp [dd]
  | b :: l, a => by
    unfold dd
    split
    · exact dd_ne
    · simp
theorem dd_snoc : ∀ (l : List S60) (y x : S60), dd (l ++ [y] ++ [x]) = if x = y then dd (l ++ [y]) else dd (l ++ [y]) ++ [x]
  | [], y, x => by
    show dd [y, x] = if x = y then dd [y] else dd [y] ++ [x]
    unfold dd
    by_cases h : y = x
    · subst h; simp [dd]
    · rw [if_neg h, if_neg fun e => h e.symm]; simp [dd]
  | [a], y, x => by
    have ih := dd_snoc [] y x
    show dd (a :: y :: [x]) = if x = y then dd (a :: [y]) else dd (a :: [y]) ++ [x]
    simp only [List.nil_append, List.cons_append] at ih
    unfold dd
    by_cases h : a = y
    · rw [if_pos h, if_pos h]; exact ih
    · rw [if_neg h, if_neg h, ih]
      split <;> rfl
  | a :: b :: l, y, x => by
    have ih := dd_snoc (b :: l) y x
    simp only [List.cons_append] at ih ⊢
    unfold dd
    by_cases h : a = b
    · rw [if_pos h, if_pos h]; exact ih
    · rw [if_neg h, if_neg h, ih]
      split <;> rfl
theorem dd_len : ∀ l : List S60, (dd l).length ≤ l.length
  | [] => Nat.le_refl _
  | [a] => Nat.le_refl _
  | a :: b :: l => by
    have := dd_len (b :: l)
    unfold dd
    split
    · exact Nat.le_succ_of_le this
    · simp only [List.length_cons] at this ⊢; omega
/-- A list's first elements, and one more. -/
theorem take_two {L : List S60} {i : Nat} {x y : S60} (hy : L[i]? = some y) (hx : L[i + 1]? = some x) : dd (L.take (i + 2)) = if x = y then dd (L.take (i + 1)) else dd (L.take (i + 1)) ++ [x] := by
  have e1 : L.take (i + 1) = L.take i ++ [y] := by rw [List.take_add_one, hy]; rfl
  have e2 : L.take (i + 2) = L.take i ++ [y] ++ [x] := by rw [List.take_add_one, hx, e1]; rfl
  rw [e2, dd_snoc, e1]
/-- A list of keys that is read. -/
def RsK (C : Ctx) (H : Hp) (K : List S60) (v : Value) : Prop := ∃ ad c, v = .slice ad K.length c ∧ ArrW C H ad 21 en60 K
theorem RsK.weak {C : Ctx} {H H' : Hp} {K : List S60} {v : Value} (h : RsK C H K v) (hs : H.Sublist H') : RsK C H' K v := let ⟨ad, c, h1, h2⟩ := h; ⟨ad, c, h1, h2.weak hs⟩
theorem flz (n : Nat) : (List.replicate n zS).flatMap en60 = (List.replicate n (en60 zS)).flatten := by rw [List.flatMap_def, List.map_replicate]
section
variable {B0 : Nat} {old : Nat → Option (List Value)} {n : Nat} {H : Hp} {Q : Value → Hp → Prop}
set_option maxRecDepth 10000
set_option maxHeartbeats 16000000
theorem same31_ct {L M : List S60} {v w : Value} (h1' : RsK (cx B0 old) H L v) (h2' : RsK (cx B0 old) H M w) (hl : L.length ≤ 100000) (hQ : ∀ t : Bool, (t = true ↔ L = M) → Q (.bool t) H) :
    CallT (cx B0 old) (acall (cx B0 old) ansP (n + 1)) 31 [v, w] H Q := by
  obtain ⟨ad, c, rfl, h1⟩ := h1'
  obtain ⟨ad2, c2, rfl, h2⟩ := h2'
  have hyes : L = M → Q (.bool true) H := fun e => hQ true ⟨fun _ => e, fun _ => rfl⟩
  have hno : L ≠ M → Q (.bool false) H := fun e => hQ false ⟨fun h => (by cases h), fun h => absurd h e⟩
  refine call_in2 26 rfl Tryz.func31 rfl rfl ?_
  repeat(refine ZX ?_;try intro _)
  by_cases hlen : L.length = M.length
  rotate_left
  · rw [show ((L.length : Int) != (M.length : Int)) = true from bne_iff_ne.2 (by omega)]
    repeat(refine ZX ?_;try intro _)
    exact re_1 rfl rfl (List.Sublist.refl _) (hno fun e => hlen (by rw [e]))
  rw [show ((L.length : Int) != (M.length : Int)) = false by rw [hlen]; exact bne_self_eq_false _]
  repeat(refine ZX ?_;try intro _)
  refine loop_ind (ι := Nat) 0 (fun i => L.length - i) (fun i => i ≤ L.length ∧ L.take i = M.take i) (fun i => [(5, .int .i64 (i : Int)), (0, .slice ad L.length c), (1, .slice ad2 M.length c2)]) (fun _ => H) ⟨Nat.zero_le _, rfl⟩ (by repeat (first | exact SubL.nil | refine SubL.cons rfl ?_)) (by exact drop_auto) ?_
  rintro i ⟨hi, htk⟩
  repeat(refine ZX ?_;try intro _)
  refine ct_condT te_d rfl (fun hc => ?_) (fun hc => ?_)
  · obtain ⟨x, hx⟩ : ∃ x, L[i]? = some x := ⟨_, List.getElem?_eq_getElem (by omega)⟩
    obtain ⟨y, hy⟩ : ∃ y, M[i]? = some y := ⟨_, List.getElem?_eq_getElem (by omega)⟩
    obtain ⟨b1, o1, e1, hL0⟩ := (h1.arr en60_len).ldW 43 hx rfl (sz rfl)
    obtain ⟨b2, o2, e2, hL1⟩ := (h2.arr en60_len).ldW 43 hy rfl (sz rfl)
    subst e1
    subst e2
    by_cases hxy : x = y
    · subst hxy
      have hs := leaf60 x
      unfold en60 at hL0 hL1 hs
      repeat(refine ZX ?_;try intro _)
      refine ct_draw (masks := [0, 0, 3, 7, 0, 0, 48, 112, 255]) (plan := [0, 1, 2, 3, 4, 5, 6, 7, 8]) (E := []) (by kernel_rfl) (by kernel_rfl) (by kernel_rfl) (by kernel_rfl) ?_
      repeat refine YX ?_
      rw [hs]
      repeat refine YX ?_
      repeat(refine ZX ?_;try intro _)
      refine ⟨i + 1, ⟨by omega, ?_⟩, by omega, by repeat (first | exact SubL.nil | refine SubL.cons rfl ?_), by exact drop_auto⟩
      rw [List.take_add_one, List.take_add_one, htk, hx, hy]
    · have hs := leaf60_ne hxy
      unfold en60 at hL0 hL1 hs
      repeat(refine ZX ?_;try intro _)
      refine ct_draw (masks := [0, 0, 3, 7, 0, 0, 48, 112, 255]) (plan := [0, 1, 2, 3, 4, 5, 6, 7, 8]) (E := []) (by kernel_rfl) (by kernel_rfl) (by kernel_rfl) (by kernel_rfl) ?_
      repeat refine YX ?_
      rw [hs]
      repeat refine YX ?_
      repeat(refine ZX ?_;try intro _)
      exact re_1 rfl rfl (by exact drop_auto) (hno fun e => hxy (by rw [e] at hx; exact Option.some.inj (hx.symm.trans hy)))
  · obtain rfl : i = L.length := by omega
    rw [List.take_length, List.take_of_length_le (by omega)] at htk
    repeat(refine ZX ?_;try intro _)
    exact re_1 rfl rfl (by exact drop_auto) (hyes htk)
end
end Go.Proofs.YtphadapcafibpaaGreat.Abs

/- Contract of Compact. -/
namespace Go.Proofs.YtphadapcafibpaaGreat.Abs
open Go
set_option linter.unusedVariables false
theorem en60_store (x y : S60) : storeRow (en60 x) 0 (en60 y) = some (en60 y) := by
  unfold storeRow
  rw [en60_one y, Nat.zero_add, en60_len, en60_len, Nat.ble_eq_true_of_le (Nat.le_refl _)]
  rw [List.drop_of_length_le (by rw [en60_len]; exact Nat.le_refl _), List.append_nil]; rfl
section
variable {C : Ctx} {hd : HH Prop} {l : Sl} {H H0 pre Hs : Hp} {x y : Operand} {Θ : Value → Hp → Prop} {α : Type} {en : α → List Value} {k N b es : Nat} {L : List α} {a : α} {junk : List Value} {t e st xt : TypeId}
/-- An element is appended within a capacity that is known. -/
theorem st_appF {by' c : Nat} {ad : Option Addr} (hl : ∀ x, (en x).length = k) (hone : ∀ q, (en q).all Value.oneCell' = true) (hx : evalL l x = some (.slice (some ⟨b, 0, none⟩) L.length N)) (hy : evalL l y = some (.slice ad 1 c)) (ht : appT C st xt = some (k, by'))
    (ha : ArrW C (pre ++ ([(b, .row (L.flatMap en ++ junk) es false)] ++ H0)) ad k en [a]) (hb : (2 * (L.length + 1) + 192) * (by' + 1) ≤ 281474976710656) (hN : N < EL) (hle : L.length + 1 ≤ N) (hj : k ≤ junk.length)
    (hk : Θ (.slice (some ⟨b, 0, none⟩) (L.length + 1) N) (pre ++ ([(b, .row ((L ++ [a]).flatMap en ++ junk.drop k) es false)] ++ H0))) :
    StepT C hd (.call { callee := .builtin .append, args := #[x, y], argTypes := #[st, xt] }) l (pre ++ ([(b, .row (L.flatMap en ++ junk) es false)] ++ H0)) Θ := by
  have hone' : (([a] : List α).flatMap en).all Value.oneCell' = true := one_flat hone
  have hla : (([a] : List α).flatMap en).length = k := by rw [flat_length hl]; simp
  refine st_W (cov2 hx hy) rfl (fun _ => rfl) rfl fun s hm => ?_
  have hsrc := ha.src (c := c) (by simp)
  have hlL : (L.flatMap en).length = L.length * k := flat_length hl L
  have run : aappend C s st xt (rhoL l x) (rhoL l y) = appendTo C s k by' 1 ([a].flatMap en) (.slice (some ⟨b, 0, none⟩) L.length N) := by
    rw [rhoL_eq hx, rhoL_eq hy]
    exact aappend_is (n := 1) ht hsrc hm (by decide) hone'
  show ∃ v' H' s', aappend C s st xt (rhoL l x) (rhoL l y) = some (v', s') ∧ MS C H' s' ∧ Θ v' H'
  rw [run]
  obtain ⟨g1, g2, g3⟩ := hm.has b _ hm_mid
  have hst : storeRow (L.flatMap en ++ junk) (0 + L.length * k) ([a].flatMap en) = some ((L ++ [a]).flatMap en ++ junk.drop k) := by
    have e1 : Nat.ble (0 + L.length * k + ([a].flatMap en).length) (L.flatMap en ++ junk).length = true := Nat.ble_eq_true_of_le (by rw [hla, List.length_append, hlL]; omega)
    simp only [storeRow, e1, hone']
    rw [Nat.zero_add, hla, ← hlL, List.take_left' rfl, List.flatMap_append, List.append_assoc, ← List.drop_drop, List.drop_left' rfl]
  refine ⟨_, _, _, ?_, hm.swap swap_mid, hk⟩
  simp only [appendTo]
  rw [if_pos hb, if_neg (by omega), if_neg (by omega), if_pos hle]
  simp only [putCells, Nat.ble_eq_true_of_le g1, g3, hst, Option.map_some]
theorem Own.fixed {v : Value} (h : Own en k L v Hs) (hv : v = .slice (some ⟨b, 0, none⟩) N N) (hEL : N < EL) (h0 : L ≠ []) : ∃ es, Hs = [(b, .row (L.flatMap en) es false)] ∧ L.length = N := by
  cases h with
  | nil => exact absurd rfl h0
  | emp b o => exact absurd rfl h0
  | el _ b es junk => obtain ⟨_, h1, h2⟩ := Value.slice.inj hv; omega
  | fix _ b es hL => obtain ⟨h3, h1, h2⟩ := Value.slice.inj hv; cases h3; exact ⟨es, rfl, h1⟩
theorem fixSl {m q : Nat} {lo hi : Option Value} (hu : C.P.underlying t = some (.slice e)) (hn : sizeAt C e = some k) (hN : N < EL) (h1 : m ≤ q) (h2 : q ≤ N) (hm : m < N) (h5 : lo.bind natOf = some m ∨ lo = none ∧ m = 0) (h6 : hi.bind natOf = some q ∨ hi = none ∧ q = N) :
    aslice C t (.slice (some ⟨b, 0, none⟩) N N) lo hi none = some (.slice (some ⟨b, 0 + m * k, none⟩) (q - m) (N - m)) := by
  have e : aslice C t (.slice (some ⟨b, 0, none⟩) N N) lo hi none = cutSlice C k N false (some ⟨b, 0, none⟩) (m, q, N) := by
    simp only [aslice, hu, hn]
    rw [if_neg (Nat.not_le.2 hN), bnds_is h1 h2 h5 h6]
    rfl
  rw [e]
  simp only [cutSlice]
  rw [if_pos (by omega), if_neg (by omega)]
/-- The last elements are cleared. -/
theorem st_clrF {J : List S60} {c : Nat} {ts : Array TypeId} (hts : ts = #[t]) (hx : evalL l x = some (.slice (some ⟨b, 0 + k * 21, none⟩) (J.length - k) c)) (hk0 : k < J.length) (hu : C.P.underlying t = some (.slice e)) (hz : zeroCellsOf C e = some ⟨en60 zS⟩)
    (hk : Θ (.tuple #[]) (pre ++ ([(b, .row ((J.take k ++ List.replicate (J.length - k) zS).flatMap en60) es false)] ++ H0))) : StepT C hd (.call { callee := .builtin .clear, args := #[x], argTypes := ts }) l (pre ++ ([(b, .row (J.flatMap en60) es false)] ++ H0)) Θ := by
  subst hts
  refine st_W (cov1 hx) rfl (fun _ => rfl) rfl fun s hm => ?_
  obtain ⟨g1, g2, g3⟩ := hm.has b _ hm_mid
  obtain ⟨m, hm1⟩ : ∃ m, J.length - k = m + 1 := ⟨J.length - k - 1, by omega⟩
  have hrl : ((List.replicate (m + 1) (en60 zS)).flatten).length = (m + 1) * 21 := by
    rw [← flz, flat_length en60_len, List.length_replicate]
  have hra : ((List.replicate (m + 1) (en60 zS)).flatten).all Value.oneCell' = true := by rw [← flz]; exact one_flat en60_one
  have hJl : (J.flatMap en60).length = J.length * 21 := flat_length en60_len J
  have hA : ((J.take k).flatMap en60).length = k * 21 := by rw [flat_length en60_len, List.length_take, Nat.min_eq_left (by omega)]
  have hsplit : J.flatMap en60 = (J.take k).flatMap en60 ++ (J.drop k).flatMap en60 := by rw [← List.flatMap_append, List.take_append_drop]
  have hst : storeRow (J.flatMap en60) (0 + k * 21) (List.replicate (m + 1) (en60 zS)).flatten = some ((J.take k ++ List.replicate (J.length - k) zS).flatMap en60) := by
    have e1 : Nat.ble (0 + k * 21 + ((List.replicate (m + 1) (en60 zS)).flatten).length) (J.flatMap en60).length = true := Nat.ble_eq_true_of_le (by rw [hrl, hJl]; omega)
    simp only [storeRow, e1, hra]
    rw [hrl, Nat.zero_add, List.flatMap_append, hm1, flz, List.drop_of_length_le (by rw [hJl]; omega), List.append_nil, hsplit, List.take_left' hA]
  refine ⟨.tuple #[], _, _, ?_, hm.swap swap_mid, hk⟩
  show (aclear C s t (rhoL l x)).map _ = _
  rw [rhoL_eq hx]
  unfold aclear
  simp only [hu]
  rw [hm1]
  simp only [hz]
  have hbl : Nat.blt 0 (⟨en60 zS⟩ : Array Value).size = true := rfl
  simp only [hbl, putCells, Nat.ble_eq_true_of_le g1, g3, hst, Option.map_some]
  rw [hm1]
end
section
variable {B0 : Nat} {old : Nat → Option (List Value)} {n : Nat} {H : Hp} {Q : Value → Hp → Prop}
set_option maxRecDepth 10000
set_option maxHeartbeats 16000000
theorem compact67_ct {b N : Nat} {L : List S60} {Hs : Hp} (ho : Own en60 21 L (.slice (some ⟨b, 0, none⟩) N N) Hs) (hEL : N < EL) (hl : N ≤ 20000) (hQ : ∀ w Hs', RsK (cx B0 old) Hs' (dd L) w → Q w (Hs' ++ H)) :
    CallT (cx B0 old) (acall (cx B0 old) ansP (n + 1)) 67 [.slice (some ⟨b, 0, none⟩) N N] (Hs ++ H) Q := by
  obtain ⟨ad0, c0, e0, hw0⟩ := ho.arrW (C := cx B0 old) en60_len
  obtain ⟨e1, e2, e3⟩ := Value.slice.inj e0
  have hall : ArrW (cx B0 old) Hs (some ⟨b, 0, none⟩) 21 en60 L := by rw [e1]; simpa using hw0 [] []
  have hkeep : dd L = L → Q (.slice (some ⟨b, 0, none⟩) N N) (Hs ++ H) := fun e => hQ _ Hs ⟨some ⟨b, 0, none⟩, N, by rw [e, ← e2], by rw [e]; exact hall⟩
  refine call_in1 61 rfl Tryz.func67 rfl rfl ?_
  repeat(refine ZX ?_;try intro _)
  refine ct_condT te_d rfl (fun hlt => ?_) (fun hlt => ?_)
  · repeat(refine ZX ?_;try intro _)
    refine re_1 rfl rfl (List.Sublist.refl _) (hkeep ?_)
    match L, e2 with
    | [], _ => rfl
    | [a], _ => rfl
    | a :: b :: l, e2 => simp only [List.length_cons] at e2; omega
  have hne : L ≠ [] := fun h => by rw [h] at e2; simp at e2; omega
  obtain ⟨ez, rfl, hLN⟩ := ho.fixed rfl hEL hne
  clear hall hw0 e0 e1 e3 ho
  repeat(refine ZX ?_;try intro _)
  have hfix : ∀ J : List S60, J.length = N → Own en60 21 J (.slice (some ⟨b, 0, none⟩) N N) [(b, .row (J.flatMap en60) ez false)] := fun J hJ => by
    have := Own.fix (en := en60) (k := 21) J b ez (by omega)
    rwa [hJ] at this
  refine loop_ind (ι := Nat) 1 (fun k => N - k) (fun k => 1 ≤ k ∧ k ≤ N ∧ dd (L.take k) = L.take k) (fun k => [(3, .int .i64 (k : Int)), (0, .slice (some ⟨b, 0, none⟩) N N)]) (fun _ => [(b, AObj.row (L.flatMap en60) ez false)] ++ H)
    ⟨Nat.le_refl _, by omega, by match L, hne with | a :: l, _ => rfl⟩ (by repeat (first | exact SubL.nil | refine SubL.cons rfl ?_)) (List.Sublist.refl _) ?_
  rintro k0 ⟨hk1, hkN, hdd⟩
  repeat(refine ZX ?_;try intro _)
  refine ct_condT te_d rfl (fun hklt => ?_) (fun hklt => ?_)
  rotate_left
  · obtain rfl : k0 = N := by omega
    rw [← hLN, List.take_length] at hdd
    repeat(refine ZX ?_;try intro _)
    exact re_1 rfl rfl (List.Sublist.refl _) (hkeep hdd)
  obtain ⟨x, hx, mx, hL0⟩ := (hfix L hLN).ldE (C := cx B0 old) (et := 43) en60_len rfl (sz rfl) (i := k0) (by omega) H
  obtain ⟨y, hy, my, hL1⟩ := (hfix L hLN).ldE (C := cx B0 old) (et := 43) en60_len rfl (sz rfl) (i := k0 - 1) (by omega) H
  have htwo := take_two (L := L) (i := k0 - 1) (x := x) (y := y) hy (by rw [Nat.sub_add_cancel hk1]; exact hx)
  rw [show k0 - 1 + 2 = k0 + 1 by omega, show k0 - 1 + 1 = k0 by omega, hdd] at htwo
  by_cases hxy : x = y
  rotate_left
  · have hs := leaf60_ne hxy
    unfold en60 at hL0 hL1 hs
    repeat(refine ZX ?_;try intro _)
    refine ct_draw (masks := [0, 0, 3, 7, 0, 0, 32, 112, 240, 511]) (plan := [0, 1, 2, 3, 4, 5, 6, 7, 8, 9]) (E := []) (by kernel_rfl) (by kernel_rfl) (by kernel_rfl) (by kernel_rfl) ?_
    repeat refine YX ?_
    rw [hs]
    repeat refine YX ?_
    repeat(refine ZX ?_;try intro _)
    refine ⟨k0 + 1, ⟨by omega, by omega, ?_⟩, by omega, by repeat (first | exact SubL.nil | refine SubL.cons rfl ?_), by exact drop_auto⟩
    rw [htwo, if_neg hxy, List.take_add_one, hx]
    rfl
  rw [if_pos hxy] at htwo
  have hs := leaf60 x
  subst hxy
  unfold en60 at hL0 hL1 hs
  repeat(refine ZX ?_;try intro _)
  refine ct_draw (masks := [0, 0, 3, 7, 0, 0, 32, 112, 240, 511]) (plan := [0, 1, 2, 3, 4, 5, 6, 7, 8, 9]) (E := []) (by kernel_rfl) (by kernel_rfl) (by kernel_rfl) (by kernel_rfl) ?_
  repeat refine YX ?_
  rw [hs]
  repeat refine YX ?_
  repeat(refine ZX ?_;try intro _)
  have hsl : ∀ m : Nat, m < N → aslice (cx B0 old) 74 (.slice (some ⟨b, 0, none⟩) N N) (some (.int .i64 (m : Int))) none none = some (.slice (some ⟨b, 0 + m * 21, none⟩) (N - m) (N - m)) := fun m hm => fixSl (e := 43) (k := 21) (m := m) (q := N) rfl (sz rfl) hEL (by omega) (Nat.le_refl _) (by omega) (.inl (natOf_nat .i64 m)) (.inr ⟨rfl, rfl⟩)
  refine rt_p rfl rfl rfl (p_slc rfl rfl rfl (hsl k0 (by omega))) ?_
  clear hL0 hL1 hs hdd
  repeat(refine ZX ?_;try intro _)
  refine ct_midB (ι := Nat × List S60) (fun j => j.1 < N ∧ j.2.length = N ∧ j.2.take j.1 = dd L) (fun j => [(3, .int .i64 (j.1 : Int)), (0, .slice (some ⟨b, 0, none⟩) N N)]) (fun j => [(b, AObj.row (j.2.flatMap en60) ez false)] ++ H) ?_ ?_
  · refine loop_ind (ι := Nat × Nat × List S60) (1, k0, L) (fun j => N - j.1) (fun j => 1 ≤ j.1 ∧ j.1 ≤ N - k0 ∧ j.2.2.length = N ∧ k0 ≤ j.2.1 ∧ j.2.1 + 1 ≤ k0 + j.1 ∧ (∀ i, k0 + j.1 ≤ i + 1 → j.2.2[i]? = L[i]?) ∧ j.2.2.take j.2.1 = dd (L.take (k0 + j.1)))
      (fun j => [(5, .int .i64 (j.1 : Int)), (3, .int .i64 (j.2.1 : Int)), (4, .slice (some ⟨b, 0 + k0 * 21, none⟩) (N - k0) (N - k0)), (0, .slice (some ⟨b, 0, none⟩) N N)]) (fun j => [(b, AObj.row (j.2.2.flatMap en60) ez false)] ++ H)
      ⟨Nat.le_refl _, by omega, hLN, Nat.le_refl _, Nat.le_refl _, fun _ _ => rfl, htwo.symm⟩ (by repeat (first | exact SubL.nil | refine SubL.cons rfl ?_)) (by exact drop_auto) ?_
    rintro ⟨k2, k, J⟩ ⟨h1, h2, h3, h4, h5, h6, h7⟩
    dsimp only at h1 h2 h3 h4 h5 h6 h7 ⊢
    repeat(refine ZX ?_;try intro _)
    refine ct_condT te_d rfl (fun hk2 => ?_) (fun hk2 => ?_)
    rotate_left
    · obtain rfl : k2 = N - k0 := by omega
      rw [show k0 + (N - k0) = N by omega, ← hLN, List.take_length] at h7
      repeat(refine ZX ?_;try intro _)
      exact ⟨(k, J), ⟨by dsimp only; omega, h3, h7⟩, by repeat (first | exact SubL.nil | refine SubL.cons rfl ?_), by exact drop_auto⟩
    obtain ⟨u, hu, mu, hL0⟩ := (hfix J h3).ldE (C := cx B0 old) (et := 43) en60_len rfl (sz rfl) (i := k0 + k2) (by omega) H
    obtain ⟨w, hw, mw, hL1⟩ := (hfix J h3).ldE (C := cx B0 old) (et := 43) en60_len rfl (sz rfl) (i := k0 + k2 - 1) (by omega) H
    have hu' := hu
    rw [h6 _ (by omega)] at hu'
    have hw' := hw
    rw [h6 _ (by omega)] at hw'
    have ht2 := take_two (L := L) (i := k0 + k2 - 1) (x := u) (y := w) hw' (by rw [Nat.sub_add_cancel (by omega)]; exact hu')
    rw [show k0 + k2 - 1 + 2 = k0 + (k2 + 1) by omega, show k0 + k2 - 1 + 1 = k0 + k2 by omega, ← h7] at ht2
    by_cases huw : u = w
    · have hs := leaf60 u
      subst huw
      rw [if_pos rfl] at ht2
      unfold en60 at hL0 hL1 hs
      repeat(refine ZX ?_;try intro _)
      refine ct_draw (masks := [0, 0, 3, 7, 0, 0, 32, 112, 240, 511]) (plan := [0, 1, 2, 3, 4, 5, 6, 7, 8, 9]) (E := []) (by kernel_rfl) (by kernel_rfl) (by kernel_rfl) (by kernel_rfl) ?_
      repeat refine YX ?_
      rw [hs]
      repeat refine YX ?_
      repeat(refine ZX ?_;try intro _)
      exact ⟨(k2 + 1, k, J), ⟨by dsimp only; omega, by dsimp only; omega, h3, h4, by dsimp only; omega, fun i hi => h6 i (by dsimp only at hi; omega), ht2.symm⟩, by dsimp only; omega, by repeat (first | exact SubL.nil | refine SubL.cons rfl ?_), by exact drop_auto⟩
    · have hs := leaf60_ne huw
      rw [if_neg huw] at ht2
      obtain ⟨r, hr⟩ : ∃ r, J[k]? = some r := ⟨_, List.getElem?_eq_getElem (by omega)⟩
      have hst : ∀ pre H0 : Hp, StP (cx B0 old) 43 b (0 + k * 21 + 0) (.agg ⟨en60 u⟩) (pre ++ ([(b, .row (J.flatMap en60) ez false)] ++ H0)) (pre ++ ([(b, .row ((J.set k u).flatMap en60) ez false)] ++ H0)) := fun pre H0 => stP_mid (sz rfl) rfl (by
        have := flat_set (junk := []) en60_len hr (en60_store r u)
        rwa [List.append_nil, List.append_nil] at this) pre
      unfold en60 at hL0 hL1 hs
      repeat(refine ZX ?_;try intro _)
      refine ct_draw (masks := [0, 0, 3, 7, 0, 0, 32, 112, 240, 511]) (plan := [0, 1, 2, 3, 4, 5, 6, 7, 8, 9]) (E := []) (by kernel_rfl) (by kernel_rfl) (by kernel_rfl) (by kernel_rfl) ?_
      repeat refine YX ?_
      rw [hs]
      repeat refine YX ?_
      repeat(refine ZX ?_;try intro _)
      refine rt_st rfl rfl rfl rfl rfl (hst [] H) ?_
      repeat(refine ZX ?_;try intro _)
      refine ⟨(k2 + 1, k + 1, J.set k u), ⟨by dsimp only; omega, by dsimp only; omega, by dsimp only; rw [List.length_set]; exact h3, by dsimp only; omega, by dsimp only; omega, fun i hi => ?_, ?_⟩, by dsimp only; omega, by repeat (first | exact SubL.nil | refine SubL.cons rfl ?_), by exact drop_auto⟩
      · dsimp only at hi ⊢
        rw [List.getElem?_set_ne (by omega)]
        exact h6 i (by omega)
      · dsimp only
        rw [ht2, List.take_add_one, List.getElem?_set_self (by omega), List.take_set, List.set_eq_of_length_le (by rw [List.length_take]; omega)]
        rfl
  rintro ⟨k, J⟩ ⟨hk, hJ, hJd⟩
  dsimp only at hk hJ hJd ⊢
  repeat(refine ZX ?_;try intro _)
  refine rt_p rfl rfl rfl (p_slc rfl rfl rfl (hsl k hk)) ?_
  have hJ2 : (J.take k ++ List.replicate (J.length - k) zS).length = N := by rw [List.length_append, List.length_take, List.length_replicate]; omega
  have hJt : (J.take k ++ List.replicate (J.length - k) zS).take k = dd L := by rw [List.take_left' (by rw [List.length_take]; omega)]; exact hJd
  refine rt_step0 rfl rfl (st_clrF (J := J) (pre := []) (H0 := H) rfl (by rw [hJ]; rfl) (by omega) rfl rfl ?_)
  have hcut := (hfix _ hJ2).cuts (C := cx B0 old) (pre := []) (H0 := []) en60_len
  obtain ⟨ad4, c4, hs4, hw4⟩ := hcut.part 74 43 none (some (.int .i64 (k : Int))) 0 k rfl (sz rfl) (Nat.zero_le _) (by omega) (.inr ⟨rfl, rfl⟩) (.inl (natOf_nat .i64 k))
  rw [List.drop_zero, Nat.sub_zero, hJt] at hw4
  rw [Nat.sub_zero] at hs4
  have hkl : (dd L).length = k := by rw [← hJt, List.length_take]; omega
  repeat(refine ZX ?_;try intro _)
  refine rt_p rfl rfl rfl (p_slc rfl rfl rfl hs4) ?_
  repeat(refine ZX ?_;try intro _)
  exact re_1 rfl rfl (List.Sublist.refl _) (hQ _ [_] ⟨ad4, c4, by rw [hkl], hw4⟩)
end
end Go.Proofs.YtphadapcafibpaaGreat.Abs

/- Contract of Keys. -/
namespace Go.Proofs.YtphadapcafibpaaGreat.Abs
open Go
set_option linter.unusedVariables false
section
variable {C : Ctx} {hd : HH Prop} {l : Sl} {H : Hp} {x y : Operand} {t e : TypeId} {Θ : Value → Hp → Prop}
theorem st_makeZ {N : Nat} {k k' : IntKind} {i : TypeInfo} {z : List Value} (hx : evalL l x = some (.int k 0)) (hy : evalL l y = some (.int k' (N : Int))) (hu : C.P.underlying t = some (.slice e))
    (hi : C.P.info? e = some i) (hz : zeroCellsOf C e = some ⟨z⟩) (h1 : Nat.ble (i.bytes * N) 1099511627776 = true) (h2 : Nat.ble N 1099511627776 = true) (h3 : Nat.beq (Array.size ⟨z⟩ : Nat) i.size = true) (h4 : Nat.blt 0 i.size = true)
    (h : ∀ b, Θ (.slice (some ⟨b, 0, none⟩) 0 N) ((b, .row (List.replicate N z).flatten i.size false) :: H)) : StepT C hd (.makeSlice t x y) l H Θ := by
  refine st_A (ob := .row (List.replicate N z).flatten i.size false) (mk := fun b => .slice (some ⟨b, 0, none⟩) 0 N) (cov2 hx hy) ?_ (fun s => ?_) ?_ h
  · rfl
  · rfl
  · have h0 : natOf (.int k 0) = some 0 := rfl
    simp only [aA, rhoL_eq hx, rhoL_eq hy, h0, natOf_nat, hu, hi, hz, Nat.ble_eq_true_of_le (Nat.zero_le N), h1, h2, h3, h4]
end
/-- The keys of routes, each once. -/
def keysM (M : List Rt) : List S60 := dd (M.map fun r => keyS r.n)
theorem srtR_keys {M : List Rt} (h : SrtR M) (hv : ∀ r ∈ M, okR r) : ((M.map fun r => keyS r.n).map rkS).Pairwise (· ≤ ·) := by
  rw [List.map_map]
  refine List.pairwise_map.2 ((List.pairwise_map.1 h).imp_of_mem fun {a b} ha hb hlt => ?_)
  have h1 := (rkP_lt (hv a ha).pl (hv b hb).pl).2 hlt
  have h2 : nlC (plc a).k (plc b).k ≤ 0 := by
    split at h1
    · omega
    · omega
  have hka := (hv a ha).pl.1
  have hkb := (hv b hb).pl.1
  show rkS (keyS a.n) ≤ rkS (keyS b.n)
  by_cases h3 : nlC (plc a).k (plc b).k < 0
  · have := (rkS_lt hka hkb).1 h3
    exact Int.le_of_lt this
  · have h4 : nlC (plc a).k (plc b).k = 0 := by omega
    have h5 := nlC_zero.1 h4
    rw [hka.2, hkb.2] at h5
    have h6 : keyS a.n = keyS b.n := h5
    rw [h6]
    exact Int.le_refl _
section
variable {B0 : Nat} {old : Nat → Option (List Value)} {n : Nat} {H : Hp} {Q : Value → Hp → Prop} {lim : Int} {M : List Rt} {v : Value} {Hs : Hp}
set_option maxRecDepth 10000
set_option maxHeartbeats 16000000
theorem keys32_ct (hI : Rib (cx B0 old) lim M v Hs) (hl : M.length ≤ 1000) (hQ : ∀ w G, RsK (cx B0 old) G (keysM M) w → Q w (G ++ (Hs ++ H))) :
    CallT (cx B0 old) (acall (cx B0 old) ansP (n + 1020)) 32 [v] (Hs ++ H) Q := by
  cases hI with
  | mk p mb c ms Gm hI hR h0 h6 hlim =>
  refine call_in1 32 rfl Tryz.func32 rfl rfl ?_
  repeat(refine ZX ?_;try intro _)
  refine rt_step rfl rfl rfl (st_call rfl rfl rfl rfl (valid47_ct h0 ?_))
  repeat(refine ZX ?_;try intro _)
  refine rt_r rfl rfl rfl (rd_mapLen rfl hm1 rfl) ?_
  rw [show (mkH ekP evW ms).length = ms.length by simp [mkH]]
  have hml : ms.length ≤ 1000 := by rw [hI.len]; exact hl
  obtain ⟨N, hN⟩ : ∃ N, ms.length = N := ⟨_, rfl⟩
  rw [hN] at hml ⊢
  refine rt_step rfl rfl rfl (st_makeZ (N := N) rfl rfl rfl rfl rfl (Nat.ble_eq_true_of_le (Nat.le_trans (Nat.mul_le_mul_left _ hml) (Nat.le_of_ble_eq_true (by kernel_rfl)))) (Nat.ble_eq_true_of_le (by omega)) rfl rfl fun b => ?_)
  repeat(refine ZX ?_;try intro _)
  refine rt_step rfl rfl rfl (st_range rfl hm2 rfl fun it => ?_)
  repeat(refine ZX ?_;try intro _)
  have hmsd : ms.Nodup := (List.pairwise_map.1 hI.born.nd).imp fun h e => h (by rw [e])
  have hjl : (List.replicate N (en60 zS)).flatten.length = N * 21 := by rw [← flz, flat_length en60_len, List.length_replicate]
  refine ct_midB (ι := List (Pk × Rw × Nat)) (fun vs => vs.Perm ms) (fun _ => [(3, .slice (some ⟨b, 0, none⟩) N N)]) (fun vs => (b, AObj.row ((vs.map (·.1.k)).flatMap en60) 21 false) :: (p, AObj.row [.int .i64 lim, .map (some mb)] 2 false) :: (mb, AObj.map (mkH ekP evW ms) c) :: (Gm ++ H)) ?_ ?_
  · refine loop_ind (ι := List (Pk × Rw × Nat) × Nat × List Value) ([], 0, (List.replicate N (en60 zS)).flatten) (fun j => ms.length - j.1.length) (fun j => j.1.Nodup ∧ (∀ q ∈ j.1, q ∈ ms) ∧ j.2.1 = j.1.length ∧ j.2.2.length = (N - j.2.1) * 21)
      (fun j => [(18, .pointer (some ⟨it, 0, none⟩)), (3, .slice (some ⟨b, 0, none⟩) j.2.1 N), (0, .pointer (some ⟨p, 0, none⟩))])
      (fun j => (it, .iter (some mb) c (j.1.map (·.2.2)) c) :: (b, AObj.row ((j.1.map (·.1.k)).flatMap en60 ++ j.2.2) 21 false) :: (p, AObj.row [.int .i64 lim, .map (some mb)] 2 false) :: (mb, AObj.map (mkH ekP evW ms) c) :: (Gm ++ H))
      ⟨List.nodup_nil, fun q h => (by cases h), rfl, by rw [hjl]; rfl⟩ (by repeat (first | exact SubL.nil | refine SubL.cons rfl ?_)) (List.Sublist.refl _) ?_
    rintro ⟨vs, cn, junk⟩ ⟨hnd, hsub, hcn, hju⟩
    dsimp only at hnd hsub hcn hju ⊢
    repeat(refine ZX ?_;try intro _)
    refine rt_step rfl rfl rfl (st_nextH rfl hm2 hI.born (fun hall => ?_) (fun q hq hnq => ?_))
    · have hperm : vs.Perm ms := by
        rw [List.perm_ext_iff_of_nodup hnd hmsd]
        refine fun q => ⟨hsub q, fun hq => ?_⟩
        obtain ⟨r, hr, e⟩ := List.mem_map.1 (hall q hq)
        exact (born_inj hI.born (hsub r hr) hq e) ▸ hr
      have hcN : cn = N := by rw [hcn, hperm.length_eq, hN]
      subst hcN
      have hj0 : junk = [] := List.eq_nil_of_length_eq_zero (by rw [hju]; omega)
      subst hj0
      rw [List.append_nil]
      repeat(refine ZX ?_;try intro _)
      exact ⟨vs, hperm, by repeat (first | exact SubL.nil | refine SubL.cons rfl ?_), by exact drop_auto⟩
    have hnd' : (vs ++ [q]).Nodup := List.nodup_append.2 ⟨hnd, by simp, fun a ha b hb e => by
      rw [List.mem_singleton.1 hb] at e
      exact hnq (by rw [← e]; exact List.mem_map_of_mem ha)⟩
    have hsub2 : ∀ r ∈ vs ++ [q], r ∈ ms := fun r hr => by
      rcases List.mem_append.1 hr with h | h
      · exact hsub r h
      · rw [List.mem_singleton.1 h]; exact hq
    have hlen := nd_lenM hnd' hsub2
    rw [List.length_append, List.length_singleton, hN] at hlen
    obtain ⟨k, x, bo⟩ := q
    dsimp only at hnq
    unfold ekP evW
    repeat(refine ZX ?_;try intro _)
    refine rt_r rfl rfl rfl (rd_entryH (ek := ekP) (ev := evW) (vs := vs.map (·.2.2)) (p := (k, x, bo)) rfl hm0 hm3 hI.born hq) ?_
    dsimp only
    unfold ekP evW enP enW enR
    repeat(refine ZX ?_;try intro _)
    rename_i b4 bs
    have hLl : (vs.map (·.1.k)).length = cn := by rw [List.length_map, hcn]
    refine rt_step rfl rfl rfl (st_appF (a := k.k) (L := vs.map (·.1.k)) (pre := [_, _, _]) en60_len en60_one (by rw [hLl]; rfl) rfl (ap rfl) (arrW_one en60_len hm0) (Nat.le_trans (Nat.mul_le_mul_right _ (show 2 * ((vs.map (·.1.k)).length + 1) + 192 ≤ 6000 by rw [hLl]; omega)) (by decide)) (by unfold EL; omega) (by rw [hLl]; omega) (by rw [hju]; omega) ?_)
    rw [hLl]
    repeat(refine ZX ?_;try intro _)
    refine ⟨(vs ++ [(k, x, bo)], cn + 1, junk.drop 21), ⟨hnd', hsub2, ?_, ?_⟩, ?_, by repeat (first | exact SubL.nil | refine SubL.cons rfl ?_), ?_⟩
    · dsimp only; rw [List.length_append, List.length_singleton, hcn]
    · dsimp only; rw [List.length_drop, hju]; omega
    · dsimp only; rw [List.length_append, List.length_singleton]; omega
    · dsimp only
      rw [List.map_append, List.map_append]
      exact drop_auto
  intro vs hperm
  have hks : (vs.map (·.1.k)).length = N := by rw [List.length_map, hperm.length_eq, hN]
  have ho : Own en60 21 (vs.map (·.1.k)) (.slice (some ⟨b, 0, none⟩) N N) [(b, .row ((vs.map (·.1.k)).flatMap en60) 21 false)] := by
    have := Own.fix (en := en60) (k := 21) (vs.map (·.1.k)) b 21 (by unfold EL; omega)
    rwa [hks] at this
  repeat(refine ZX ?_;try intro _)
  refine rt_step rfl rfl rfl (st_call rfl rfl rfl rfl (CallT.fuel (n := (n + 1002 - (vs.map (·.1.k)).length) + (vs.map (·.1.k)).length + 17) (sortFS_ct (Hs := [_]) keysCmp ho (fun k hk => by
    obtain ⟨q, hq, rfl⟩ := List.mem_map.1 hk
    exact (hI.okp (hperm.mem_iff.1 hq)).1) (by omega) fun w ks G2 o2 p2 s2 => ?_) (by omega)))
  have hpk : ks.Perm (M.map fun r => keyS r.n) := by
    have e : ms.map (·.1.k) = (ms.map (·.2.1.r)).map fun r => keyS r.n := by
      rw [List.map_map]
      exact List.map_congr_left fun q hq => by
        have := (hI.mem hq).2
        rw [← this]
        rfl
    exact (p2.trans (hperm.map _)).trans (by rw [e]; exact hI.perm.map _)
  have hks2 : ks = M.map fun r => keyS r.n := by
    have hok : ∀ k ∈ M.map (fun r => keyS r.n), okS k := fun k hk => by
      obtain ⟨r, hr, rfl⟩ := List.mem_map.1 hk
      exact (hI.val r hr).pl.1
    exact srt_unique hpk (fun x hx y hy e => rkS_inj (hok x (hpk.mem_iff.1 hx)) (hok y (hpk.mem_iff.1 hy)) e) s2 (srtR_keys hI.srt hI.val)
  subst hks2
  repeat(refine ZX ?_;try intro _)
  refine rt_step rfl rfl rfl (st_call rfl rfl rfl rfl (compact67_ct o2 (by unfold EL; omega) (by omega) fun w2 G3 hG3 => ?_))
  repeat(refine ZX ?_;try intro _)
  exact re_1 rfl rfl (by exact drop_auto) (hQ w2 G3 hG3)
end
end Go.Proofs.YtphadapcafibpaaGreat.Abs

/- RibOrder: plain facts, and the parts of its loop. -/
namespace Go.Proofs.YtphadapcafibpaaGreat.Abs
open Go
set_option linter.unusedVariables false
theorem Rib.ok2 {C : Ctx} {lim : Int} {M : List Rt} {v : Value} {Hs : Hp} (h : Rib C lim M v Hs) : SrtR M ∧ ∀ x ∈ M, okR x := by cases h with | mk p mb c ms Gm hI hR h0 h6 hl => exact ⟨hI.srt, hI.val⟩
theorem SrtR.next {M : List Rt} (h : SrtR M) : ∀ {i : Nat} {x y : Rt}, M[i]? = some x → M[i + 1]? = some y → rkR x < rkR y := by
  induction M with
  | nil => intro i x y hx; simp at hx
  | cons a l ih =>
    obtain ⟨h1, h2⟩ := SrtR.cons.1 h
    intro i x y hx hy
    cases i with
    | zero =>
      cases hx
      exact h1 y (List.mem_of_getElem? (by simpa using hy))
    | succ i => exact ih h2 (by simpa using hx) (by simpa using hy)
theorem rk_ord {x y : Rt} (hx : okP (plc x)) (hy : okP (plc y)) (h : rkR x < rkR y) : ¬ nlC x.n y.n > 0 ∧ (nlC x.n y.n = 0 → ¬ x.peer ≥ y.peer) := by
  have h1 := (rkP_lt hx hy).2 h
  have e : nlC (plc x).k (plc y).k = nlC x.n y.n := nlC_key x.n y.n
  rw [e] at h1
  split at h1
  · rename_i h2
    refine ⟨by omega, fun _ => ?_⟩
    have h3 : sgn x.peer y.peer < 0 := h1
    unfold sgn at h3
    split at h3
    · omega
    · split at h3 <;> omega
  · rename_i h2
    exact ⟨by omega, fun h => absurd h h2⟩
theorem dd_last : ∀ (l : List S60) (y : S60), (dd (l ++ [y])).getLast? = some y
  | [], y => rfl
  | [a], y => by
    show (dd [a, y]).getLast? = some y
    unfold dd
    split <;> simp [dd]
  | a :: b :: l, y => by
    have ih := dd_last (b :: l) y
    simp only [List.cons_append] at ih ⊢
    unfold dd
    split
    · exact ih
    · rw [List.getLast?_cons, ih]; rfl
theorem dd_next {K : List S60} {i : Nat} {k : S60} (hk : K[i]? = some k) : dd (K.take (i + 1)) = if (dd (K.take i)).getLast? = some k then dd (K.take i) else dd (K.take i) ++ [k] := by
  cases i with
  | zero =>
    rw [List.take_add_one, hk]
    show dd [k] = if (dd []).getLast? = some k then _ else _
    rw [if_neg (by simp [dd])]
    simp [dd]
  | succ i =>
    obtain ⟨y, hy⟩ : ∃ y, K[i]? = some y := ⟨_, List.getElem?_eq_getElem (by have := (List.getElem?_eq_some_iff.1 hk).1; omega)⟩
    have e1 : K.take (i + 1) = K.take i ++ [y] := by rw [List.take_add_one, hy]; rfl
    rw [take_two hy hk, e1, dd_last]
    by_cases h : k = y
    · subst h; simp
    · rw [if_neg h, if_neg fun e => h (Option.some.inj e).symm]
section
variable {C : Ctx} {H : Hp} {b o : Nat} {L : List Rw} {j : Nat} {x : Rw}
/-- The parts of an element of a list of routes. -/
theorem Arr.rt (h : Arr C H (some ⟨b, o, none⟩) 38 enW L) (hx : L[j]? = some x) (hg1 : aggAt C 43 = some true) (hn1 : sizeAt C 43 = some 21) (hg2 : aggAt C 39 = some false) (hn2 : sizeAt C 39 = some 1) (hg3 : aggAt C 52 = some true) (hn3 : sizeAt C 52 = some 38) :
    (∀ H', H.Sublist H' → ∀ {off : Nat} (h : off = o + j * 38 := by omega), LdT C 43 H' b off (.agg ⟨en60 x.r.n⟩)) ∧ (∀ H', H.Sublist H' → ∀ {off : Nat} (h : off = o + j * 38 + 36 := by omega), LdT C 39 H' b off (.int .u32 x.r.peer)) ∧
    (∀ H', H.Sublist H' → ∀ {off : Nat} (h : off = o + j * 38 := by omega), LdT C 52 H' b off (.agg ⟨enW x⟩)) := by
  obtain ⟨b1, o1, cs1, e1, hrow, hcut⟩ := h.els j x hx
  cases e1
  refine ⟨fun H' hs off h => ?_, fun H' hs off h => ?_, fun H' hs off h => ?_⟩
  · rw [h]; exact ldP (hrow.weak hs) hg1 hn1 (cut_part (f := 0) hcut rfl (by decide))
  · rw [h]
    have h3 := cut_part (f := 36) hcut (q := [.int .u32 x.r.peer]) (m := 1) rfl (by decide)
    exact Abs.ld1 (hrow.weak hs) hg2 hn2 (cut_one h3)
  · rw [h]; exact ldP (hrow.weak hs) hg3 hn3 hcut
end
end Go.Proofs.YtphadapcafibpaaGreat.Abs
