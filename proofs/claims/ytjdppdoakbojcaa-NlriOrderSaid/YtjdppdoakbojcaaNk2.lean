/- Contracts: comparisons of identifiers. -/
import Derived.Test.YtjdppdoakbojcaaNk1
import Derived.Test.YtjdppdoakbojcaaSep15
namespace Go.Proofs.Ytjdppdoakbojcaa.Abs
open Go
set_option linter.unusedVariables false
abbrev vY (x : Int) : Value := .int .u8 x
theorem lx_at {E F : List Int} {i : Nat} {x y : Int} (hx : E[i]? = some x) (hy : F[i]? = some y) : lx (E.drop i) (F.drop i) = if sgn x y = 0 then lx (E.drop (i + 1)) (F.drop (i + 1)) else sgn x y := by
  obtain ⟨h1, h2⟩ := List.getElem?_eq_some_iff.1 hx
  obtain ⟨h3, h4⟩ := List.getElem?_eq_some_iff.1 hy
  rw [List.drop_eq_getElem_cons h1, List.drop_eq_getElem_cons h3, h2, h4, lx]
theorem map_at {E : List Int} {i : Nat} {x : Int} (hx : E[i]? = some x) : (E.map vY)[i]? = some (vY x) := by rw [List.getElem?_map, hx]; rfl
theorem ten {E : List Int} (h : E.length = 10) : ∃ a b c d e f g i j k, E = [a, b, c, d, e, f, g, i, j, k] := by
  match E, h with
  | [a, b, c, d, e, f, g, i, j, k], _ => exact ⟨a, b, c, d, e, f, g, i, j, k, rfl⟩
/-- What is left of a round that may leave the loop. -/
def RndE (Lp : Nat) (fr : Fr) (ps : List Nat) (A B : Code) (St : Hp → Prop) (SR : AX → Hp → Prop) (v : Value) (H' : Hp) : Prop :=
  (v = .bool true ∧ ∃ R, St R ∧ ((Lp, .loop 0 none fr ps A B) :: R).Sublist H') ∨ (v = .bool false ∧ ∃ e R, SR e R ∧ ((Lp, .loop 2 (some e) fr ps A B) :: R).Sublist H')
section
variable {B0 : Nat} {old : Nat → Option (List Value)} {n : Nat} {H : Hp} {Q : Value → Hp → Prop} {E F : List Int} {ad : Option Addr} {c : Nat}
set_option maxRecDepth 10000
set_option maxHeartbeats 4000000
theorem octets109_ct (hE : E.length = 10) (hk : ∀ b2, Q (.func (.func 136) #[] #[.pointer (some ⟨b2, 0, none⟩)]) ((b2, .row (E.map vY) 10 false) :: H)) :
    CallT (cx B0 old) (acall (cx B0 old) ansP (n + 1)) 109 [.agg ⟨E.map vY⟩] H Q := by
  obtain ⟨e0, e1, e2, e3, e4, e5, e6, e7, e8, e9, rfl⟩ := ten hE
  refine call_in1 4 rfl Try.func109 rfl rfl ?_
  simp only [List.map_cons, List.map_nil] at hk ⊢
  repeat (first | (first | refine rt_nil ?_ | (refine isRun ?_; first | refine x1 ?_ | refine x2 ?_ | refine x3 fun _ => ?_ | refine x4 fun _ => ?_ | refine x5 fun _ => ?_ | (refine rt_step rfl rfl rfl ?_; first | refine st_buildSlice rfl (zr rfl) rfl rfl rfl rfl rfl rfl fun _ => ?_ | refine st_A rfl rfl (fun _ => rfl) rfl fun _ => ?_) | refine x8 ?_ | refine rt_skip rfl rfl rfl ?_ | refine rt_skip0 rfl rfl ?_)) | (first | refine sq_n ?_ | refine sq_r ?_ | refine sq_e ?_ | refine bk_n ?_ | refine bk_r ?_ | refine bk_e rfl ?_ | refine bk_x rfl ?_ | refine ct_seq ?_ | refine ct_region rfl ?_ | refine ct_skip ?_ | refine ct_label ?_ | refine ct_block ?_ | refine ct_exit ?_ | refine ct_ret ?_ | refine ct_scope ?_ | refine ct_true rfl ?_ | refine ct_false rfl ?_ | refine lt_step ?_))
  exact re_1 rfl rfl (by exact drop_auto) (hk _)
theorem oct136_ct (b2 Lp nt : Nat) (lf : Sl) (fr : Fr) (ps : List Nat) (A B : Code) (St : Nat → Hp → Prop) (SR : AX → Hp → Prop) (R0 : Hp) (hps : ps.length = 2) (hfr : FrHas nt lf fr) (hE : E.length = 10)
    (hst : ∀ i R, St i R → (b2, AObj.row (E.map vY) 10 false) ∈ R) (h0 : St 0 R0)
    (hround : ∀ (i : Nat) R q x, E[i]? = some x → St i R → CodeT (cx B0 old) (ahand (cx B0 old) ansP n) true nt A (parL nt ps [.int .i64 (i : Int), .int .u8 x] lf) ((Lp, .loop 0 q fr ps A B) :: R) fun e l2 H2 => match e with
      | .normal => ∃ q' H3, H2.Perm ((Lp, .loop 0 q' fr ps A B) :: H3) ∧ CodeT (cx B0 old) (ahand (cx B0 old) ansP n) true nt B l2 ((Lp, .loop 1 q' fr ps A B) :: H3) fun e l3 H4 => rndΦ Lp fr ps A B (RndE Lp fr ps A B (St (i + 1)) SR) e H4
      | _ => False)
    (hQ : ∀ R v, St 10 R → Q v ((Lp, .loop 0 none fr ps A B) :: R)) (hQr : ∀ e R v, SR e R → Q v ((Lp, .loop 2 (some e) fr ps A B) :: R)) :
    CallT (cx B0 old) (acall (cx B0 old) ansP (n + 2)) 136 [.func (.yield Lp) #[] #[], .pointer (some ⟨b2, 0, none⟩)] ((Lp, .loop 0 none fr ps A B) :: R0) Q := by
  obtain ⟨e0, e1, e2, e3, e4, e5, e6, e7, e8, e9, rfl⟩ := ten hE
  refine call_in2 16 rfl Try.func136 rfl rfl ?_
  have hget : ∀ (i : Nat) x, [e0, e1, e2, e3, e4, e5, e6, e7, e8, e9][i]? = some x → [vY e0, vY e1, vY e2, vY e3, vY e4, vY e5, vY e6, vY e7, vY e8, vY e9][(i : Int).toNat * 1]? = some (vY x) := fun i x h => by
    rw [Int.toNat_natCast, Nat.mul_one]; exact map_at h
  simp only [List.map_cons, List.map_nil] at hst
  have hm := hst 0 R0 h0
  have hL0 : ∀ H', R0.Sublist H' → LdT (cx B0 old) 56 H' b2 0 (.agg ⟨[vY e0, vY e1, vY e2, vY e3, vY e4, vY e5, vY e6, vY e7, vY e8, vY e9]⟩) := fun H' hs => ldW (.own _ _ (hs.subset hm)) rfl (sz rfl) rfl
  repeat (first | (first | refine rt_nil ?_ | (refine isRun ?_; first | refine x1 ?_ | refine x2 ?_ | refine x3 fun _ => ?_ | refine x4 fun _ => ?_ | refine x5 fun _ => ?_ | (refine rt_step rfl rfl rfl ?_; first | refine st_buildSlice rfl (zr rfl) rfl rfl rfl rfl rfl rfl fun _ => ?_ | refine st_A rfl rfl (fun _ => rfl) rfl fun _ => ?_) | refine x8 ?_ | refine rt_skip rfl rfl rfl ?_ | refine rt_skip0 rfl rfl ?_)) | (first | refine sq_n ?_ | refine sq_r ?_ | refine sq_e ?_ | refine bk_n ?_ | refine bk_r ?_ | refine bk_e rfl ?_ | refine bk_x rfl ?_ | refine ct_seq ?_ | refine ct_region rfl ?_ | refine ct_skip ?_ | refine ct_label ?_ | refine ct_block ?_ | refine ct_exit ?_ | refine ct_ret ?_ | refine ct_scope ?_ | refine ct_true rfl ?_ | refine ct_false rfl ?_ | refine lt_step ?_))
  refine loop_ind (ι := Nat × Hp) (0, R0) (fun i => 10 - i.1) (fun i => i.1 ≤ 10 ∧ St i.1 i.2)
    (fun i => [(6, .int .i64 (i.1 : Int)), (5, .agg ⟨[vY e0, vY e1, vY e2, vY e3, vY e4, vY e5, vY e6, vY e7, vY e8, vY e9]⟩), (0, .func (.yield Lp) #[] #[]), (1, .pointer (some ⟨b2, 0, none⟩))])
    (fun i => (Lp, .loop 0 none fr ps A B) :: i.2) ⟨Nat.zero_le _, h0⟩ (by repeat (first | exact SubL.nil | refine SubL.cons rfl ?_)) (by exact drop_auto) ?_
  rintro ⟨i, R⟩ ⟨hi, hs⟩
  simp only at hi hs ⊢
  repeat (first | (first | refine rt_nil ?_ | (refine isRun ?_; first | refine x1 ?_ | refine x2 ?_ | refine x3 fun _ => ?_ | refine x4 fun _ => ?_ | refine x5 fun _ => ?_ | (refine rt_step rfl rfl rfl ?_; first | refine st_buildSlice rfl (zr rfl) rfl rfl rfl rfl rfl rfl fun _ => ?_ | refine st_A rfl rfl (fun _ => rfl) rfl fun _ => ?_) | refine x8 ?_ | refine rt_skip rfl rfl rfl ?_ | refine rt_skip0 rfl rfl ?_)) | (first | refine sq_n ?_ | refine sq_r ?_ | refine sq_e ?_ | refine bk_n ?_ | refine bk_r ?_ | refine bk_e rfl ?_ | refine bk_x rfl ?_ | refine ct_seq ?_ | refine ct_region rfl ?_ | refine ct_skip ?_ | refine ct_label ?_ | refine ct_block ?_ | refine ct_exit ?_ | refine ct_ret ?_ | refine ct_scope ?_ | refine ct_true rfl ?_ | refine ct_false rfl ?_ | refine lt_step ?_))
  refine ct_condT te_d rfl (fun hc => ?_) (fun hc => ?_)
  rotate_left
  · have : i = 10 := by omega
    subst this
    repeat (first | (first | refine rt_nil ?_ | (refine isRun ?_; first | refine x1 ?_ | refine x2 ?_ | refine x3 fun _ => ?_ | refine x4 fun _ => ?_ | refine x5 fun _ => ?_ | (refine rt_step rfl rfl rfl ?_; first | refine st_buildSlice rfl (zr rfl) rfl rfl rfl rfl rfl rfl fun _ => ?_ | refine st_A rfl rfl (fun _ => rfl) rfl fun _ => ?_) | refine x8 ?_ | refine rt_skip rfl rfl rfl ?_ | refine rt_skip0 rfl rfl ?_)) | (first | refine sq_n ?_ | refine sq_r ?_ | refine sq_e ?_ | refine bk_n ?_ | refine bk_r ?_ | refine bk_e rfl ?_ | refine bk_x rfl ?_ | refine ct_seq ?_ | refine ct_region rfl ?_ | refine ct_skip ?_ | refine ct_label ?_ | refine ct_block ?_ | refine ct_exit ?_ | refine ct_ret ?_ | refine ct_scope ?_ | refine ct_true rfl ?_ | refine ct_false rfl ?_ | refine lt_step ?_))
    exact re_0 rfl (by exact drop_auto) (fun v => hQ R v hs)
  have hlt : i < 10 := by omega
  obtain ⟨x, hx⟩ : ∃ x, [e0, e1, e2, e3, e4, e5, e6, e7, e8, e9][i]? = some x := ⟨_, List.getElem?_eq_getElem hlt⟩
  have hg := hget i x hx
  repeat (first | (first | refine rt_nil ?_ | (refine isRun ?_; first | refine x1 ?_ | refine x2 ?_ | refine x3 fun _ => ?_ | refine x4 fun _ => ?_ | refine x5 fun _ => ?_ | (refine rt_step rfl rfl rfl ?_; first | refine st_buildSlice rfl (zr rfl) rfl rfl rfl rfl rfl rfl fun _ => ?_ | refine st_A rfl rfl (fun _ => rfl) rfl fun _ => ?_) | refine x8 ?_ | refine rt_skip rfl rfl rfl ?_ | refine rt_skip0 rfl rfl ?_)) | (first | refine sq_n ?_ | refine sq_r ?_ | refine sq_e ?_ | refine bk_n ?_ | refine bk_r ?_ | refine bk_e rfl ?_ | refine bk_x rfl ?_ | refine ct_seq ?_ | refine ct_region rfl ?_ | refine ct_skip ?_ | refine ct_label ?_ | refine ct_block ?_ | refine ct_exit ?_ | refine ct_ret ?_ | refine ct_scope ?_ | refine ct_true rfl ?_ | refine ct_false rfl ?_ | refine lt_step ?_))
  apply rt_p rfl rfl rfl
  case hp => exact p_index rfl rfl rfl rfl (sz rfl) (by omega) (by omega) hg
  repeat (first | (first | refine rt_nil ?_ | (refine isRun ?_; first | refine x1 ?_ | refine x2 ?_ | refine x3 fun _ => ?_ | refine x4 fun _ => ?_ | refine x5 fun _ => ?_ | (refine rt_step rfl rfl rfl ?_; first | refine st_buildSlice rfl (zr rfl) rfl rfl rfl rfl rfl rfl fun _ => ?_ | refine st_A rfl rfl (fun _ => rfl) rfl fun _ => ?_) | refine x8 ?_ | refine rt_skip rfl rfl rfl ?_ | refine rt_skip0 rfl rfl ?_)) | (first | refine sq_n ?_ | refine sq_r ?_ | refine sq_e ?_ | refine bk_n ?_ | refine bk_r ?_ | refine bk_e rfl ?_ | refine bk_x rfl ?_ | refine ct_seq ?_ | refine ct_region rfl ?_ | refine ct_skip ?_ | refine ct_label ?_ | refine ct_block ?_ | refine ct_exit ?_ | refine ct_ret ?_ | refine ct_scope ?_ | refine ct_true rfl ?_ | refine ct_false rfl ?_ | refine lt_step ?_))
  refine rt_step rfl rfl rfl (st_yield (q := none) rfl rfl rfl (by rw [hps]; rfl) (List.Perm.refl _) hfr ((hround i R none x hx hs).mono ?_))
  intro e l2 H2 h
  cases e with
  | exit j => exact h
  | ret => exact h
  | normal =>
    obtain ⟨q', H3, hp, h⟩ := h
    refine ⟨q', H3, hp, h.mono fun e l3 H4 h => ?_⟩
    obtain ⟨st, q2, H5, hp2, h⟩ := h
    refine ⟨st, q2, H5, hp2, ?_⟩
    cases e with
    | normal =>
      rcases h with ⟨_, R', hs', hsub⟩ | ⟨hf, _⟩
      · repeat (first | (first | refine rt_nil ?_ | (refine isRun ?_; first | refine x1 ?_ | refine x2 ?_ | refine x3 fun _ => ?_ | refine x4 fun _ => ?_ | refine x5 fun _ => ?_ | (refine rt_step rfl rfl rfl ?_; first | refine st_buildSlice rfl (zr rfl) rfl rfl rfl rfl rfl rfl fun _ => ?_ | refine st_A rfl rfl (fun _ => rfl) rfl fun _ => ?_) | refine x8 ?_ | refine rt_skip rfl rfl rfl ?_ | refine rt_skip0 rfl rfl ?_)) | (first | refine sq_n ?_ | refine sq_r ?_ | refine sq_e ?_ | refine bk_n ?_ | refine bk_r ?_ | refine bk_e rfl ?_ | refine bk_x rfl ?_ | refine ct_seq ?_ | refine ct_region rfl ?_ | refine ct_skip ?_ | refine ct_label ?_ | refine ct_block ?_ | refine ct_exit ?_ | refine ct_ret ?_ | refine ct_scope ?_ | refine ct_true rfl ?_ | refine ct_false rfl ?_ | refine lt_step ?_))
        exact ⟨(i + 1, R'), ⟨by omega, hs'⟩, by dsimp only; omega, by repeat (first | exact SubL.nil | refine SubL.cons rfl ?_), hsub⟩
      · cases hf
    | exit j =>
      rcases h with ⟨hf, _⟩ | ⟨_, e2, R', hs', hsub⟩
      · cases hf
      · repeat (first | (first | refine rt_nil ?_ | (refine isRun ?_; first | refine x1 ?_ | refine x2 ?_ | refine x3 fun _ => ?_ | refine x4 fun _ => ?_ | refine x5 fun _ => ?_ | (refine rt_step rfl rfl rfl ?_; first | refine st_buildSlice rfl (zr rfl) rfl rfl rfl rfl rfl rfl fun _ => ?_ | refine st_A rfl rfl (fun _ => rfl) rfl fun _ => ?_) | refine x8 ?_ | refine rt_skip rfl rfl rfl ?_ | refine rt_skip0 rfl rfl ?_)) | (first | refine sq_n ?_ | refine sq_r ?_ | refine sq_e ?_ | refine bk_n ?_ | refine bk_r ?_ | refine bk_e rfl ?_ | refine bk_x rfl ?_ | refine ct_seq ?_ | refine ct_region rfl ?_ | refine ct_skip ?_ | refine ct_label ?_ | refine ct_block ?_ | refine ct_exit ?_ | refine ct_ret ?_ | refine ct_scope ?_ | refine ct_true rfl ?_ | refine ct_false rfl ?_ | refine lt_step ?_))
        exact re_0r rfl hsub (fun v => hQr _ R' v hs')
    | ret =>
      rcases h with ⟨hf, _⟩ | ⟨_, e2, R', hs', hsub⟩
      · cases hf
      · repeat (first | (first | refine rt_nil ?_ | (refine isRun ?_; first | refine x1 ?_ | refine x2 ?_ | refine x3 fun _ => ?_ | refine x4 fun _ => ?_ | refine x5 fun _ => ?_ | (refine rt_step rfl rfl rfl ?_; first | refine st_buildSlice rfl (zr rfl) rfl rfl rfl rfl rfl rfl fun _ => ?_ | refine st_A rfl rfl (fun _ => rfl) rfl fun _ => ?_) | refine x8 ?_ | refine rt_skip rfl rfl rfl ?_ | refine rt_skip0 rfl rfl ?_)) | (first | refine sq_n ?_ | refine sq_r ?_ | refine sq_e ?_ | refine bk_n ?_ | refine bk_r ?_ | refine bk_e rfl ?_ | refine bk_x rfl ?_ | refine ct_seq ?_ | refine ct_region rfl ?_ | refine ct_skip ?_ | refine ct_label ?_ | refine ct_block ?_ | refine ct_exit ?_ | refine ct_ret ?_ | refine ct_scope ?_ | refine ct_true rfl ?_ | refine ct_false rfl ?_ | refine lt_step ?_))
        exact re_0r rfl hsub (fun v => hQr _ R' v hs')
theorem esi75_ct (hE : E.length = 10) (hF : F.length = 10) (hQ : Q (.int .i64 (lx E F)) H) : CallT (cx B0 old) (acall (cx B0 old) ansP (n + 5)) 75 [.agg ⟨E.map vY⟩, .agg ⟨F.map vY⟩] H Q := by
  have hE' := hE
  have hF' := hF
  obtain ⟨e0, e1, e2, e3, e4, e5, e6, e7, e8, e9, eE⟩ := ten hE
  obtain ⟨f0, f1, f2, f3, f4, f5, f6, f7, f8, f9, eF⟩ := ten hF
  have oc : ∀ {H1 : Hp} {Θ : Value → Hp → Prop}, (∀ b2, Θ (.func (.func 136) #[] #[.pointer (some ⟨b2, 0, none⟩)]) ((b2, .row (E.map vY) 10 false) :: H1)) → CallT (cx B0 old) (acall (cx B0 old) ansP (n + 4)) 109 [.agg ⟨E.map vY⟩] H1 Θ := fun h => octets109_ct hE h
  have mE : E.map vY = [vY e0, vY e1, vY e2, vY e3, vY e4, vY e5, vY e6, vY e7, vY e8, vY e9] := by rw [eE]; rfl
  have mF : F.map vY = [vY f0, vY f1, vY f2, vY f3, vY f4, vY f5, vY f6, vY f7, vY f8, vY f9] := by rw [eF]; rfl
  rw [mE] at oc
  rw [mE, mF]
  refine call_inM 20 rfl Try.func75 rfl rfl ?_
  refine cm_seq (cm_code ?_)
  repeat (first | (first | refine rt_nil ?_ | (refine isRun ?_; first | refine x1 ?_ | refine x2 ?_ | refine x3 fun _ => ?_ | refine x4 fun _ => ?_ | refine x5 fun _ => ?_ | (refine rt_step rfl rfl rfl ?_; first | refine st_buildSlice rfl (zr rfl) rfl rfl rfl rfl rfl rfl fun _ => ?_ | refine st_A rfl rfl (fun _ => rfl) rfl fun _ => ?_) | refine x8 ?_ | refine rt_skip rfl rfl rfl ?_ | refine rt_skip0 rfl rfl ?_)) | (first | refine sq_n ?_ | refine sq_r ?_ | refine sq_e ?_ | refine bk_n ?_ | refine bk_r ?_ | refine bk_e rfl ?_ | refine bk_x rfl ?_ | refine ct_seq ?_ | refine ct_region rfl ?_ | refine ct_skip ?_ | refine ct_label ?_ | refine ct_block ?_ | refine ct_exit ?_ | refine ct_ret ?_ | refine ct_scope ?_ | refine ct_true rfl ?_ | refine ct_false rfl ?_ | refine lt_step ?_))
  rename_i c2 c3 c4
  refine cm_seq (cm_seq (cm_code ?_))
  repeat (first | (first | refine rt_nil ?_ | (refine isRun ?_; first | refine x1 ?_ | refine x2 ?_ | refine x3 fun _ => ?_ | refine x4 fun _ => ?_ | refine x5 fun _ => ?_ | (refine rt_step rfl rfl rfl ?_; first | refine st_buildSlice rfl (zr rfl) rfl rfl rfl rfl rfl rfl fun _ => ?_ | refine st_A rfl rfl (fun _ => rfl) rfl fun _ => ?_) | refine x8 ?_ | refine rt_skip rfl rfl rfl ?_ | refine rt_skip0 rfl rfl ?_)) | (first | refine sq_n ?_ | refine sq_r ?_ | refine sq_e ?_ | refine bk_n ?_ | refine bk_r ?_ | refine bk_e rfl ?_ | refine bk_x rfl ?_ | refine ct_seq ?_ | refine ct_region rfl ?_ | refine ct_skip ?_ | refine ct_label ?_ | refine ct_block ?_ | refine ct_exit ?_ | refine ct_ret ?_ | refine ct_scope ?_ | refine ct_true rfl ?_ | refine ct_false rfl ?_ | refine lt_step ?_))
  refine rt_step rfl rfl rfl (st_call rfl rfl rfl rfl (oc fun b2 => ?_))
  repeat (first | (first | refine rt_nil ?_ | (refine isRun ?_; first | refine x1 ?_ | refine x2 ?_ | refine x3 fun _ => ?_ | refine x4 fun _ => ?_ | refine x5 fun _ => ?_ | (refine rt_step rfl rfl rfl ?_; first | refine st_buildSlice rfl (zr rfl) rfl rfl rfl rfl rfl rfl fun _ => ?_ | refine st_A rfl rfl (fun _ => rfl) rfl fun _ => ?_) | refine x8 ?_ | refine rt_skip rfl rfl rfl ?_ | refine rt_skip0 rfl rfl ?_)) | (first | refine sq_n ?_ | refine sq_r ?_ | refine sq_e ?_ | refine bk_n ?_ | refine bk_r ?_ | refine bk_e rfl ?_ | refine bk_x rfl ?_ | refine ct_seq ?_ | refine ct_region rfl ?_ | refine ct_skip ?_ | refine ct_label ?_ | refine ct_block ?_ | refine ct_exit ?_ | refine ct_ret ?_ | refine ct_scope ?_ | refine ct_true rfl ?_ | refine ct_false rfl ?_ | refine lt_step ?_))
  refine cm_block (cm_range rfl rfl ?_)
  intro m fr hfr
  refine oct136_ct (n := n + 2) (E := E) b2 (m + 1) 20 _ fr _ _ _ (fun i R => lx (E.drop i) (F.drop i) = lx E F ∧ R = (m, .dblk) :: (b2, .row [vY e0, vY e1, vY e2, vY e3, vY e4, vY e5, vY e6, vY e7, vY e8, vY e9] 10 false) :: (c4, .row [.int .i64 0] 1 false) :: (c3, .row [vY f0, vY f1, vY f2, vY f3, vY f4, vY f5, vY f6, vY f7, vY f8, vY f9] 10 false) :: (c2, .row [vY e0, vY e1, vY e2, vY e3, vY e4, vY e5, vY e6, vY e7, vY e8, vY e9] 10 false) :: H)
    (fun e R => e = .ret ∧ R = (m, .dblk) :: (c4, .row [.int .i64 (lx E F)] 1 false) :: H) _ rfl hfr hE ?_ ⟨rfl, rfl⟩ ?_ ?_ ?_
  · rintro i R ⟨_, rfl⟩
    rw [mE]
    exact in_auto
  · rintro i R q x hx ⟨hi, rfl⟩
    have hlt : i < 10 := by rw [← hE]; exact (List.getElem?_eq_some_iff.1 hx).1
    obtain ⟨y, hy⟩ : ∃ y, F[i]? = some y := ⟨_, List.getElem?_eq_getElem (by rw [hF]; exact hlt)⟩
    rw [lx_at hx hy] at hi
    have hL0 : ∀ H', ((c3, AObj.row [vY f0, vY f1, vY f2, vY f3, vY f4, vY f5, vY f6, vY f7, vY f8, vY f9] 10 false) :: H).Sublist H' → LdT (cx B0 old) 5 H' c3 (0 + (i : Int).toNat * 1) (.int .u8 y) := fun H' hs => ld1 (.own _ _ (hs.subset (List.Mem.head _))) rfl (sz rfl) (by
      rw [Nat.zero_add, Int.toNat_natCast, Nat.mul_one, ← mF]; exact map_at hy)
    repeat (first | (first | refine rt_nil ?_ | (refine isRun ?_; first | refine x1 ?_ | refine x2 ?_ | refine x3 fun _ => ?_ | refine x4 fun _ => ?_ | refine x5 fun _ => ?_ | (refine rt_step rfl rfl rfl ?_; first | refine st_buildSlice rfl (zr rfl) rfl rfl rfl rfl rfl rfl fun _ => ?_ | refine st_A rfl rfl (fun _ => rfl) rfl fun _ => ?_) | refine x8 ?_ | refine rt_skip rfl rfl rfl ?_ | refine rt_skip0 rfl rfl ?_)) | (first | refine sq_n ?_ | refine sq_r ?_ | refine sq_e ?_ | refine bk_n ?_ | refine bk_r ?_ | refine bk_e rfl ?_ | refine bk_x rfl ?_ | refine ct_seq ?_ | refine ct_region rfl ?_ | refine ct_skip ?_ | refine ct_label ?_ | refine ct_block ?_ | refine ct_exit ?_ | refine ct_ret ?_ | refine ct_scope ?_ | refine ct_true rfl ?_ | refine ct_false rfl ?_ | refine lt_step ?_))
    refine ⟨q, _, List.Perm.refl _, ?_⟩
    repeat (first | (first | refine rt_nil ?_ | (refine isRun ?_; first | refine x1 ?_ | refine x2 ?_ | refine x3 fun _ => ?_ | refine x4 fun _ => ?_ | refine x5 fun _ => ?_ | (refine rt_step rfl rfl rfl ?_; first | refine st_buildSlice rfl (zr rfl) rfl rfl rfl rfl rfl rfl fun _ => ?_ | refine st_A rfl rfl (fun _ => rfl) rfl fun _ => ?_) | refine x8 ?_ | refine rt_skip rfl rfl rfl ?_ | refine rt_skip0 rfl rfl ?_)) | (first | refine sq_n ?_ | refine sq_r ?_ | refine sq_e ?_ | refine bk_n ?_ | refine bk_r ?_ | refine bk_e rfl ?_ | refine bk_x rfl ?_ | refine ct_seq ?_ | refine ct_region rfl ?_ | refine ct_skip ?_ | refine ct_label ?_ | refine ct_block ?_ | refine ct_exit ?_ | refine ct_ret ?_ | refine ct_scope ?_ | refine ct_true rfl ?_ | refine ct_false rfl ?_ | refine lt_step ?_))
    refine rt_step rfl rfl rfl (st_call rfl rfl rfl rfl (cmp110_ct x y ?_))
    repeat (first | (first | refine rt_nil ?_ | (refine isRun ?_; first | refine x1 ?_ | refine x2 ?_ | refine x3 fun _ => ?_ | refine x4 fun _ => ?_ | refine x5 fun _ => ?_ | (refine rt_step rfl rfl rfl ?_; first | refine st_buildSlice rfl (zr rfl) rfl rfl rfl rfl rfl rfl fun _ => ?_ | refine st_A rfl rfl (fun _ => rfl) rfl fun _ => ?_) | refine x8 ?_ | refine rt_skip rfl rfl rfl ?_ | refine rt_skip0 rfl rfl ?_)) | (first | refine sq_n ?_ | refine sq_r ?_ | refine sq_e ?_ | refine bk_n ?_ | refine bk_r ?_ | refine bk_e rfl ?_ | refine bk_x rfl ?_ | refine ct_seq ?_ | refine ct_region rfl ?_ | refine ct_skip ?_ | refine ct_label ?_ | refine ct_block ?_ | refine ct_exit ?_ | refine ct_ret ?_ | refine ct_scope ?_ | refine ct_true rfl ?_ | refine ct_false rfl ?_ | refine lt_step ?_))
    refine ct_condT te_ne rfl (fun hd => ?_) (fun hd => ?_)
    · rw [if_neg hd] at hi
      repeat (first | (first | refine rt_nil ?_ | (refine isRun ?_; first | refine x1 ?_ | refine x2 ?_ | refine x3 fun _ => ?_ | refine x4 fun _ => ?_ | refine x5 fun _ => ?_ | (refine rt_step rfl rfl rfl ?_; first | refine st_buildSlice rfl (zr rfl) rfl rfl rfl rfl rfl rfl fun _ => ?_ | refine st_A rfl rfl (fun _ => rfl) rfl fun _ => ?_) | refine x8 ?_ | refine rt_skip rfl rfl rfl ?_ | refine rt_skip0 rfl rfl ?_)) | (first | refine sq_n ?_ | refine sq_r ?_ | refine sq_e ?_ | refine bk_n ?_ | refine bk_r ?_ | refine bk_e rfl ?_ | refine bk_x rfl ?_ | refine ct_seq ?_ | refine ct_region rfl ?_ | refine ct_skip ?_ | refine ct_label ?_ | refine ct_block ?_ | refine ct_exit ?_ | refine ct_ret ?_ | refine ct_scope ?_ | refine ct_true rfl ?_ | refine ct_false rfl ?_ | refine lt_step ?_))
      unfold rndΦ RndE
      exact ⟨1, q, _, List.Perm.refl _, .inr ⟨rfl, _, _, ⟨rfl, rfl⟩, by rw [hi]; exact drop_auto⟩⟩
    · rw [if_pos hd] at hi
      repeat (first | (first | refine rt_nil ?_ | (refine isRun ?_; first | refine x1 ?_ | refine x2 ?_ | refine x3 fun _ => ?_ | refine x4 fun _ => ?_ | refine x5 fun _ => ?_ | (refine rt_step rfl rfl rfl ?_; first | refine st_buildSlice rfl (zr rfl) rfl rfl rfl rfl rfl rfl fun _ => ?_ | refine st_A rfl rfl (fun _ => rfl) rfl fun _ => ?_) | refine x8 ?_ | refine rt_skip rfl rfl rfl ?_ | refine rt_skip0 rfl rfl ?_)) | (first | refine sq_n ?_ | refine sq_r ?_ | refine sq_e ?_ | refine bk_n ?_ | refine bk_r ?_ | refine bk_e rfl ?_ | refine bk_x rfl ?_ | refine ct_seq ?_ | refine ct_region rfl ?_ | refine ct_skip ?_ | refine ct_label ?_ | refine ct_block ?_ | refine ct_exit ?_ | refine ct_ret ?_ | refine ct_scope ?_ | refine ct_true rfl ?_ | refine ct_false rfl ?_ | refine lt_step ?_))
      unfold rndΦ RndE
      exact ⟨1, q, _, List.Perm.refl _, .inl ⟨rfl, _, ⟨hi, rfl⟩, by exact drop_auto⟩⟩
  · rintro R v ⟨hi, rfl⟩
    rw [← hE, List.drop_length] at hi
    refine ⟨0, none, _, List.Perm.refl _, rfl, ?_⟩
    refine cm_code ?_
    repeat (first | (first | refine rt_nil ?_ | (refine isRun ?_; first | refine x1 ?_ | refine x2 ?_ | refine x3 fun _ => ?_ | refine x4 fun _ => ?_ | refine x5 fun _ => ?_ | (refine rt_step rfl rfl rfl ?_; first | refine st_buildSlice rfl (zr rfl) rfl rfl rfl rfl rfl rfl fun _ => ?_ | refine st_A rfl rfl (fun _ => rfl) rfl fun _ => ?_) | refine x8 ?_ | refine rt_skip rfl rfl rfl ?_ | refine rt_skip0 rfl rfl ?_)) | (first | refine sq_n ?_ | refine sq_r ?_ | refine sq_e ?_ | refine bk_n ?_ | refine bk_r ?_ | refine bk_e rfl ?_ | refine bk_x rfl ?_ | refine ct_seq ?_ | refine ct_region rfl ?_ | refine ct_skip ?_ | refine ct_label ?_ | refine ct_block ?_ | refine ct_exit ?_ | refine ct_ret ?_ | refine ct_scope ?_ | refine ct_true rfl ?_ | refine ct_false rfl ?_ | refine lt_step ?_))
    refine lv_one (List.Perm.refl _) ⟨H, by exact drop_auto, ?_⟩
    exact res_cell rfl (.own _ _ hm1) rfl (sz rfl) rfl rfl (res_nil (by rw [← hi] at hQ; exact hQ))
  · rintro e R v ⟨rfl, rfl⟩
    refine ⟨2, some .ret, _, List.Perm.refl _, rfl, ?_⟩
    refine lv_one (List.Perm.refl _) ⟨H, by exact drop_auto, ?_⟩
    exact res_cell rfl (.own _ _ hm0) rfl (sz rfl) rfl rfl (res_nil hQ)
end
end Go.Proofs.Ytjdppdoakbojcaa.Abs
