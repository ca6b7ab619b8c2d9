/- Code and calls: what the interpreter shows of a call holds of the machine's. -/
import Derived.Test.YtpdhkonifbdckaaAbs17
import Derived.LoopNIn
import Derived.Scope
namespace Go.Proofs.Ytpdhkonifbdckaa.Abs
open Go
set_option linter.unusedSectionVars false
variable [Tok]
set_option linter.unusedSimpArgs false

section
variable {C : Ctx} {w0 : Base} {s : St} {φ : Nat → Option Loc} {fr : Fr} {a : Act} {w : World} {ops : Array Oper} {hd : HH Prop}

theorem deferOf_eq {o : Op} {c : Call} (h : deferOf o = some c) : o = .defer c := by
  unfold deferOf at h
  split at h
  · cases h; rfl
  · cases h
theorem defer_sound {o : Oper} {c : Call} {m : Mark} (hop : o.op = .defer c) (hf : FrR φ s.next fr a) (h : adefer C c fr.eval = some m) :
    ∃ d, (execOp a.eval o).run C.P w = .ok (.defer d) w ∧ MarkR φ s.next m d := by
  unfold adefer at h
  split at h
  case h_2 => cases h
  rename_i f hcal
  split at h
  case h_2 => cases h
  rename_i g first cap he
  split at h
  case h_2 => cases h
  rename_i hok hca
  cases h
  rw [Bool.and_eq_true] at hok
  have hg := eval_rel (x := f) hok.1 fun t _ => hf.tmps t
  rw [he] at hg
  have hargs : ∀ x, x ∈ c.args.toList → VR φ s.next (fr.eval x) (a.eval x) := fun x hx => eval_rel (x := x) (List.all_eq_true.1 hok.2 x hx) fun t _ => hf.tmps t
  generalize hu : a.eval f = u at hg
  cases hg with
  | func _ fi ca fi' ca' k1 k2 =>
    refine ⟨{ target := .fn (.func g) ⟨ca'⟩, args := ⟨fi' ++ c.args.toList.map a.eval⟩ }, ?_, _, _, rfl, ?_⟩
    · unfold execOp
      rw [hop]
      simp only [resolve, hcal, hu, Deferred.ofValue, Sem.run_bind, Sem.run_pure, Result.andThen_ok]
      congr 4
      simp
    · rw [List.append_assoc]
      exact k1.append ((mapR hargs).append k2)
theorem FrR.mark {N : Nat} {m : Mark} {d : Deferred} (hf : FrR φ N fr a) (dst : Option Tmp) (hm : MarkR φ N m d) : FrR φ N { fr.put dst undef with marks := m :: fr.marks } ({ a with defers := d :: a.defers }.put dst undef) := by
  have hp := hf.put dst (.tuple _ _ .nil : VR φ N undef undef)
  cases dst with
  | none => exact ⟨⟨hm, hf.defers⟩, hf.size, hf.tmps⟩
  | some t => exact ⟨⟨hm, hf.defers⟩, hp.size, hp.tmps⟩
theorem seq_sound {F : Fence} (hF : FW F) (hH : HHS C hd) (hdef : noDefer ops = false → F = Fence.wide) (n : Nat) {k : Fr → St → Prop} {Q : Exit → Act → World → Prop} : ∀ (os : List Oper) (i : Nat), ops.toList.drop i = os → ∀ (fr : Fr) (s : St) (φ : Nat → Option Loc) (a : Act) (w : World),
    Rel C w0 φ s w → FrR φ s.next fr a → runSeq C ansP hd ops os fr s k →
    (∀ fr' s' φ' a' w', Rel C w0 φ' s' w' → Later φ s.next φ' s'.next → FrR φ' s'.next fr' a' → k fr' s' → Q .normal a' w') → wpOpsIn F n C.P ops Q (List.range' i (ops.size - i)) a w
  | [], i, hd0, fr, s, φ, a, w, R, hf, h, hQ => by
    have hlen : ops.size ≤ i := by have := congrArg List.length hd0; simp at this; omega
    rw [show ops.size - i = 0 from by omega]
    exact hQ fr s φ a w R (Later.refl _ _) hf h
  | o :: os, i, hd0, fr, s, φ, a, w, R, hf, h, hQ => by
    have hlt : i < ops.size := by
      have := congrArg List.length hd0
      simp at this; omega
    have ho : ops.toList[i]? = some o := by
      have : (ops.toList.drop i)[0]? = some o := by rw [hd0]; rfl
      simpa using this
    have ho' : ops[i]? = some o := by simpa using ho
    have hd1' : ops.toList.drop (i + 1) = os := by rw [← List.drop_drop, hd0]; rfl
    rw [show ops.size - i = (ops.size - (i + 1)) + 1 from by omega, List.range'_succ]
    simp only [wpOpsIn, ho']
    unfold runSeq at h
    split at h
    · rename_i hw
      rw [wanted_rel hw fun j want g d _ _ _ => hf.tmps d, if_pos rfl]
      split at h
      case h_2 =>
        rename_i c hc
        split at h
        case h_2 => exact h.elim
        rename_i m hm
        have hnd : noDefer ops = false := by
          cases e : noDefer ops with
          | false => rfl
          | true =>
            have := List.all_eq_true.1 e o (List.mem_of_getElem? ho)
            rw [hc] at this; cases this
        obtain rfl := hdef hnd
        obtain ⟨d, hd1, hd2⟩ := defer_sound (w := w) (deferOf_eq hc) hf hm
        refine ⟨fun f _ => hF.fn f, ?_⟩
        rw [show (o.semAt Fence.wide.round a.eval) = execOp a.eval o from rfl, hd1]
        exact seq_sound hF hH (fun _ => rfl) n os (i + 1) hd1' _ s φ _ w R (hf.mark o.dst hd2) h hQ
      rename_i hndf
      have hok : o.op.operands.toList.all okOperand = true := by
        unfold aop at h
        split at h
        · exact h.elim
        · assumption
      refine aop_sound hF hH R (hf.rho hok) h n _ Q fun v v' φ2 s2 w2 hst hv hk => ?_
      exact seq_sound hF hH hdef n os (i + 1) hd1' _ s2 φ2 _ w2 hst.rel ((hf.later hst.later).put o.dst hv) hk fun fr' s' φ' a' w' h1 h2 h3 h4 => hQ fr' s' φ' a' w' h1 (hst.later.trans h2) h3 h4
    · rename_i hw
      rw [wanted_rel hw fun j want g d _ _ _ => hf.tmps d, if_neg Bool.false_ne_true]
      exact ⟨fun f _ => hF.fn f, seq_sound hF hH hdef n os (i + 1) hd1' _ s φ _ w R (hf.put o.dst (.tuple _ _ .nil)) h hQ⟩
    · exact h.elim

theorem binds_any {md : Region.Mode} (e : Edge) (h : Region.binds .any e = true) : Region.binds md e = true := by
  unfold Region.binds at h ⊢
  cases hg : e.ground <;> rw [hg] at h <;> first | rfl | (simp at h)

theorem blank_nt (ops : Array Oper) : ∀ (E : List Nat) (fr : Fr), (blank ops E fr).nt = fr.nt
  | [], fr => rfl
  | x :: E, fr => by
    unfold blank
    split
    · rw [blank_nt ops E, put_nt]
    · exact blank_nt ops E fr
theorem blank_marks (ops : Array Oper) : ∀ (E : List Nat) (fr : Fr), (blank ops E fr).marks = fr.marks
  | [], fr => rfl
  | x :: E, fr => by
    unfold blank
    split
    · rw [blank_marks ops E, put_marks]
    · exact blank_marks ops E fr
/-- A slot of a blanked frame is as before, or not known. -/
theorem blank_get (ops : Array Oper) : ∀ (E : List Nat) (fr : Fr) (t : Nat), (blank ops E fr).get t = fr.get t ∨ (blank ops E fr).get t = .tuple #[.nilFunc]
  | [], fr, t => .inl rfl
  | x :: E, fr, t => by
    unfold blank
    split
    · rename_i o ho
      rcases blank_get ops E (fr.put o.dst (.tuple #[.nilFunc])) t with h | h
      · rw [h, put_get]
        split
        · exact .inr rfl
        · exact .inl rfl
      · exact .inr h
    · exact blank_get ops E fr t
theorem blank_stay (ops : Array Oper) : ∀ (E : List Nat) (fr : Fr) (t : Nat), fr.get t = .tuple #[.nilFunc] → (blank ops E fr).get t = .tuple #[.nilFunc]
  | E, fr, t, h => by
    rcases blank_get ops E fr t with h1 | h1
    · rw [h1, h]
    · exact h1
theorem blank_any (ops : Array Oper) : ∀ (E : List Nat) (fr : Fr), ∀ x ∈ E, ∀ o d, ops.toList[x]? = some o → o.dst = some d → d < fr.nt → (blank ops E fr).get d = .tuple #[.nilFunc]
  | [], fr, x, hx, _, _, _, _, _ => by cases hx
  | y :: E, fr, x, hx, o, d, ho, hd, hlt => by
    unfold blank
    rcases List.mem_cons.1 hx with rfl | hx
    · rw [ho]
      exact blank_stay ops E _ d (by rw [put_get, if_pos ⟨hd, hlt⟩])
    · split
      · exact blank_any ops E _ x hx o d ho hd (by rw [put_nt]; exact hlt)
      · exact blank_any ops E _ x hx o d ho hd hlt
theorem blank_rel (hf : FrR φ s.next fr a) (E : List Nat) : FrR φ s.next (blank ops E fr) a := by
  refine ⟨by rw [blank_marks]; exact hf.defers, by rw [blank_nt]; exact hf.size, fun t => ?_⟩
  rcases blank_get ops E fr t with h | h
  · rw [h]; exact hf.tmps t
  · rw [h]; exact .any _
theorem draw_sound {F : Fence} (hF : FW F) (hH : HHS C hd) (n : Nat) {k : Fr → St → Prop} {Q : Exit → Act → World → Prop} (R : Rel C w0 φ s w) (hf : FrR φ s.next fr a) (h : runDraw C ansP hd ops fr s k)
    (hQ : ∀ fr' s' φ' a' w', Rel C w0 φ' s' w' → Later φ s.next φ' s'.next → FrR φ' s'.next fr' a' → k fr' s' → Q .normal a' w') (id : Nat) : (Code.region id ops true).wpIn F n C.P Q a w := by
  unfold runDraw at h
  split at h
  case h_2 => exact h.elim
  rename_i hplan
  unfold planOk at hplan
  simp only [Bool.and_eq_true] at hplan
  obtain ⟨⟨⟨hcov, _, hcan⟩, hp⟩, hb1, hb2, hb3⟩ := hplan
  generalize hEE : earlyOf ops (masksOf ops) (planOf ops) = E at hcan hp h
  have hE : EOk ops E (blank ops E fr) := by
    refine ⟨fun x hx => ?_, fun x hx o d ho hd hlt => blank_any ops E fr x hx o d ho hd (by rw [blank_nt] at hlt; exact hlt)⟩
    have h5 := List.all_eq_true.1 hcan x hx
    split at h5
    · rename_i o ho; exact ⟨o, ho, h5⟩
    · cases h5
  have hb : ∀ md, orderOk md ops = true := fun md => by cases md <;> assumption
  have any : ∀ (md : Region.Mode) (t : Nat), wpOpsIn F n C.P ops Q (Region.linearise md ops t) a { w with drawn := w.drawn + 1 } := by
    intro md t
    have hcov' : ∀ i, i < ops.size → i ∈ planOf ops := fun i hi => by
      have := List.all_eq_true.1 hcov i (by simpa using hi)
      simpa using this
    have hrep : ∀ i, (Array.replicate ops.size false).getD i false = false := fun i => by
      rw [Array.getD_eq_getD_getElem?]
      by_cases hi : i < ops.size
      · rw [Array.getElem?_replicate, if_pos hi]; rfl
      · rw [Array.getElem?_replicate, if_neg hi]; rfl
    have hI : Inv C w0 ops E (masksOf ops) (planOf ops) (blank ops E fr) [] (planOf ops) [] (blank ops E fr) s φ [] (fun i => (Array.replicate ops.size false).getD i false) a { w with drawn := w.drawn + 1 } :=
      { plan := rfl, ent := fun e he => by simp at he, frs := fun p e q h => by simp at h, cur := rfl, sub := fun i hi => (by simp only [hrep] at hi; cases hi), spine := fun e he => by simp at he, late := fun e he => by simp at he,
        reads := fun e he => by simp at he, rel := R.drawn _, frr := blank_rel hf E, down := fun j hj => (by simp only [hrep] at hj; cases hj), hrest := fun x hx => (by cases hx), hS := fun x hx => (by cases hx), hE := fun x hx => (by cases hx),
        hkeys := List.nodup_nil, hat := fun x hx => (by cases hx) }
    exact wpAnyIn_sound ops.size t _ a _ (plan_sound hF hH n (md := md) binds_any hp (masksOf_ok ops) hE hcov' (hb md) hQ ops.size _ [] (planOf ops) [] (blank ops E fr) s φ [] a _ (by simp)
      (by unfold unl; exact Nat.le_trans (List.length_filter_le _ _) (by simp)) (Later.refl _ _) hI h)
  refine wpIn_region_draw fun t => ?_
  unfold Region.schedule
  split
  · exact any .any t
  · exact any _ _

theorem cond_eval {c : Operand} {b : Bool} (hf : FrR φ s.next fr a) (hok : okOperand c = true) (he : fr.eval c = .bool b) : a.eval c = .bool b := by
  have := eval_rel (x := c) hok fun t _ => hf.tmps t
  rw [he] at this
  generalize a.eval c = u at this
  cases this
  rfl

theorem Rel.dblk (R : Rel C w0 φ s w) {m : Nat} (hb : C.B0 ≤ m) (ho : s.obj m = some .dblk) : ∃ loc, φ m = some loc ∧ w.heap[loc.blk]? = some (.deferred (some [])) := by
  obtain ⟨loc, hl, hob⟩ := R.objs m _ hb ho rfl
  refine ⟨loc, hl, ?_⟩
  generalize w.heap[loc.blk]? = ob at hob ⊢
  unfold ObjR at hob
  split at hob
  · rename_i hh; cases hh
  · rename_i hh; cases hh
  · rename_i hh; cases hh
  · rename_i hh; cases hh
  · rfl
  · exact hob.elim

theorem upd_same (φ : Nat → Option Loc) (b : Nat) (l : Loc) : upd φ b l b = some l := by unfold upd; rw [if_pos rfl]
theorem upd_ne (φ : Nat → Option Loc) {b c : Nat} (l : Loc) (h : c ≠ b) : upd φ b l c = φ c := by unfold upd; rw [if_neg h]

theorem code_sound (hH : HHS C hd) (n : Nat) (rd : Bool) (F : Fence) (hF : FW F) (hrd : rd = false → F = Fence.wide) : ∀ (c : Code) (fr : Fr) (s : St) (φ : Nat → Option Loc) (a : Act) (w : World) (k : AX → Fr → St → Prop) (Q : Exit → Act → World → Prop),
    Rel C w0 φ s w → FrR φ s.next fr a → acode C ansP hd rd c fr s k →
    (∀ e fr' s' φ' a' w', Rel C w0 φ' s' w' → Later φ s.next φ' s'.next → FrR φ' s'.next fr' a' → k e fr' s' → Q (exitOf e) a' w') → c.wpIn F n C.P Q a w
  | .skip, fr, s, φ, a, w, k, Q, R, hf, h, hQ => wpIn_skip (hQ .normal fr s φ a w R (Later.refl _ _) hf (by simpa only [acode] using h))
  | .label _, fr, s, φ, a, w, k, Q, R, hf, h, hQ => wpIn_label (hQ .normal fr s φ a w R (Later.refl _ _) hf (by simpa only [acode] using h))
  | .region id ops false, fr, s, φ, a, w, k, Q, R, hf, h, hQ => by
    simp only [acode] at h
    split at h
    case h_1 => exact h.elim
    rename_i hrn
    refine wpIn_region ?_
    have := seq_sound (ops := ops) (Q := Q) hF hH (fun e => hrd (by rw [e] at hrn; simpa using hrn)) n ops.toList 0 rfl fr s φ a w R hf h fun fr' s' φ' a' w' h1 h2 h3 h4 => hQ .normal fr' s' φ' a' w' h1 h2 h3 h4
    rw [List.range_eq_range']
    simpa using this
  | .region id ops true, fr, s, φ, a, w, k, Q, R, hf, h, hQ => by
    simp only [acode] at h
    exact draw_sound hF hH n R hf h (fun fr' s' φ' a' w' h1 h2 h3 h4 => hQ .normal fr' s' φ' a' w' h1 h2 h3 h4) id
  | .seq x y, fr, s, φ, a, w, k, Q, R, hf, h, hQ => by
    simp only [acode] at h
    refine wpIn_seq (code_sound hH n rd F hF hrd x fr s φ a w _ _ R hf h fun e fr' s' φ' a' w' h1 h2 h3 h4 => ?_)
    cases e with
    | normal => exact code_sound hH n rd F hF hrd y fr' s' φ' a' w' k Q h1 h3 h4 fun e fr2 s2 φ2 a2 w2 g1 g2 g3 g4 => hQ e fr2 s2 φ2 a2 w2 g1 (h2.trans g2) g3 g4
    | exit id => exact hQ (.exit id) fr' s' φ' a' w' h1 h2 h3 h4
    | ret => exact hQ .ret fr' s' φ' a' w' h1 h2 h3 h4
  | .cond c x y, fr, s, φ, a, w, k, Q, R, hf, h, hQ => by
    simp only [acode] at h
    split at h
    · rename_i hok he
      exact wpIn_cond_true (cond_eval hf hok he) (code_sound hH n rd F hF hrd x fr s φ a w k Q R hf h hQ)
    · rename_i hok he
      exact wpIn_cond_false (cond_eval hf hok he) (code_sound hH n rd F hF hrd y fr s φ a w k Q R hf h hQ)
    · exact h.elim
  | .block id b, fr, s, φ, a, w, k, Q, R, hf, h, hQ => by
    simp only [acode] at h
    refine wpIn_block (code_sound hH n rd F hF hrd b fr s φ a w _ _ R hf h fun e fr' s' φ' a' w' h1 h2 h3 h4 => ?_)
    cases e with
    | normal => exact hQ .normal fr' s' φ' a' w' h1 h2 h3 h4
    | exit i =>
      show (if i = id then Q .normal a' w' else Q (.exit i) a' w')
      simp only at h4
      split at h4
      · rename_i hi
        rw [if_pos (Nat.eq_of_beq_eq_true hi)]
        exact hQ .normal fr' s' φ' a' w' h1 h2 h3 h4
      · rename_i hi
        rw [if_neg (fun e => by subst e; simp at hi)]
        exact hQ (.exit i) fr' s' φ' a' w' h1 h2 h3 h4
    | ret => exact hQ .ret fr' s' φ' a' w' h1 h2 h3 h4
  | .loop b, fr, s, φ, a, w, k, Q, R, hf, h, hQ => by
    simp only [acode] at h
    obtain ⟨m, h⟩ : ∃ m, loopN ansP (acode C ansP hd rd b) m fr s k := h
    have key : ∀ (m : Nat) (fr : Fr) (s : St) (φ2 : Nat → Option Loc) (a : Act) (w : World), Rel C w0 φ2 s w → FrR φ2 s.next fr a → loopN ansP (acode C ansP hd rd b) m fr s k →
        (∀ e fr' s' φ' a' w', Rel C w0 φ' s' w' → Later φ2 s.next φ' s'.next → FrR φ' s'.next fr' a' → k e fr' s' → Q (exitOf e) a' w') → Code.roundsIn F n C.P b Q m a w := by
      intro m
      induction m with
      | zero => intro fr s φ2 a w _ _ h _; exact h
      | succ m ih =>
        intro fr s φ2 a w R2 hf2 h2 hQ2
        unfold loopN at h2
        refine code_sound hH n rd F hF hrd b fr s φ2 a w _ _ R2 hf2 h2 fun e fr' s' φ' a' w' h3 h4 h5 h6 => ?_
        cases e with
        | normal => exact ih fr' s' φ' a' w' h3 h5 h6 fun e fr2 s2 φ3 a2 w2 g1 g2 g3 g4 => hQ2 e fr2 s2 φ3 a2 w2 g1 (h4.trans g2) g3 g4
        | exit id => exact hQ2 (.exit id) fr' s' φ' a' w' h3 h4 h5 h6
        | ret => exact hQ2 .ret fr' s' φ' a' w' h3 h4 h5 h6
    exact wpIn_loop_rounds m (key m fr s φ a w R hf h hQ)
  | .exit id, fr, s, φ, a, w, k, Q, R, hf, h, hQ => wpIn_exit (hQ (.exit id) fr s φ a w R (Later.refl _ _) hf (by simpa only [acode] using h))
  | .scope b, fr, s, φ, a, w, k, Q, R, hf, h, hQ => by
    simp only [acode] at h
    split at h
    · exact h.elim
    · obtain rfl := hrd rfl
      refine wpIn_wide.2 (wp_scope_straight (wpIn_wide.1 (code_sound hH n _ _ hF hrd b fr s φ a w k _ R hf h fun e fr' s' φ' a' w' h1 h2 h3 h4 => ?_)))
      cases e with
      | normal => exact hQ .normal fr' s' φ' a' w' h1 h2 h3 h4
      | exit id => exact hQ (.exit id) fr' s' φ' a' w' h1 h2 h3 h4
      | ret => exact hQ .ret fr' s' φ' a' w' h1 h2 h3 h4
  | .ret, fr, s, φ, a, w, k, Q, R, hf, h, hQ => wpIn_ret (hQ .ret fr s φ a w R (Later.refl _ _) hf (by simpa only [acode] using h))
  | .rangeFunc g ps x y, fr, s, φ, a, w, k, Q, R, hf, h, hQ => by
    simp only [acode] at h
    split at h
    case h_2 => exact h.elim
    rename_i f first cap hok he
    obtain rfl := hrd rfl
    split at h
    case h_2 => exact h.elim
    rename_i hc
    have hg : VR φ s.next (.func (.func f) first cap) (a.eval g) := by
      have := eval_rel (x := g) hok fun t _ => hf.tmps t
      rwa [he] at this
    generalize hgv : a.eval g = gv at hg
    cases hg with
    | func _ fi ca fi' ca' k1 k2 =>
    -- the two blocks
    have hA1 := R.alloc (ob := .dblk) (o' := .deferred (some [])) (sz := 0) trivial
    refine wpIn_rangeFunc fun fn hfn => ?_
    have hLR : ∀ (φ1 : Nat → Option Loc), Later φ s.next φ1 (s.next + 1) → LoopR φ1 (s.next + 1) 0 none { fr with marks := [] } ps.toList x y { state := .ready, pending := none, fn, tmps := a.tmps, params := ps, assign := x, body := y, defers := w.heap.size } := fun φ1 L1 =>
      { state := rfl, pend := rfl, params := rfl, assign := rfl, body := rfl, marks := rfl, size := hf.size, tmps := fun t => (hf.tmps t).later L1 }
    have hA2 := hA1.rel.alloc (ob := .loop 0 none { fr with marks := [] } ps.toList x y) (o' := .loop { state := .ready, pending := none, fn, tmps := a.tmps, params := ps, assign := x, body := y, defers := w.heap.size }) (sz := 0) (hLR _ hA1.later)
    have hA := hA1.trans hA2
    refine ⟨w.heap.size + 1, [{ target := .collected w.heap.size, args := #[] }], ((w.alloc (.deferred (some []))).alloc (.loop { state := .ready, pending := none, fn, tmps := a.tmps, params := ps, assign := x, body := y, defers := w.heap.size })), { target := .fn (.func f) ⟨ca'⟩, args := ⟨fi'⟩ ++ #[.func (.yield (w.heap.size + 1)) #[] #[]] }, ((w.alloc (.deferred (some []))).alloc (.loop { state := .ready, pending := none, fn, tmps := a.tmps, params := ps, assign := x, body := y, defers := w.heap.size })), f, (fi' ++ (.func (.yield (w.heap.size + 1)) #[] #[] :: ca')).toArray, ((w.alloc (.deferred (some []))).alloc (.loop { state := .ready, pending := none, fn, tmps := a.tmps, params := ps, assign := x, body := y, defers := w.heap.size })), run_enterLoop_outer fn a.tmps ps x y, ?_, fun f' _ => hF.fn f', ?_, fun h => (by rw [hF.depth] at h; cases h), ?_⟩
    · simp only [resolve, rangeCall]
      rw [hgv]
      simp [Deferred.ofValue, Act.eval]
    · simp only [invoke]
      rw [callable_run hc]
      congr 2
      simp
    · refine hF.calls _ _ _ _ _ _ ((hH.call w0 f _ _ _ _ _ _ hA.rel ?_ h).mono ?_)
      · refine (k1.later hA.later).append (.cons _ _ _ _ (.yield _ _ (Nat.lt_succ_self _) fun l hl => ?_) (k2.later hA.later))
        have hl2 := (upd_same (upd φ s.next ⟨w.heap.size, 0, 0⟩) (s.next + 1) ⟨(w.alloc (.deferred (some []))).heap.size, 0, 0⟩).symm.trans hl
        cases hl2
        simp
      · rintro e w3 ⟨v, v', φ3, s3, rfl, hst, hv, h3⟩
        split at h3
        case h_2 => exact h3.elim
        rename_i st q f1 p1 x1 y1 ho3
        split at h3
        · exact h3.elim
        rename_i hst1
        have hB : C.B0 ≤ s.next + 1 := Nat.le_succ_of_le (Nat.le_of_lt R.next)
        obtain ⟨loc, r, hl3, hh3, hr3⟩ := hst.rel.loop hB ho3
        have hlb : loc.blk = w.heap.size + 1 := by
          have := hst.later.some (b := s.next + 1) (Nat.lt_succ_self _) hl3
          have h2 := (upd_same (upd φ s.next ⟨w.heap.size, 0, 0⟩) (s.next + 1) ⟨(w.alloc (.deferred (some []))).heap.size, 0, 0⟩).symm.trans this
          cases h2
          simp
        rw [← hlb]
        have hnb : r.state ≠ .busy := fun hb => by have := hr3.state; rw [hb] at this; subst this; simp [stOf] at hst1
        have hm : MarksR φ3 s3.next (.blk s.next :: fr.marks) ({ target := .collected w.heap.size, args := #[] } :: a.defers) := by
          refine ⟨⟨Nat.lt_of_lt_of_le (Nat.lt_succ_of_lt (Nat.lt_succ_self _)) hst.later.1, rfl, _, rfl, fun l hl => ?_⟩, hf.defers.later (hA.later.trans hst.later)⟩
          have := hst.later.some (b := s.next) (Nat.lt_succ_of_lt (Nat.lt_succ_self _)) hl
          have h2 := ((upd_ne (upd φ s.next ⟨w.heap.size, 0, 0⟩) (b := s.next + 1) ⟨(w.alloc (.deferred (some []))).heap.size, 0, 0⟩ (Nat.ne_of_lt (Nat.lt_succ_self s.next))).trans (upd_same _ _ _)).symm.trans this
          cases h2
          rfl
        have hfr : FrR φ3 s3.next { fr with marks := .blk s.next :: fr.marks } { a with defers := [{ target := .collected w.heap.size, args := #[] }] ++ a.defers } :=
          ⟨hm, hf.size, fun t => (hf.tmps t).later (hA.later.trans hst.later)⟩
        have S3 := hst.rel.putLoop (st := 3) (q := q) (fr := f1) (ps := p1) (x := x1) (y := y1) (r' := { r with state := .exhausted }) hB hl3 hh3 { hr3 with state := rfl }
        have L03 : Later φ s.next φ3 s3.next := hA.later.trans hst.later
        split at h3
        · have hp : r.pending = none := hr3.pend
          exact ⟨none, _, (run_endLoop hh3 hnb).trans (congrArg (fun p => Result.ok p _) hp), hQ .normal _ _ φ3 _ _ S3.rel (L03.trans S3.later) (hfr.later S3.later) h3⟩
        · rename_i e
          obtain ⟨c, hc1, hp⟩ := hr3.pend
          refine ⟨some c, _, (run_endLoop hh3 hnb).trans (congrArg (fun p => Result.ok p _) hp), ?_⟩
          cases e with
          | normal => cases hc1
          | ret => cases hc1; exact wpIn_ret (hQ .ret _ _ φ3 _ _ S3.rel (L03.trans S3.later) (hfr.later S3.later) h3)
          | exit id => cases hc1; exact wpIn_exit (hQ (.exit id) _ _ φ3 _ _ S3.rel (L03.trans S3.later) (hfr.later S3.later) h3)
  | .goto _, _, _, _, _, _, _, _, _, _, h, _ => by simp only [acode] at h; exact h.elim
  | .refuse _, _, _, _, _, _, _, _, _, _, h, _ => by simp only [acode] at h; exact h.elim

theorem result_sound (R : Rel C w0 φ s w) (hf : FrR φ s.next fr a) (f : ResultVar → Sem Value) (hf1 : ∀ t, f (.tmp t) = pure (a.tmps.getD t undef))
    (hf2 : ∀ p t, f (.cell p t) = (do loadVar t (← asAddr (a.tmps.getD p undef)))) : ∀ (rs : List ResultVar) (vs : List Value), aresults C fr s rs = some vs →
    ∃ vs', (rs.mapM f).run C.P w = .ok vs' w ∧ VRs φ s.next vs vs'
  | [], vs, h => by simp only [aresults, Option.some.injEq] at h; subst h; exact ⟨[], by simp, .nil⟩
  | r :: rs, vs, h => by
    simp only [aresults] at h
    split at h
    · rename_i v vs1 h1 h2
      cases h
      obtain ⟨vs', h3, h4⟩ := result_sound R hf f hf1 hf2 rs vs1 h2
      have hv : ∃ v', (f r).run C.P w = .ok v' w ∧ VR φ s.next v v' := by
        cases r with
        | tmp t =>
          simp only [aresult, Option.some.injEq] at h1
          subst h1
          exact ⟨_, by rw [hf1]; rfl, hf.tmps t⟩
        | cell p t =>
          simp only [aresult] at h1
          have hp := hf.tmps p
          split at h1
          · rename_i ad e
            rw [e] at hp
            obtain ⟨v', h5, h6⟩ := aload_sound R h1 hp
            refine ⟨v', ?_, h6⟩
            rw [hf2]
            generalize a.tmps.getD p undef = u at hp h5 ⊢
            cases hp
            simpa [Instr.loadAt, Instr.sureAddr, asAddr] using h5
          · cases h1
      obtain ⟨v', h5, h6⟩ := hv
      refine ⟨v' :: vs', ?_, .cons _ _ _ _ h6 h4⟩
      rw [List.mapM_cons]
      simp only [Sem.run_bind, h5, h3, Result.andThen_ok, Sem.run_pure]
    · cases h

theorem tupled_rel {N : Nat} {vs vs' : List Value} (h : VRs φ N vs vs') : VR φ N (tupled vs) (if h : vs'.toArray.size = 1 then vs'.toArray[0] else .tuple vs'.toArray) := by
  cases h with
  | nil => exact .tuple _ _ .nil
  | cons v v' l l' h1 h2 =>
    cases h2 with
    | nil => exact h1
    | cons u u' m m' h3 h4 =>
      have : ¬ (v' :: u' :: m').toArray.size = 1 := by simp
      rw [dif_neg this]
      exact .tuple _ _ (.cons _ _ _ _ h1 (.cons _ _ _ _ h3 h4))

/-- What is known of functions without looking into them: a value, whatever the world; nothing that was there turns. -/
def ExtOk (C : Ctx) : Prop := ∀ (f : FuncId) (args : List Value) (v : Value), C.ext f args = some v → plainConst v = true ∧
  ∀ (φ : Nat → Option Loc) (N : Nat) (args' : List Value) (w : World), VRs φ N args args' → Calls C.P f args'.toArray w fun e w' => e = .returned v ∧ w.heap.size ≤ w'.heap.size ∧ (∀ b, b < w.heap.size → w'.heap[b]? = w.heap[b]?) ∧ w'.os = w.os ∧ w'.tape = w.tape ∧ w'.output = w.output ∧ ∀ b o, w.heap.size ≤ b → w'.heap[b]? = some o → Thawed o

theorem Rel.grown {w' : World} (R : Rel C w0 φ s w) (h1 : w.heap.size ≤ w'.heap.size) (h2 : ∀ b, b < w.heap.size → w'.heap[b]? = w.heap[b]?) (h3 : w'.os = w.os) (h4 : w'.tape = w.tape) (h5 : w'.output = w.output) (h6 : ∀ b o, w.heap.size ≤ b → w'.heap[b]? = some o → Thawed o) : Rel C w0 φ s w' :=
  { old := R.old, base := fun b hb => by rw [h2 b (Nat.lt_of_lt_of_le hb R.size)]; exact R.base b hb, size := Nat.le_trans R.size h1, os := h3.trans R.os, tape := h4.trans R.tape, output := h5.trans R.output, next := R.next, nowhere := R.nowhere,
    fresh := R.fresh, lows := R.lows, inj := R.inj, lt := fun b l hb => Nat.lt_of_lt_of_le (R.lt b l hb) h1, own := R.own,
    objs := fun b o hb ho hl => let ⟨l, g1, g2⟩ := R.objs b o hb ho hl; ⟨l, g1, by rw [h2 _ (R.lt _ _ g1)]; exact g2⟩,
    thaw := fun b o hb ho => (if hlt : b < w.heap.size then R.thaw b o hb ((h2 b hlt).symm.trans ho) else h6 b o (Nat.le_of_not_lt hlt) ho),
    held := fun x hx => let ⟨g1, g2, g3⟩ := R.held x hx; ⟨g1, by rw [h2 _ (Array.getElem?_eq_some_iff.1 g2).1]; exact g2, g3⟩, nd := R.nd }

theorem Rel.other (R : Rel C w0 φ s w) {g : Nat} {w' : World} {o' : Obj} (hg : w0.heap.size ≤ g) (hnh : ∀ x, x ∈ w0.held → x.1 ≠ g) (hfree : ∀ b l, φ b = some l → l.blk ≠ g) (hheap : ∀ k, w'.heap[k]? = if k = g then some o' else w.heap[k]?)
    (hsz : w'.heap.size = w.heap.size) (hos : w'.os = w.os) (htape : w'.tape = w.tape) (hout : w'.output = w.output) (ht : Thawed o') : Rel C w0 φ s w' :=
  { old := R.old, base := fun b hb => (by rw [hheap, if_neg (by omega)]; exact R.base b hb), size := (by rw [hsz]; exact R.size), os := hos.trans R.os, tape := htape.trans R.tape, output := hout.trans R.output, next := R.next, nowhere := R.nowhere,
    fresh := R.fresh, lows := R.lows, inj := R.inj, lt := fun b l hb => (by rw [hsz]; exact R.lt b l hb), own := R.own,
    objs := fun b o hb ho hl => let ⟨l, g1, g2⟩ := R.objs b o hb ho hl; ⟨l, g1, by rw [hheap, if_neg (hfree b l g1)]; exact g2⟩,
    thaw := fun b o hb ho => (by rw [hheap] at ho; split at ho; cases ho; exact ht; exact R.thaw b o hb ho),
    held := fun x hx => let ⟨g1, g2, g3⟩ := R.held x hx; ⟨g1, by rw [hheap, if_neg (hnh x hx)]; exact g2, g3⟩, nd := R.nd }

theorem enter_rel {fn : Func} {args args' : List Value} (hargs : VRs φ s.next args args') : FrR φ s.next { tm := Trie.ofList args 0 .nil, nt := max args.length fn.ntmps } { tmps := args'.toArray ++ Array.replicate (fn.ntmps - args'.toArray.size) undef, defers := [] } := by
  have hal : args'.length = args.length := hargs.length.symm
  refine ⟨trivial, by simp; omega, fun t => ?_⟩
  unfold Fr.get
  simp only [Trie.get_ofList, Trie.get_nil, Nat.zero_le, true_and, Nat.zero_add, Nat.sub_zero]
  by_cases ht : t < args.length
  · rw [if_pos ht, List.getElem?_eq_getElem ht]
    obtain ⟨v', h1, h2⟩ := hargs.get (List.getElem?_eq_getElem ht)
    have : (args'.toArray ++ Array.replicate (fn.ntmps - args'.toArray.size) undef).getD t undef = v' := by
      rw [Array.getD_eq_getD_getElem?, Array.getElem?_append_left (by simp; omega)]
      simp [h1]
    rw [this]; exact h2
  · rw [if_neg ht]
    have : (args'.toArray ++ Array.replicate (fn.ntmps - args'.toArray.size) undef).getD t undef = undef := by
      rw [Array.getD_eq_getD_getElem?, Array.getElem?_append_right (by simp; omega), Array.getElem?_replicate]
      split <;> rfl
    rw [this]; exact .tuple _ _ .nil
theorem results_sound (R : Rel C w0 φ s w) (hf : FrR φ s.next fr a) {fn : Func} {vs : List Value} (hvs : aresults C fr s fn.results.toList = some vs) : ∃ v, (results fn a.tmps).run C.P w = .ok v w ∧ VR φ s.next (tupled vs) v := by
  obtain ⟨vs', g1, g2⟩ := result_sound R hf (fun r => match r with | .tmp t => pure (a.tmps.getD t undef) | .cell p t => do loadVar t (← asAddr (a.tmps.getD p undef))) (fun _ => rfl) (fun _ _ => rfl) fn.results.toList vs hvs
  refine ⟨_, ?_, tupled_rel g2⟩
  have g3 : (results fn a.tmps).run C.P w = ((fn.results.mapM fun r => (match r with | .tmp t => pure (a.tmps.getD t undef) | .cell p t => do loadVar t (← asAddr (a.tmps.getD p undef)) : Sem Value)).run C.P w).andThen
      fun vs w' => .ok (if h : vs.size = 1 then vs[0] else .tuple vs) w' := by
    unfold results
    rw [Sem.run_bind]
    congr 1
  rw [g3, Array.mapM_eq_mapM_toList, Sem.run_map, g1]
  rfl
theorem marks_sound (hH : HHS C hd) {fn : Func} {tmps : Array Value} {Q : Ending → World → Prop} {K : St → Prop} : ∀ (ms : List Mark) (ds : List Deferred) (s : St) (φ : Nat → Option Loc) (w : World), leave C ansP hd ms s K → Rel C w0 φ s w → MarksR φ s.next ms ds →
    (∀ s' φ' w', Rel C w0 φ' s' w' → Later φ s.next φ' s'.next → K s' → LeavesIn Fence.wide 0 C.P fn tmps Q [] .returning w') → LeavesInM Fence.wide 0 C.P fn tmps Q ds .returning w
  | [], [], s, φ, w, h, R, hm, hQ => hQ s φ w R (Later.refl _ _) h
  | .blk m :: ms, d :: ds, s, φ, w, h, R, hm, hQ => by
    unfold leave at h
    split at h
    case h_2 => exact h.elim
    rename_i hb ho
    have hb := Nat.le_of_ble_eq_true hb
    obtain ⟨loc, hl, hh⟩ := R.dblk hb ho
    obtain ⟨⟨_, _, r, ht, hr⟩, hms⟩ := hm
    have hrl := hr loc hl
    have hlt : loc.blk < w.heap.size := (Array.getElem?_eq_some_iff.1 hh).1
    have K := R.kill hb
    have R2 : Rel C w0 (kill φ m) (s.setObj m .dead) (w.putObj loc.blk (.deferred none)) :=
      K.rel.other (g := loc.blk) (o' := .deferred none) (R.own _ _ hb hl) (fun x hx e => (R.held x hx).2.2 _ _ hl e.symm) (fun b l h1 e => by
        unfold Abs.kill at h1
        split at h1
        · cases h1
        · rename_i hne
          exact hne (R.inj _ _ _ _ h1 hl e)) (fun k => by
          split
          · rename_i e; subst e; exact World.putObj_heap_same hlt
          · rename_i e; exact World.putObj_heap_other e) (by simp) rfl rfl rfl trivial
    refine ⟨by simp, .inl ⟨loc.blk, w.putObj loc.blk (.deferred none), by rw [ht, hrl], run_takeDeferred hh, ?_⟩⟩
    exact marks_sound hH ms ds _ _ _ h R2 (hms.later K.later) fun s' φ' w' h1 h2 => hQ s' φ' w' h1 (K.later.trans h2)
  | .call f args :: ms, d :: ds, s, φ, w, h, R, hm, hQ => by
    unfold leave at h
    split at h
    case h_2 => exact h.elim
    rename_i fn' hca hfn
    split at h
    case h_2 => exact h.elim
    rename_i c hb
    obtain ⟨⟨fi, ca, rfl, hargs⟩, hms⟩ := hm
    refine ⟨by simp, .inr ⟨fun e => (by cases e), .func f, ⟨ca⟩, f, (fi ++ ca).toArray, rfl, ?_, fun _ _ => trivial, ?_⟩⟩
    · simp only [invoke]
      have : (⟨fi⟩ ++ ⟨ca⟩ : Array Value) = (fi ++ ca).toArray := by simp
      rw [this]
      exact callable_run hca _ _
    · refine CallsDIn.mono (callsDIn_of_wp (R := fun e w' => ∃ v, e = .returned v ∧ LeavesInM Fence.wide 0 C.P fn tmps Q ds .returning w') hfn hb trivial (code_sound hH 0 false _ fw_wide (fun _ => rfl) c _ s φ _ w _ _ R (enter_rel hargs) h fun e fr' s' φ' a' w' h1 h2 h3 h4 => ?_)) ?_
      · have fin : (match fr'.marks, aresults C fr' s' fn'.results.toList with | [], some _ => leave C ansP hd ms s' K | _, _ => ansP.bad) → bodyPost C.P fn' (fun e w' => ∃ v, e = .returned v ∧ LeavesInM Fence.wide 0 C.P fn tmps Q ds .returning w') .ret a' w' := by
          intro h5
          split at h5
          case h_2 => exact h5.elim
          rename_i vs hmk hvs
          obtain ⟨v, g1, _⟩ := results_sound h1 h3 hvs
          have hd0 := h3.defers
          rw [hmk] at hd0
          refine ⟨?_, v, g1, v, rfl, marks_sound hH ms ds _ _ _ h5 h1 (hms.later h2) fun s2 φ2 w2 k1 k2 => hQ s2 φ2 w2 k1 (h2.trans k2)⟩
          cases e0 : a'.defers with
          | nil => rfl
          | cons x y => rw [e0] at hd0; exact hd0.elim
        cases e with
        | exit id => exact h4.elim
        | normal => exact fin h4
        | ret => exact fin h4
      · rintro e u' w' ⟨rfl, v, rfl, h5⟩
        exact h5
  | [], _ :: _, _, _, _, _, _, hm, _ => hm.elim
  | .blk _ :: _, [], _, _, _, _, _, hm, _ => hm.elim
  | .call _ _ :: _, [], _, _, _, _, _, hm, _ => hm.elim

/-- THE INTERPRETER's CALLS ARE SOUND. -/
theorem hand_sound (hE : ExtOk C) : ∀ (n : Nat), HHS C (ahand C ansP n)
  | 0 => ⟨fun _ f args args' s φ w K _ _ h => h.elim, fun _ l n c fr s φ a w k Q _ _ h _ => h.elim⟩
  | n + 1 => by
    refine ⟨?_, fun _ l n' c fr s φ a w k Q R hf h hQ => code_sound (hand_sound hE n) n' true _ (fw_round l) (fun h => by cases h) c fr s φ a w k Q R hf h hQ⟩
    intro w0 f args args' s φ w K R hargs h
    simp only [ahand] at h
    split at h
    · rename_i v hv
      obtain ⟨hp, hc⟩ := hE f args v hv
      refine (hc φ s.next args' w hargs).mono ?_
      rintro e w' ⟨rfl, h1, h2, h3, h4, h5, h6⟩
      exact ⟨v, v, φ, s, rfl, ⟨R.grown h1 h2 h3 h4 h5 h6, Later.refl _ _⟩, VR.plain hp, h⟩
    · split at h
      · rename_i fn hfn
        split at h
        · rename_i c hb
          refine callsIn_wide (n := 0) |>.1 (callsIn_of_wp_marks hfn hb trivial ?_)
          refine code_sound (hand_sound hE n) 0 false _ fw_wide (fun _ => rfl) c _ s φ _ w _ _ R (enter_rel hargs) h fun e fr' s' φ' a' w' h1 h2 h3 h4 => ?_
          have fin : leave C ansP (ahand C ansP n) fr'.marks s' (fun s2 => match aresults C fr' s2 fn.results.toList with | some vs => K (tupled vs) s2 | none => ansP.bad) →
              LeavesInM Fence.wide 0 C.P fn a'.tmps (fun e w' => ∃ v0 v' φ' s', e = .returned v' ∧ Step C w0 φ s φ' s' w' ∧ VR φ' s'.next v0 v' ∧ K v0 s') a'.defers .returning w' := by
            intro h5
            refine marks_sound (hand_sound hE n) _ _ _ _ _ h5 h1 h3.defers fun s2 φ2 w2 R2 L2 h6 => ?_
            split at h6
            case h_2 => exact h6.elim
            rename_i vs hvs
            obtain ⟨v, g1, g2⟩ := results_sound R2 (h3.later L2) hvs
            exact ⟨_, g1, tupled vs, _, φ2, s2, rfl, ⟨R2, h2.trans L2⟩, g2, h6⟩
          cases e with
          | exit id => exact h4.elim
          | normal => exact fin h4
          | ret => exact fin h4
        · exact h.elim
      · exact h.elim
theorem call_sound (hE : ExtOk C) (n : Nat) : HS C w0 (acall C ansP n) := (hand_sound hE n).call w0
end
end Go.Proofs.Ytpdhkonifbdckaa.Abs
