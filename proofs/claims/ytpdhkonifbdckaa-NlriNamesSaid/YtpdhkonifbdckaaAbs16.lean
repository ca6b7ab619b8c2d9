/- Regions that draw their order, continued: the plan's order stands for every order. -/
import Derived.Test.YtpdhkonifbdckaaAbs15
import Derived.Test.YtpdhkonifbdckaaSep0
namespace Go.Proofs.Ytpdhkonifbdckaa.Abs
open Go
set_option linter.unusedSectionVars false
variable [Tok]
set_option linter.unusedSimpArgs false

section
variable {C : Ctx} {w0 : Base}

/-- What was run and need not have been run yet gives the value that it gave. -/
def Lz (C : Ctx) (s : St) (ops : Array Oper) (e : Ent) : Prop :=
  (awanted ops e.o e.fr = some false ∧ e.v = undef) ∨
  (awanted ops e.o e.fr = some true ∧ isFloat e.o.op = true ∧ e.o.op.operands.toList.all okOperand = true ∧ (aP C e.o.op e.fr.eval = some e.v ∨ (aP C e.o.op e.fr.eval = none ∧ aR C s e.o.op e.fr.eval = some e.v)))

def ids (pre : List Ent) : List Nat := pre.map (·.i)

/-- The plan's pairs, laid open. -/
theorem pairs_get {ops : List Oper} {E masks : List Nat} : ∀ {p q : List Nat} {x y : Nat}, pairsOk ops E masks (p ++ x :: q) = true → y ∈ q → pairOk ops E masks x y = true
  | [], q, x, y, h, hy => by
    simp only [List.nil_append, pairsOk, Bool.and_eq_true, List.all_eq_true] at h
    exact h.1 y hy
  | z :: p, q, x, y, h, hy => by
    simp only [List.cons_append, pairsOk, Bool.and_eq_true] at h
    exact pairs_get h.2 hy

theorem pair_ne {ops : List Oper} {E masks : List Nat} {x y : Nat} (h : pairOk ops E masks x y = true) : x ≠ y := by
  unfold pairOk at h
  split at h
  · simp only [Bool.and_eq_true] at h
    intro e
    subst e
    simp at h
  · cases h

theorem pair_anc {ops : List Oper} {E masks : List Nat} {x y : Nat} (h : pairOk ops E masks x y = true) {a b : Oper} (ha : ops[x]? = some a) (hb : ops[y]? = some b)
    (hc : (∃ d, a.dst = some d ∧ d ∈ namesOf ops b) ∨ (∃ d, b.dst = some d ∧ d ∈ namesOf ops a)) : ∃ m, masks[y]? = some m ∧ m.testBit x = true := by
  unfold pairOk at h
  rw [ha, hb] at h
  split at h
  · rename_i a' b' m h1 h2 hm
    cases h1; cases h2
    refine ⟨m, hm, ?_⟩
    simp only [Bool.and_eq_true, Bool.or_eq_true] at h
    rcases h.2 with (h3 | h3) | h3
    · exfalso
      obtain ⟨⟨h4, h5⟩, h6⟩ := h3
      rcases hc with ⟨d, hd, hm⟩ | ⟨d, hd, hm⟩
      · simp [writesIn, hd, hm] at h5
      · simp [writesIn, hd, hm] at h6
    · exact h3
    · exfalso
      obtain ⟨⟨h4, h5⟩, h6⟩ := h3
      rcases hc with ⟨d, hd, hm⟩ | ⟨d, hd, hm⟩
      · simp [writesIn, hd, hm] at h5
      · simp [writesIn, hd, hm] at h6
  · cases h

/-- Behind an operation of the spine. -/
theorem pair_spine {ops : List Oper} {E masks : List Nat} {x y : Nat} (h : pairOk ops E masks x y = true) {a : Oper} (ha : ops[x]? = some a) (hf : isFloat a.op = false) : (∃ m, masks[y]? = some m ∧ m.testBit x = true) ∨ y ∈ E := by
  unfold pairOk at h
  rw [ha] at h
  split at h
  · rename_i a' b' m h1 h2 hm
    cases h1
    simp only [Bool.and_eq_true, Bool.or_eq_true] at h
    rcases h.2 with (h3 | h3) | h3
    · rw [hf] at h3; simp at h3
    · exact .inl ⟨m, hm, h3⟩
    · exact .inr (by simpa using h3.1.1)
  · cases h

/-! ### Makers that have run ahead -/
def Base.hold (w0 : Base) (H : List (Nat × Nat × Obj)) : Base := { w0 with held := H.map (·.2) ++ w0.held }
theorem Base.hold_nil (w0 : Base) : w0.hold [] = w0 := rfl
structure HeldAt (C : Ctx) (ops : Array Oper) (fr : Fr) (φ : Nat → Option Loc) (N : Nat) (a : Act) (x : Nat × Nat × Obj) : Prop where
  ex : ∃ o d ob mk v' sz, ops.toList[x.1]? = some o ∧ o.dst = some d ∧ aA C o.op fr.eval = some (ob, mk) ∧ ObjR φ N ob ⟨x.2.1, sz, 0⟩ (some x.2.2) ∧
    (∀ (φ' : Nat → Option Loc) (N' b : Nat), b < N' → (∀ l, φ' b = some l → l.blk = x.2.1) → VR φ' N' (mk b) v') ∧ (d < a.tmps.size → a.tmps.getD d undef = v')
theorem opTmps_mem {o : Oper} {t : Nat} (h : Operand.tmp t ∈ o.op.operands.toList) : t ∈ opTmps o := List.mem_filterMap.2 ⟨.tmp t, h, rfl⟩
theorem HeldAt.step {ops : Array Oper} {fr : Fr} {φ : Nat → Option Loc} {N : Nat} {a : Act} {x : Nat × Nat × Obj} (h : HeldAt C ops fr φ N a x) {dst : Option Nat} {v : Value} (hd : ∀ o, ops.toList[x.1]? = some o → ∀ d, dst = some d → d ∉ opTmps o) : HeldAt C ops (fr.put dst v) φ N a x := by
  obtain ⟨o, d, ob, mk, v', sz, h1, h2, h3, h4⟩ := h.ex
  refine ⟨o, d, ob, mk, v', sz, h1, h2, ?_, h4⟩
  rw [← h3]
  refine aA_agree fun y hy => ?_
  cases y with
  | tmp t =>
    show (fr.put dst v).get t = fr.get t
    rw [put_get, if_neg]
    rintro ⟨e, _⟩
    exact hd o h1 t e (opTmps_mem hy)
  | const c => rfl
  | global g => rfl
  | func f => rfl
theorem HeldAt.later {ops : Array Oper} {fr : Fr} {φ φ' : Nat → Option Loc} {N N' : Nat} {a : Act} {x : Nat × Nat × Obj} (h : HeldAt C ops fr φ N a x) (L : Later φ N φ' N') : HeldAt C ops fr φ' N' a x := by
  obtain ⟨o, d, ob, mk, v', sz, h1, h2, h3, h4, h5⟩ := h.ex
  exact ⟨o, d, ob, mk, v', sz, h1, h2, h3, h4.later L, h5⟩
theorem HeldAt.act {ops : Array Oper} {fr : Fr} {φ : Nat → Option Loc} {N : Nat} {a : Act} {x : Nat × Nat × Obj} (h : HeldAt C ops fr φ N a x) {dst : Option Nat} {v : Value} (hd : ∀ o, ops.toList[x.1]? = some o → ∀ d, o.dst = some d → dst ≠ some d) : HeldAt C ops fr φ N (a.put dst v) x := by
  obtain ⟨o, d, ob, mk, v', sz, h1, h2, h3, h4, h5, h6⟩ := h.ex
  refine ⟨o, d, ob, mk, v', sz, h1, h2, h3, h4, h5, ?_⟩
  have hne := hd o h1 d h2
  cases dst with
  | none => exact h6
  | some e =>
    have hed : e ≠ d := fun e2 => hne (by rw [e2])
    intro hlt
    have hlt' : d < a.tmps.size := by simpa [Act.put] using hlt
    rw [← h6 hlt']
    show (a.tmps.setIfInBounds e v).getD d undef = _
    rw [Array.getD_eq_getD_getElem?, Array.getD_eq_getD_getElem?, Array.getElem?_setIfInBounds_ne hed]

/-- What holds while a region runs: the interpreter stands somewhere in its plan, the machine has run some of what it has run, and some makers ahead of it. -/
structure Inv (C : Ctx) (w0 : Base) (ops : Array Oper) (E masks plan : List Nat) (fr0 : Fr) (pre : List Ent) (rest : List Nat) (reads : List Ent) (fr : Fr) (s : St) (φ : Nat → Option Loc) (H : List (Nat × Nat × Obj)) (S : Nat → Bool) (a : Act) (w : World) : Prop where
  plan : plan = ids pre ++ rest
  ent : ∀ e ∈ pre, ops.toList[e.i]? = some e.o
  frs : ∀ p e q, pre = p ++ e :: q → e.fr = frAll p fr0
  cur : fr = frAll pre fr0
  sub : ∀ i, S i = true → i ∈ ids pre ∨ ∃ x ∈ H, x.1 = i
  spine : ∀ e ∈ pre, isFloat e.o.op = false → awanted ops e.o e.fr = some true → S e.i = true
  late : ∀ e ∈ pre, S e.i = false → Lz C s ops e
  reads : ∀ e ∈ pre, S e.i = false → awanted ops e.o e.fr = some true → aP C e.o.op e.fr.eval = none → e ∈ reads
  rel : Rel C (w0.hold H) φ s w
  frr : FrR φ s.next (frD S pre fr0) a
  down : Down ops.toList S
  hrest : ∀ x ∈ H, x.1 ∈ rest
  hS : ∀ x ∈ H, S x.1 = true
  hE : ∀ x ∈ H, x.1 ∈ E
  hkeys : (H.map (·.1)).Nodup
  hat : ∀ x ∈ H, HeldAt C ops fr φ s.next a x

/-- What a plan's early makers are. -/
structure EOk (ops : Array Oper) (E : List Nat) (fr0 : Fr) : Prop where
  can : ∀ x ∈ E, ∃ o, ops.toList[x]? = some o ∧ canEarly ops.toList o = true
  any : ∀ x ∈ E, ∀ o d, ops.toList[x]? = some o → o.dst = some d → d < fr0.nt → fr0.get d = .tuple #[.nilFunc]
theorem early_maker {ops : List Oper} {o : Oper} (h : canEarly ops o = true) : isMaker o.op = true ∧ o.guard = none ∧ ∃ d, o.dst = some d := by
  unfold canEarly at h
  simp only [Bool.and_eq_true] at h
  refine ⟨h.1.1, by simpa using h.1.2, ?_⟩
  cases hd : o.dst with
  | none => rw [hd] at h; simp at h
  | some d => exact ⟨d, rfl⟩
theorem filter_one {α : Type} {p : α → Bool} : ∀ {l : List α} {i j : Nat} {a b : α}, (l.filter p).length = 1 → l[i]? = some a → l[j]? = some b → p a = true → p b = true → i = j
  | [], i, j, a, b, h, h1, _, _, _ => by simp at h1
  | x :: l, i, j, a, b, h, h1, h2, h3, h4 => by
    have key : ∀ (k : Nat) (c : α), l[k]? = some c → p c = true → 1 ≤ (l.filter p).length := fun k c hk hc => List.length_pos_of_mem (List.mem_filter.2 ⟨List.mem_of_getElem? hk, hc⟩)
    rw [List.filter_cons] at h
    cases i with
    | zero =>
      cases j with
      | zero => rfl
      | succ j =>
        have : x = a := by simpa using h1
        subst this
        rw [if_pos h3, List.length_cons] at h
        have := key j b (by simpa using h2) h4
        omega
    | succ i =>
      cases j with
      | zero =>
        have : x = b := by simpa using h2
        subst this
        rw [if_pos h4, List.length_cons] at h
        have := key i a (by simpa using h1) h3
        omega
      | succ j =>
        by_cases hx : p x = true
        · rw [if_pos hx, List.length_cons] at h
          have := key i a (by simpa using h1) h3
          omega
        · rw [if_neg hx] at h
          exact congrArg (· + 1) (filter_one (l := l) (a := a) (b := b) h (by simpa using h1) (by simpa using h2) h3 h4)
/-- Nothing else writes what an early maker writes. -/
theorem early_alone {ops : List Oper} {o p : Oper} {i j d : Nat} (h : canEarly ops o = true) (hi : ops[i]? = some o) (hj : ops[j]? = some p) (hd : o.dst = some d) (hp : p.dst = some d) : i = j := by
  unfold canEarly at h
  simp only [hd, Bool.and_eq_true] at h
  exact filter_one (p := fun p => dstIs p d) (Nat.eq_of_beq_eq_true h.2.1) hi hj (by simp [dstIs, hd]) (by simp [dstIs, hp])
theorem early_names {ops : List Oper} {o p : Oper} {j d : Nat} (h : canEarly ops o = true) (hj : ops[j]? = some p) (hm : isMaker p.op = true) (hp : p.dst = some d) : d ∉ opTmps o := by
  unfold canEarly at h
  simp only [Bool.and_eq_true] at h
  intro hmem
  have h2 := h.2
  split at h2
  · simp only [Bool.and_eq_true, List.all_eq_true] at h2
    have := h2.2 p (List.mem_of_getElem? hj)
    simp [hm, writesIn, hp, hmem] at this
  · cases h2

variable {ops : Array Oper} {E masks plan : List Nat} {H : List (Nat × Nat × Obj)} {fr0 fr : Fr} {pre : List Ent} {rest : List Nat} {reads : List Ent} {s : St} {φ : Nat → Option Loc} {S : Nat → Bool} {a : Act} {w : World}

/-- A temporary that a ready operation names holds what it held when the interpreter ran it. -/
theorem names_rel (I : Inv C w0 ops E masks plan fr0 pre rest reads fr s φ H S a w) (hp : pairsOk ops.toList E masks plan = true) (hmk : MasksOk ops.toList masks)
    {i : Nat} {o : Oper} {fri : Fr} {p q : List Ent} (ho : ops.toList[i]? = some o) (hready : ∀ e ∈ o.after.toList, Region.binds .any e = true → S e.on = true) (hS : S i = false)
    (hpre : pre = p ++ q) (hfri : fri = frAll p fr0) (hplan : ∃ l, plan = ids p ++ i :: l ∧ ∀ e ∈ q, e.i = i ∨ e.i ∈ l) {t : Nat} (ht : t ∈ namesOf ops.toList o) : (frD S pre fr0).get t = fri.get t := by
  obtain ⟨l, hpl, hql⟩ := hplan
  subst hpre
  rw [frD_append]
  rw [frD_skip q _ (fun e he hd => by
    rcases hql e he with h1 | h1
    · rw [h1]; exact hS
    · have hpo := pairs_get (p := ids p) (x := i) (q := l) (by rw [← hpl]; exact hp) h1
      obtain ⟨m, hm, hb⟩ := pair_anc hpo ho (I.ent e (by simp [he])) (.inr ⟨t, hd, ht⟩)
      cases hSe : S e.i with
      | false => rfl
      | true => rw [anc_down hmk I.down e.i m hm i hb hSe] at hS; cases hS)]
  rw [hfri, frAll_eq]
  refine frD_agree p fr0 fr0 rfl rfl fun e he hd => ?_
  obtain ⟨p1, p2, rfl⟩ := List.append_of_mem he
  have hpo := pairs_get (p := ids p1) (x := e.i) (q := ids p2 ++ i :: l) (y := i) (by
    have : ids p1 ++ e.i :: (ids p2 ++ i :: l) = plan := by rw [hpl]; simp [ids]
    rw [this]; exact hp) (by simp)
  obtain ⟨m, hm, hb⟩ := pair_anc hpo (I.ent e (by simp)) ho (.inl ⟨t, hd, ht⟩)
  exact anc_ready hmk I.down hm ho hready hb

theorem names_dst {ops : List Oper} {o : Oper} {d : Nat} (h : o.dst = some d) : d ∈ namesOf ops o := by simp [namesOf, h]
theorem names_operand {ops : List Oper} {o : Oper} {t : Nat} (h : Operand.tmp t ∈ o.op.operands.toList) : t ∈ namesOf ops o := by
  unfold namesOf
  refine List.mem_append_left _ (List.mem_append_right _ ?_)
  exact List.mem_filterMap.2 ⟨.tmp t, h, rfl⟩
theorem names_guard {ops : List Oper} {o g : Oper} {j d : Nat} {want : Bool} (h1 : o.guard = some (j, want)) (h2 : ops[j]? = some g) (h3 : g.dst = some d) : d ∈ namesOf ops o := by
  unfold namesOf
  refine List.mem_append_right _ ?_
  simp [h1, h2, h3]

/-- The machine runs what the interpreter has run already. -/
theorem late_step {F : Fence} (hF : FW F) (n : Nat) (I : Inv C w0 ops E masks plan fr0 pre rest reads fr s φ H S a w) (hp : pairsOk ops.toList E masks plan = true) (hmk : MasksOk ops.toList masks)
    {p q : List Ent} {e : Ent} (hpre : pre = p ++ e :: q) (hready : ∀ d ∈ e.o.after.toList, Region.binds .any d = true → S d.on = true) (hS : S e.i = false) (K : Act → World → Prop) (Q : Exit → Act → World → Prop)
    (hK : ∀ a', Inv C w0 ops E masks plan fr0 pre rest reads fr s φ H (fun j => if j = e.i then true else S j) a' w → K a' w) : wpOpIn F n C.P ops Q e.i K a w := by
  have he : e ∈ pre := by rw [hpre]; simp
  have ho := I.ent e he
  have ho' : ops[e.i]? = some e.o := by simpa using ho
  have hfr := I.frs p e q hpre
  have hnames : ∀ t, t ∈ namesOf ops.toList e.o → VR φ s.next (e.fr.get t) (a.tmps.getD t undef) := fun t ht => by
    have := names_rel I hp hmk (p := p) (q := e :: q) ho hready hS hpre hfr ⟨ids q ++ rest, by rw [I.plan, hpre]; simp [ids], fun e' he' => by
      rcases List.mem_cons.1 he' with rfl | h
      · exact .inl rfl
      · exact .inr (List.mem_append_left _ (List.mem_map.2 ⟨e', h, rfl⟩))⟩ ht
    rw [← this]; exact I.frr.tmps t
  -- the set behind the step
  have next : ∀ v', VR φ s.next e.v v' → Inv C w0 ops E masks plan fr0 pre rest reads fr s φ H (fun j => if j = e.i then true else S j) (a.put e.o.dst v') w := by
    intro v' hv'
    have hq : ∀ e' ∈ q, e'.i ≠ e.i ∧ (∀ t, e.o.dst = some t → e'.o.dst = some t → S e'.i = false) := fun e' he' => by
      have hpo := pairs_get (p := ids p) (x := e.i) (q := ids q ++ rest) (y := e'.i) (by
        have : ids p ++ e.i :: (ids q ++ rest) = plan := by rw [I.plan, hpre]; simp [ids]
        rw [this]; exact hp) (by simp only [List.mem_append]; exact .inl (List.mem_map.2 ⟨e', he', rfl⟩))
      refine ⟨(pair_ne hpo).symm, fun t h1 h2 => ?_⟩
      obtain ⟨m, hm, hb⟩ := pair_anc hpo ho (I.ent e' (by rw [hpre]; simp [he'])) (.inl ⟨t, h1, names_dst h2⟩)
      cases hSe : S e'.i with
      | false => rfl
      | true => rw [anc_down hmk I.down e'.i m hm e.i hb hSe] at hS; cases hS
    have hpne : ∀ e' ∈ p, e'.i ≠ e.i := fun e' he' => by
      obtain ⟨p1, p2, rfl⟩ := List.append_of_mem he'
      exact pair_ne (pairs_get (p := ids p1) (x := e'.i) (q := ids p2 ++ e.i :: (ids q ++ rest)) (y := e.i) (by
        have : ids p1 ++ e'.i :: (ids p2 ++ e.i :: (ids q ++ rest)) = plan := by rw [I.plan, hpre]; simp [ids]
        rw [this]; exact hp) (by simp))
    have hget : ∀ t, (frD (fun j => if j = e.i then true else S j) pre fr0).get t = ((frD S pre fr0).put e.o.dst e.v).get t := by
      intro t
      rw [put_get, frD_nt]
      by_cases hd : e.o.dst = some t ∧ t < fr0.nt
      · rw [if_pos hd, hpre, frD_append, frD_cons]
        rw [frD_skip q _ (fun e' he' h2 => by
          have h3 := hq e' he'
          simp only [if_neg h3.1]
          exact h3.2 t hd.1 h2)]
        simp only [if_true, stepFr]
        rw [put_get, if_pos ⟨hd.1, by rw [frD_nt]; exact hd.2⟩]
      · rw [if_neg hd]
        by_cases hd1 : e.o.dst = some t
        · -- out of the frame
          have hnt : ¬ t < fr0.nt := fun h => hd ⟨hd1, h⟩
          have hout : ∀ (S : Nat → Bool) (l : List Ent) (f : Fr), ¬ t < f.nt → (frD S l f).get t = f.get t := by
            intro S l
            induction l with
            | nil => intro f _; rfl
            | cons x l ih =>
              intro f hf
              rw [frD_cons, ih _ (by unfold stepFr; split; rw [put_nt]; exact hf; exact hf)]
              unfold stepFr
              split
              · rw [put_get, if_neg (fun h => hf h.2)]
              · rfl
          rw [hout _ _ _ hnt, hout _ _ _ hnt]
        · refine frD_agree pre fr0 fr0 rfl rfl fun e' he' h2 => ?_
          have : e'.i ≠ e.i := fun e5 => by
            have h6 := I.ent e' he'
            rw [e5, ho] at h6
            have h7 : e.o = e'.o := Option.some.inj h6
            exact hd1 (by rw [h7]; exact h2)
          simp only [if_neg this]
    refine { plan := I.plan, ent := I.ent, frs := I.frs, cur := I.cur, sub := ?_, spine := ?_, late := ?_, reads := ?_, rel := I.rel, frr := ?_, down := ?_, hrest := I.hrest, hS := ?_, hE := I.hE, hkeys := I.hkeys, hat := ?_ }
    · intro j hj
      split at hj
      · rename_i e5; subst e5; exact .inl (List.mem_map.2 ⟨e, he, rfl⟩)
      · exact I.sub j hj
    · intro e' he' h1 h2
      split
      · rfl
      · exact I.spine e' he' h1 h2
    · intro e' he' h1
      split at h1
      · cases h1
      · exact I.late e' he' h1
    · intro e' he' h1
      split at h1
      · cases h1
      · exact I.reads e' he' h1
    · have hb := I.frr.put e.o.dst hv'
      exact ⟨by have := hb.defers; simpa only [put_marks, frD_marks] using this, by rw [hb.size, put_nt, frD_nt, frD_nt], fun t => by rw [hget]; exact hb.tmps t⟩
    · intro j hj o ho2 d hd hbd
      simp only at hj ⊢
      split
      · rfl
      · split at hj
        · rename_i e5
          subst e5
          rw [ho] at ho2; cases ho2
          exact hready d hd hbd
        · exact I.down j hj o ho2 d hd hbd
    · intro x hx
      split
      · rfl
      · exact I.hS x hx
    · intro x hx
      refine (I.hat x hx).act fun o hox d hod e5 => ?_
      have hpo := pairs_get (p := ids p) (x := e.i) (q := ids q ++ rest) (y := x.1) (by
        have : ids p ++ e.i :: (ids q ++ rest) = plan := by rw [I.plan, hpre]; simp [ids]
        rw [this]; exact hp) (List.mem_append_right _ (I.hrest x hx))
      obtain ⟨m, hm, hb⟩ := pair_anc hpo ho hox (.inl ⟨d, e5, names_dst hod⟩)
      rw [anc_down hmk I.down x.1 m hm e.i hb (I.hS x hx)] at hS
      cases hS
  unfold wpOpIn
  rw [ho']
  simp only
  have hw : ∀ b, awanted ops e.o e.fr = some b → Region.wanted e.o (yielded ops a.tmps) = b := fun b hb => wanted_rel hb fun j want g d h1 h2 h3 => hnames d (names_guard h1 h2 h3)
  rcases I.late e he hS with ⟨h1, h2⟩ | ⟨h1, hfl, hok, h2⟩
  · rw [hw _ h1, if_neg Bool.false_ne_true]
    exact ⟨fun f _ => hF.fn f, hK _ (next undef (by rw [h2]; exact .tuple _ _ .nil))⟩
  · rw [hw _ h1, if_pos rfl]
    have hρ : RhoR φ s.next e.o.op e.fr.eval a.eval := fun x hx => eval_rel (List.all_eq_true.1 hok x hx) fun t e5 => hnames t (names_operand (by rw [← e5]; exact hx))
    have hnd : ∀ c, e.o.op ≠ .defer c := fun c e5 => by rw [e5] at hfl; simp [isFloat] at hfl
    have run : ∃ v', (execOp a.eval e.o).run C.P w = .ok (.value v') w ∧ VR φ s.next e.v v' := by
      rcases h2 with h2 | ⟨_, h2⟩
      · exact aP_sound I.rel.next I.rel.nowhere hρ h2 w
      · exact aR_sound I.rel hρ h2
    obtain ⟨v', h3, h4⟩ := run
    refine ⟨fun f _ => hF.fn f, ?_⟩
    rw [Oper.semAt_eq _ _ _ hnd, h3]
    exact hK _ (next v' h4)

/-- Rechecked reads stand. -/
theorem recheck_ok {m : Nat} {s' : St} {r : Prop} : ∀ (l : List Ent), recheck C ansP m s' l r → r ∧ ∀ e ∈ l, m.testBit e.i = false → aR C s' e.o.op e.fr.eval = some e.v
  | [], h => ⟨h, fun e he => by simp at he⟩
  | e :: l, h => by
    unfold recheck at h
    split at h
    · rename_i hb
      obtain ⟨h1, h2⟩ := recheck_ok l h
      refine ⟨h1, fun e' he' hb' => ?_⟩
      rcases List.mem_cons.1 he' with rfl | h3
      · rw [hb] at hb'; cases hb'
      · exact h2 e' h3 hb'
    · split at h
      · rename_i v hv
        obtain ⟨rfl, h0⟩ := h
        obtain ⟨h1, h2⟩ := recheck_ok l h0
        refine ⟨h1, fun e' he' hb' => ?_⟩
        rcases List.mem_cons.1 he' with rfl | h3
        · exact hv
        · exact h2 e' h3 hb'
      · exact h.elim

theorem nodup_rest {i : Nat} (I : Inv C w0 ops E masks plan fr0 pre (i :: rest) reads fr s φ H S a w) (hp : pairsOk ops.toList E masks plan = true) : i ∉ ids pre := fun h => by
  obtain ⟨e, he, rfl⟩ := List.mem_map.1 h
  obtain ⟨p1, p2, rfl⟩ := List.append_of_mem he
  exact pair_ne (pairs_get (p := ids p1) (x := e.i) (q := ids p2 ++ e.i :: rest) (y := e.i) (by
    have : ids p1 ++ e.i :: (ids p2 ++ e.i :: rest) = plan := by rw [I.plan]; simp [ids]
    rw [this]; exact hp) (by simp)) rfl
/-- What stands at the head of the rest names nothing that a held maker reads. -/
theorem held_free {i : Nat} (I : Inv C w0 ops E masks plan fr0 pre (i :: rest) reads fr s φ H S a w) (hp : pairsOk ops.toList E masks plan = true) (hmk : MasksOk ops.toList masks) (hE : EOk ops E fr0) {o1 : Oper} (ho1 : ops.toList[i]? = some o1)
    (hc : S i = false ∨ isMaker o1.op = true) {x : Nat × Nat × Obj} (hx : x ∈ H) (hne : x.1 ≠ i) : ∀ o, ops.toList[x.1]? = some o → ∀ d, o1.dst = some d → d ∉ opTmps o := fun o ho d hd hmem => by
  rcases hc with hc | hc
  · have hr : x.1 ∈ rest := (List.mem_cons.1 (I.hrest x hx)).resolve_left hne
    have hpo := pairs_get (p := ids pre) (x := i) (q := rest) (y := x.1) (by rw [← I.plan]; exact hp) hr
    obtain ⟨t, ht1, ht2⟩ := List.mem_filterMap.1 hmem
    have hdt : d ∈ namesOf ops.toList o := by
      cases t with
      | tmp t => cases ht2; exact names_operand ht1
      | _ => cases ht2
    obtain ⟨m, hm, hb⟩ := pair_anc hpo ho1 ho (.inl ⟨d, hd, hdt⟩)
    rw [anc_down hmk I.down x.1 m hm i hb (I.hS x hx)] at hc
    cases hc
  · obtain ⟨o', ho', hcan⟩ := hE.can x.1 (I.hE x hx)
    rw [ho] at ho'
    cases ho'
    exact early_names hcan ho1 hc hd hmem
theorem frs_step {i : Nat} {o : Oper} {v : Value} (I : Inv C w0 ops E masks plan fr0 pre (i :: rest) reads fr s φ H S a w) : ∀ p e q, pre ++ [⟨i, o, fr, v⟩] = p ++ e :: q → e.fr = frAll p fr0 := by
  intro p e q hpq
  rcases List.append_eq_append_iff.1 hpq with ⟨t, h1, h2⟩ | ⟨t, h1, h2⟩
  · cases t with
    | nil =>
      simp only [List.nil_append, List.cons.injEq] at h2
      obtain ⟨rfl, rfl⟩ := h2
      simp only [List.append_nil] at h1
      subst h1
      exact I.cur
    | cons x t => simp at h2
  · cases t with
    | nil =>
      simp only [List.nil_append, List.cons.injEq, List.append_nil] at h1 h2
      obtain ⟨rfl, rfl⟩ := h2
      subst h1
      exact I.cur
    | cons x t =>
      simp only [List.cons_append, List.cons.injEq] at h2
      obtain ⟨rfl, h3⟩ := h2
      exact I.frs p _ t h1
/-- One more entry of the plan, run by the interpreter alone. -/
theorem inv_float {i : Nat} (I : Inv C w0 ops E masks plan fr0 pre (i :: rest) reads fr s φ H S a w) (hp : pairsOk ops.toList E masks plan = true) (hmk : MasksOk ops.toList masks) (hE : EOk ops E fr0) {o : Oper} {v : Value} {reads' : List Ent} (ho : ops.toList[i]? = some o)
    (hnm : isFloat o.op = true ∨ awanted ops o fr = some false)
    (hsp : isFloat o.op = false → awanted ops o fr = some true → False) (hl : Lz C s ops ⟨i, o, fr, v⟩) (hr : ∀ e, e ∈ reads → e ∈ reads')
    (hr2 : awanted ops o fr = some true → aP C o.op fr.eval = none → (⟨i, o, fr, v⟩ : Ent) ∈ reads') :
    Inv C w0 ops E masks plan fr0 (pre ++ [⟨i, o, fr, v⟩]) rest reads' (fr.put o.dst v) s φ H S a w := by
  have hnot := nodup_rest I hp
  have hSi : S i = false := by
    cases h : S i with
    | false => rfl
    | true =>
      exfalso
      rcases I.sub i h with h1 | ⟨x, hx, rfl⟩
      · exact hnot h1
      · obtain ⟨o', ho', hcan⟩ := hE.can x.1 (I.hE x hx)
        rw [ho] at ho'
        cases ho'
        obtain ⟨h1, h2, _⟩ := early_maker hcan
        rcases hnm with h3 | h3
        · revert h1 h3
          cases o.op <;> simp [isMaker, isFloat]
        · simp [awanted, h2] at h3
  have hne : ∀ x ∈ H, x.1 ≠ i := fun x hx e => by
    have := I.hS x hx
    rw [e, hSi] at this
    cases this
  refine { plan := by rw [I.plan]; simp [ids], ent := ?_, frs := frs_step I, cur := ?_, sub := ?_, spine := ?_, late := ?_, reads := ?_, rel := I.rel, frr := ?_, down := I.down, hrest := ?_, hS := I.hS, hE := I.hE, hkeys := I.hkeys, hat := ?_ }
  · intro e he
    rcases List.mem_append.1 he with h | h
    · exact I.ent e h
    · simp only [List.mem_singleton] at h; subst h; exact ho
  · rw [I.cur]; simp [frAll]
  · intro j hj
    rcases I.sub j hj with this | this
    · left
      simp only [ids, List.map_append, List.mem_append] at this ⊢
      exact .inl this
    · exact .inr this
  · intro e he h1 h2
    rcases List.mem_append.1 he with h | h
    · exact I.spine e h h1 h2
    · simp only [List.mem_singleton] at h; subst h; exact (hsp h1 h2).elim
  · intro e he h1
    rcases List.mem_append.1 he with h | h
    · exact I.late e h h1
    · simp only [List.mem_singleton] at h; subst h; exact hl
  · intro e he h1 h2 h3
    rcases List.mem_append.1 he with h | h
    · exact hr e (I.reads e h h1 h2 h3)
    · simp only [List.mem_singleton] at h; subst h; exact hr2 h2 h3
  · have : frD S (pre ++ [⟨i, o, fr, v⟩]) fr0 = frD S pre fr0 := by
      rw [frD_append, frD_cons]
      simp only [hSi, stepFr]
      rfl
    rw [this]; exact I.frr
  · intro x hx
    exact (List.mem_cons.1 (I.hrest x hx)).resolve_left (hne x hx)
  · intro x hx
    exact (I.hat x hx).step (held_free I hp hmk hE ho (.inl hSi) hx (hne x hx))
end
end Go.Proofs.Ytpdhkonifbdckaa.Abs
