/- Regions that draw their order, continued: the plan's order stands for every order. -/
import Derived.Test.YtcbifjbmbceipaaAbs15
namespace Go.Proofs.Ytcbifjbmbceipaa.Abs
open Go
set_option linter.unusedSectionVars false
variable [Tok]
set_option linter.unusedSimpArgs false

section
variable {C : Ctx} {w0 : World}

/-- What was run and need not have been run yet gives the value that it gave. -/
def Lz (C : Ctx) (s : St) (ops : Array Oper) (e : Ent) : Prop :=
  (awanted ops e.o e.fr = some false ∧ e.v = undef) ∨
  (awanted ops e.o e.fr = some true ∧ isFloat e.o.op = true ∧ e.o.op.operands.toList.all okOperand = true ∧ (aP C e.o.op e.fr.eval = some e.v ∨ (aP C e.o.op e.fr.eval = none ∧ aR C s e.o.op e.fr.eval = some e.v)))

def ids (pre : List Ent) : List Nat := pre.map (·.i)

/-- The plan's pairs, laid open. -/
theorem pairs_get {ops : List Oper} {masks : List Nat} : ∀ {p q : List Nat} {x y : Nat}, pairsOk ops masks (p ++ x :: q) = true → y ∈ q → pairOk ops masks x y = true
  | [], q, x, y, h, hy => by
    simp only [List.nil_append, pairsOk, Bool.and_eq_true, List.all_eq_true] at h
    exact h.1 y hy
  | z :: p, q, x, y, h, hy => by
    simp only [List.cons_append, pairsOk, Bool.and_eq_true] at h
    exact pairs_get h.2 hy

theorem pair_ne {ops : List Oper} {masks : List Nat} {x y : Nat} (h : pairOk ops masks x y = true) : x ≠ y := by
  unfold pairOk at h
  split at h
  · simp only [Bool.and_eq_true] at h
    intro e
    subst e
    simp at h
  · cases h

theorem pair_anc {ops : List Oper} {masks : List Nat} {x y : Nat} (h : pairOk ops masks x y = true) {a b : Oper} (ha : ops[x]? = some a) (hb : ops[y]? = some b)
    (hc : isFloat a.op = false ∨ (∃ d, a.dst = some d ∧ d ∈ namesOf ops b) ∨ (∃ d, b.dst = some d ∧ d ∈ namesOf ops a)) : ∃ m, masks[y]? = some m ∧ m.testBit x = true := by
  unfold pairOk at h
  rw [ha, hb] at h
  split at h
  · rename_i a' b' m h1 h2 hm
    cases h1; cases h2
    refine ⟨m, hm, ?_⟩
    simp only [Bool.and_eq_true, Bool.or_eq_true] at h
    rcases h.2 with h3 | h3
    · exfalso
      obtain ⟨⟨h4, h5⟩, h6⟩ := h3
      rcases hc with hc | ⟨d, hd, hm⟩ | ⟨d, hd, hm⟩
      · rw [hc] at h4; cases h4
      · simp [writesIn, hd, hm] at h5
      · simp [writesIn, hd, hm] at h6
    · exact h3
  · cases h

/-- What holds while a region runs: the interpreter stands somewhere in its plan, the machine has run some of what it has run. -/
structure Inv (C : Ctx) (w0 : World) (ops : Array Oper) (masks plan : List Nat) (fr0 : Fr) (pre : List Ent) (rest : List Nat) (reads : List Ent) (fr : Fr) (s : St) (φ : Nat → Option Loc) (S : Nat → Bool) (a : Act) (w : World) : Prop where
  plan : plan = ids pre ++ rest
  ent : ∀ e ∈ pre, ops.toList[e.i]? = some e.o
  frs : ∀ p e q, pre = p ++ e :: q → e.fr = frAll p fr0
  cur : fr = frAll pre fr0
  sub : ∀ i, S i = true → i ∈ ids pre
  spine : ∀ e ∈ pre, isFloat e.o.op = false → awanted ops e.o e.fr = some true → S e.i = true
  late : ∀ e ∈ pre, S e.i = false → Lz C s ops e
  reads : ∀ e ∈ pre, S e.i = false → awanted ops e.o e.fr = some true → aP C e.o.op e.fr.eval = none → e ∈ reads
  rel : Rel C w0 φ s w
  frr : FrR φ s.next (frD S pre fr0) a
  down : Down ops.toList S

variable {ops : Array Oper} {masks plan : List Nat} {fr0 fr : Fr} {pre : List Ent} {rest : List Nat} {reads : List Ent} {s : St} {φ : Nat → Option Loc} {S : Nat → Bool} {a : Act} {w : World}

/-- A temporary that a ready operation names holds what it held when the interpreter ran it. -/
theorem names_rel (I : Inv C w0 ops masks plan fr0 pre rest reads fr s φ S a w) (hp : pairsOk ops.toList masks plan = true) (hmk : MasksOk ops.toList masks)
    {i : Nat} {o : Oper} {fri : Fr} {p q : List Ent} (ho : ops.toList[i]? = some o) (hready : ∀ e ∈ o.after.toList, Region.binds .any e = true → S e.on = true) (hS : S i = false)
    (hpre : pre = p ++ q) (hfri : fri = frAll p fr0) (hplan : ∃ l, plan = ids p ++ i :: l ∧ ∀ e ∈ q, e.i = i ∨ e.i ∈ l) {t : Nat} (ht : t ∈ namesOf ops.toList o) : (frD S pre fr0).get t = fri.get t := by
  obtain ⟨l, hpl, hql⟩ := hplan
  subst hpre
  rw [frD_append]
  rw [frD_skip q _ (fun e he hd => by
    rcases hql e he with h1 | h1
    · rw [h1]; exact hS
    · have hpo := pairs_get (p := ids p) (x := i) (q := l) (by rw [← hpl]; exact hp) h1
      obtain ⟨m, hm, hb⟩ := pair_anc hpo ho (I.ent e (by simp [he])) (.inr (.inr ⟨t, hd, ht⟩))
      cases hSe : S e.i with
      | false => rfl
      | true => rw [anc_down hmk I.down e.i m hm i hb hSe] at hS; cases hS)]
  rw [hfri, frAll_eq]
  refine frD_agree p fr0 fr0 rfl rfl fun e he hd => ?_
  obtain ⟨p1, p2, rfl⟩ := List.append_of_mem he
  have hpo := pairs_get (p := ids p1) (x := e.i) (q := ids p2 ++ i :: l) (y := i) (by
    have : ids p1 ++ e.i :: (ids p2 ++ i :: l) = plan := by rw [hpl]; simp [ids]
    rw [this]; exact hp) (by simp)
  obtain ⟨m, hm, hb⟩ := pair_anc hpo (I.ent e (by simp)) ho (.inr (.inl ⟨t, hd, ht⟩))
  exact anc_ready hmk I.down hm ho hready hb

theorem names_dst {ops : List Oper} {o : Oper} {d : Nat} (h : o.dst = some d) : d ∈ namesOf ops o := by simp [namesOf, h]
theorem names_operand {ops : List Oper} {o : Oper} {t : Nat} (h : Operand.tmp t ∈ o.op.operands.toList) : t ∈ namesOf ops o := by
  unfold namesOf
  refine List.mem_append_left _ (List.mem_append_right _ ?_)
  exact List.mem_filterMap.2 ⟨.tmp t, h, rfl⟩
theorem names_guard {ops : List Oper} {o g : Oper} {j d : Nat} {want : Bool} (h1 : o.guard = some (j, want)) (h2 : ops[j]? = some g) (h3 : g.dst = some d) : d ∈ namesOf ops o := by
  unfold namesOf
  refine List.mem_append_right _ ?_
  simp [h1, h2, h3]

/-- The machine runs what the interpreter has run already. -/
theorem late_step {F : Fence} (hF : FW F) (n : Nat) (I : Inv C w0 ops masks plan fr0 pre rest reads fr s φ S a w) (hp : pairsOk ops.toList masks plan = true) (hmk : MasksOk ops.toList masks)
    {p q : List Ent} {e : Ent} (hpre : pre = p ++ e :: q) (hready : ∀ d ∈ e.o.after.toList, Region.binds .any d = true → S d.on = true) (hS : S e.i = false) (K : Act → World → Prop) (Q : Exit → Act → World → Prop)
    (hK : ∀ a', Inv C w0 ops masks plan fr0 pre rest reads fr s φ (fun j => if j = e.i then true else S j) a' w → K a' w) : wpOpIn F n C.P ops Q e.i K a w := by
  have he : e ∈ pre := by rw [hpre]; simp
  have ho := I.ent e he
  have ho' : ops[e.i]? = some e.o := by simpa using ho
  have hfr := I.frs p e q hpre
  have hnames : ∀ t, t ∈ namesOf ops.toList e.o → VR φ s.next (e.fr.get t) (a.tmps.getD t undef) := fun t ht => by
    have := names_rel I hp hmk (p := p) (q := e :: q) ho hready hS hpre hfr ⟨ids q ++ rest, by rw [I.plan, hpre]; simp [ids], fun e' he' => by
      rcases List.mem_cons.1 he' with rfl | h
      · exact .inl rfl
      · exact .inr (List.mem_append_left _ (List.mem_map.2 ⟨e', h, rfl⟩))⟩ ht
    rw [← this]; exact I.frr.tmps t
  -- the set behind the step
  have next : ∀ v', VR φ s.next e.v v' → Inv C w0 ops masks plan fr0 pre rest reads fr s φ (fun j => if j = e.i then true else S j) (a.put e.o.dst v') w := by
    intro v' hv'
    have hq : ∀ e' ∈ q, e'.i ≠ e.i ∧ (∀ t, e.o.dst = some t → e'.o.dst = some t → S e'.i = false) := fun e' he' => by
      have hpo := pairs_get (p := ids p) (x := e.i) (q := ids q ++ rest) (y := e'.i) (by
        have : ids p ++ e.i :: (ids q ++ rest) = plan := by rw [I.plan, hpre]; simp [ids]
        rw [this]; exact hp) (by simp only [List.mem_append]; exact .inl (List.mem_map.2 ⟨e', he', rfl⟩))
      refine ⟨(pair_ne hpo).symm, fun t h1 h2 => ?_⟩
      obtain ⟨m, hm, hb⟩ := pair_anc hpo ho (I.ent e' (by rw [hpre]; simp [he'])) (.inr (.inl ⟨t, h1, names_dst h2⟩))
      cases hSe : S e'.i with
      | false => rfl
      | true => rw [anc_down hmk I.down e'.i m hm e.i hb hSe] at hS; cases hS
    have hpne : ∀ e' ∈ p, e'.i ≠ e.i := fun e' he' => by
      obtain ⟨p1, p2, rfl⟩ := List.append_of_mem he'
      exact pair_ne (pairs_get (p := ids p1) (x := e'.i) (q := ids p2 ++ e.i :: (ids q ++ rest)) (y := e.i) (by
        have : ids p1 ++ e'.i :: (ids p2 ++ e.i :: (ids q ++ rest)) = plan := by rw [I.plan, hpre]; simp [ids]
        rw [this]; exact hp) (by simp))
    have hget : ∀ t, (frD (fun j => if j = e.i then true else S j) pre fr0).get t = ((frD S pre fr0).put e.o.dst e.v).get t := by
      intro t
      rw [put_get, frD_nt]
      by_cases hd : e.o.dst = some t ∧ t < fr0.nt
      · rw [if_pos hd, hpre, frD_append, frD_cons]
        rw [frD_skip q _ (fun e' he' h2 => by
          have h3 := hq e' he'
          simp only [if_neg h3.1]
          exact h3.2 t hd.1 h2)]
        simp only [if_true, stepFr]
        rw [put_get, if_pos ⟨hd.1, by rw [frD_nt]; exact hd.2⟩]
      · rw [if_neg hd]
        by_cases hd1 : e.o.dst = some t
        · -- out of the frame
          have hnt : ¬ t < fr0.nt := fun h => hd ⟨hd1, h⟩
          have hout : ∀ (S : Nat → Bool) (l : List Ent) (f : Fr), ¬ t < f.nt → (frD S l f).get t = f.get t := by
            intro S l
            induction l with
            | nil => intro f _; rfl
            | cons x l ih =>
              intro f hf
              rw [frD_cons, ih _ (by unfold stepFr; split; rw [put_nt]; exact hf; exact hf)]
              unfold stepFr
              split
              · rw [put_get, if_neg (fun h => hf h.2)]
              · rfl
          rw [hout _ _ _ hnt, hout _ _ _ hnt]
        · refine frD_agree pre fr0 fr0 rfl rfl fun e' he' h2 => ?_
          have : e'.i ≠ e.i := fun e5 => by
            have h6 := I.ent e' he'
            rw [e5, ho] at h6
            have h7 : e.o = e'.o := Option.some.inj h6
            exact hd1 (by rw [h7]; exact h2)
          simp only [if_neg this]
    refine { plan := I.plan, ent := I.ent, frs := I.frs, cur := I.cur, sub := ?_, spine := ?_, late := ?_, reads := ?_, rel := I.rel, frr := ?_, down := ?_ }
    · intro j hj
      split at hj
      · rename_i e5; subst e5; exact List.mem_map.2 ⟨e, he, rfl⟩
      · exact I.sub j hj
    · intro e' he' h1 h2
      split
      · rfl
      · exact I.spine e' he' h1 h2
    · intro e' he' h1
      split at h1
      · cases h1
      · exact I.late e' he' h1
    · intro e' he' h1
      split at h1
      · cases h1
      · exact I.reads e' he' h1
    · have hb := I.frr.put e.o.dst hv'
      exact ⟨by have := hb.defers; simpa only [put_marks, frD_marks] using this, by rw [hb.size, put_nt, frD_nt, frD_nt], fun t => by rw [hget]; exact hb.tmps t⟩
    · intro j hj o ho2 d hd hbd
      simp only at hj ⊢
      split
      · rfl
      · split at hj
        · rename_i e5
          subst e5
          rw [ho] at ho2; cases ho2
          exact hready d hd hbd
        · exact I.down j hj o ho2 d hd hbd
  unfold wpOpIn
  rw [ho']
  simp only
  have hw : ∀ b, awanted ops e.o e.fr = some b → Region.wanted e.o (yielded ops a.tmps) = b := fun b hb => wanted_rel hb fun j want g d h1 h2 h3 => hnames d (names_guard h1 h2 h3)
  rcases I.late e he hS with ⟨h1, h2⟩ | ⟨h1, hfl, hok, h2⟩
  · rw [hw _ h1, if_neg Bool.false_ne_true]
    exact ⟨fun f _ => hF.fn f, hK _ (next undef (by rw [h2]; exact .tuple _ _ .nil))⟩
  · rw [hw _ h1, if_pos rfl]
    have hρ : RhoR φ s.next e.o.op e.fr.eval a.eval := fun x hx => eval_rel (List.all_eq_true.1 hok x hx) fun t e5 => hnames t (names_operand (by rw [← e5]; exact hx))
    have hnd : ∀ c, e.o.op ≠ .defer c := fun c e5 => by rw [e5] at hfl; simp [isFloat] at hfl
    have run : ∃ v', (execOp a.eval e.o).run C.P w = .ok (.value v') w ∧ VR φ s.next e.v v' := by
      rcases h2 with h2 | ⟨_, h2⟩
      · exact aP_sound I.rel.next I.rel.nowhere hρ h2 w
      · exact aR_sound I.rel hρ h2
    obtain ⟨v', h3, h4⟩ := run
    refine ⟨fun f _ => hF.fn f, ?_⟩
    rw [Oper.semAt_eq _ _ _ hnd, h3]
    exact hK _ (next v' h4)

/-- Rechecked reads stand. -/
theorem recheck_ok {m : Nat} {s' : St} {r : Prop} : ∀ (l : List Ent), recheck C ansP m s' l r → r ∧ ∀ e ∈ l, m.testBit e.i = false → aR C s' e.o.op e.fr.eval = some e.v
  | [], h => ⟨h, fun e he => by simp at he⟩
  | e :: l, h => by
    unfold recheck at h
    split at h
    · rename_i hb
      obtain ⟨h1, h2⟩ := recheck_ok l h
      refine ⟨h1, fun e' he' hb' => ?_⟩
      rcases List.mem_cons.1 he' with rfl | h3
      · rw [hb] at hb'; cases hb'
      · exact h2 e' h3 hb'
    · split at h
      · rename_i v hv
        obtain ⟨rfl, h0⟩ := h
        obtain ⟨h1, h2⟩ := recheck_ok l h0
        refine ⟨h1, fun e' he' hb' => ?_⟩
        rcases List.mem_cons.1 he' with rfl | h3
        · exact hv
        · exact h2 e' h3 hb'
      · exact h.elim

/-- One more entry of the plan, run by the interpreter alone. -/
theorem inv_float {i : Nat} (I : Inv C w0 ops masks plan fr0 pre (i :: rest) reads fr s φ S a w) (hp : pairsOk ops.toList masks plan = true) {o : Oper} {v : Value} {reads' : List Ent} (ho : ops.toList[i]? = some o)
    (hsp : isFloat o.op = false → awanted ops o fr = some true → False) (hl : Lz C s ops ⟨i, o, fr, v⟩) (hr : ∀ e, e ∈ reads → e ∈ reads')
    (hr2 : awanted ops o fr = some true → aP C o.op fr.eval = none → (⟨i, o, fr, v⟩ : Ent) ∈ reads') :
    Inv C w0 ops masks plan fr0 (pre ++ [⟨i, o, fr, v⟩]) rest reads' (fr.put o.dst v) s φ S a w := by
  have hnot : i ∉ ids pre := fun h => by
    obtain ⟨e, he, rfl⟩ := List.mem_map.1 h
    obtain ⟨p1, p2, rfl⟩ := List.append_of_mem he
    exact pair_ne (pairs_get (p := ids p1) (x := e.i) (q := ids p2 ++ e.i :: rest) (y := e.i) (by
      have : ids p1 ++ e.i :: (ids p2 ++ e.i :: rest) = plan := by rw [I.plan]; simp [ids]
      rw [this]; exact hp) (by simp)) rfl
  have hSi : S i = false := by
    cases h : S i with
    | false => rfl
    | true => exact absurd (I.sub i h) hnot
  refine { plan := by rw [I.plan]; simp [ids], ent := ?_, frs := ?_, cur := ?_, sub := ?_, spine := ?_, late := ?_, reads := ?_, rel := I.rel, frr := ?_, down := I.down }
  · intro e he
    rcases List.mem_append.1 he with h | h
    · exact I.ent e h
    · simp only [List.mem_singleton] at h; subst h; exact ho
  · intro p e q hpq
    rcases List.append_eq_append_iff.1 hpq with ⟨t, h1, h2⟩ | ⟨t, h1, h2⟩
    · cases t with
      | nil =>
        simp only [List.nil_append, List.cons.injEq] at h2
        obtain ⟨rfl, rfl⟩ := h2
        simp only [List.append_nil] at h1
        subst h1
        exact I.cur
      | cons x t => simp at h2
    · cases t with
      | nil =>
        simp only [List.nil_append, List.cons.injEq, List.append_nil] at h1 h2
        obtain ⟨rfl, rfl⟩ := h2
        subst h1
        exact I.cur
      | cons x t =>
        simp only [List.cons_append, List.cons.injEq] at h2
        obtain ⟨rfl, h3⟩ := h2
        exact I.frs p _ t h1
  · rw [I.cur]; simp [frAll]
  · intro j hj
    have := I.sub j hj
    simp only [ids, List.map_append, List.mem_append] at this ⊢
    exact .inl this
  · intro e he h1 h2
    rcases List.mem_append.1 he with h | h
    · exact I.spine e h h1 h2
    · simp only [List.mem_singleton] at h; subst h; exact (hsp h1 h2).elim
  · intro e he h1
    rcases List.mem_append.1 he with h | h
    · exact I.late e h h1
    · simp only [List.mem_singleton] at h; subst h; exact hl
  · intro e he h1 h2 h3
    rcases List.mem_append.1 he with h | h
    · exact hr e (I.reads e h h1 h2 h3)
    · simp only [List.mem_singleton] at h; subst h; exact hr2 h2 h3
  · have : frD S (pre ++ [⟨i, o, fr, v⟩]) fr0 = frD S pre fr0 := by
      rw [frD_append, frD_cons]
      simp only [hSi, stepFr]
      rfl
    rw [this]; exact I.frr
end
end Go.Proofs.Ytcbifjbmbceipaa.Abs
