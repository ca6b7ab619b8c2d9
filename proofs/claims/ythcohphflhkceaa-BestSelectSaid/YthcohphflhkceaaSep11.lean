/- Ranges over functions: the marks of a frame, rounds; calls of methods by interface; type assertions; quotients. -/
import Derived.Test.YthcohphflhkceaaSep10
namespace Go.Proofs.Ythcohphflhkceaa.Abs
open Go
set_option linter.unusedVariables false
/-! ### A frame's marks do not matter to its code -/
def addM (ms : List Mark) (fr : Fr) : Fr := { fr with marks := fr.marks ++ ms }
theorem addM_get (ms : List Mark) (fr : Fr) (t : Nat) : (addM ms fr).get t = fr.get t := rfl
theorem addM_eval (ms : List Mark) (fr : Fr) : (addM ms fr).eval = fr.eval := by
  funext x
  cases x <;> rfl
theorem addM_put (ms : List Mark) (fr : Fr) (d : Option Nat) (v : Value) : (addM ms fr).put d v = addM ms (fr.put d v) := by
  cases d with
  | none => rfl
  | some t =>
    show (match Nat.blt t fr.nt with | true => _ | false => _) = addM ms (match Nat.blt t fr.nt with | true => _ | false => _)
    cases Nat.blt t fr.nt <;> rfl
theorem addM_wanted (ms : List Mark) (fr : Fr) (ops : Array Oper) (o : Oper) : awanted ops o (addM ms fr) = awanted ops o fr := rfl
section
variable {C : Ctx} {hd : HH Prop} {rd : Bool} {ms : List Mark}
theorem runSeq_M (ops : Array Oper) : ∀ (os : List Oper) (fr : Fr) (s : St) (k : Fr → St → Prop), runSeq C ansP hd ops os (addM ms fr) s k = runSeq C ansP hd ops os fr s (fun fr s => k (addM ms fr) s)
  | [], fr, s, k => rfl
  | o :: os, fr, s, k => by
    unfold runSeq
    rw [addM_wanted, addM_eval]
    split
    · split
      · congr 1
        funext v s
        rw [addM_put, runSeq_M ops os]
      · split
        · rename_i m hm
          have e : ({ (addM ms fr).put o.dst undef with marks := m :: (addM ms fr).marks } : Fr) = addM ms { fr.put o.dst undef with marks := m :: fr.marks } := by
            rw [addM_put]; rfl
          rw [e, runSeq_M ops os]
        · rfl
    · rw [addM_put, runSeq_M ops os]
    · rfl
def entM (ms : List Mark) (e : Ent) : Ent := { e with fr := addM ms e.fr }
theorem recheck_M (m : Nat) (s : St) (r : Prop) : ∀ l : List Ent, recheck C ansP m s (l.map (entM ms)) r = recheck C ansP m s l r
  | [] => rfl
  | e :: l => by
    rw [List.map_cons]
    unfold recheck
    rw [recheck_M m s r l]
    rw [show (entM ms e).i = e.i from rfl, show (entM ms e).o = e.o from rfl, show (entM ms e).v = e.v from rfl, show (entM ms e).fr.eval = e.fr.eval from addM_eval _ _]
theorem lateOk_M (ops : Array Oper) (E masks rest : List Nat) (fr : Fr) : lateOk C ops E masks rest (addM ms fr) = lateOk C ops E masks rest fr := by
  unfold lateOk
  rw [addM_eval]
theorem blank_M (ops : Array Oper) : ∀ (E : List Nat) (fr : Fr), blank ops E (addM ms fr) = addM ms (blank ops E fr)
  | [], fr => rfl
  | x :: E, fr => by
    unfold blank
    split
    · rw [addM_put, blank_M ops E]
    · exact blank_M ops E fr
theorem runPlan_M (ops : Array Oper) (E masks : List Nat) : ∀ (plan : List Nat) (rs : List Ent) (fr : Fr) (s : St) (k : Fr → St → Prop),
    runPlan C ansP hd ops E masks plan (rs.map (entM ms)) (addM ms fr) s k = runPlan C ansP hd ops E masks plan rs fr s (fun fr s => k (addM ms fr) s)
  | [], rs, fr, s, k => rfl
  | i :: rest, rs, fr, s, k => by
    unfold runPlan
    split
    · rename_i o m ho hm
      rw [addM_wanted, addM_eval, lateOk_M]
      split
      · rfl
      · rw [addM_put, runPlan_M ops E masks rest]
      · split
        · rfl
        · split
          · rw [addM_put, runPlan_M ops E masks rest]
          · split
            · have := runPlan_M ops E masks rest ({ i := i, o := o, fr := fr, v := ‹Value› } :: rs) (fr.put o.dst ‹Value›) s k
              rw [addM_put, ← this]
              rfl
            · rfl
        · split
          · congr 1
            funext v s'
            rw [addM_put, runPlan_M ops E masks rest, recheck_M]
          · rfl
    · rfl
theorem runDraw_M (ops : Array Oper) (fr : Fr) (s : St) (k : Fr → St → Prop) : runDraw C ansP hd ops (addM ms fr) s k = runDraw C ansP hd ops fr s (fun fr s => k (addM ms fr) s) := by
  unfold runDraw
  split
  · rw [blank_M]
    exact runPlan_M ops _ _ _ [] _ s k
  · rfl
theorem loopN_M (body : Fr → St → (AX → Fr → St → Prop) → Prop) (hb : ∀ fr s k, body (addM ms fr) s k = body fr s (fun e fr s => k e (addM ms fr) s)) : ∀ (n : Nat) (fr : Fr) (s : St) (k : AX → Fr → St → Prop), loopN ansP body n (addM ms fr) s k = loopN ansP body n fr s (fun e fr s => k e (addM ms fr) s)
  | 0, fr, s, k => rfl
  | n + 1, fr, s, k => by
    unfold loopN
    rw [hb]
    congr 1
    funext e fr s
    cases e with
    | normal => exact loopN_M body hb n fr s k
    | exit i => rfl
    | ret => rfl
theorem acode_M : ∀ (c : Code) (rd : Bool) (fr : Fr) (s : St) (k : AX → Fr → St → Prop), acode C ansP hd rd c (addM ms fr) s k = acode C ansP hd rd c fr s (fun e fr s => k e (addM ms fr) s)
  | .skip, rd, fr, s, k => by simp only [acode]
  | .label _, rd, fr, s, k => by simp only [acode]
  | .region _ ops false, rd, fr, s, k => by
    simp only [acode]
    split
    · rfl
    · exact runSeq_M ops _ fr s _
  | .region _ ops true, rd, fr, s, k => by simp only [acode]; exact runDraw_M ops fr s _
  | .seq a b, rd, fr, s, k => by
    simp only [acode]
    rw [acode_M a rd]
    congr 1
    funext e fr s
    cases e with
    | normal => exact acode_M b rd fr s k
    | exit i => rfl
    | ret => rfl
  | .cond c t e, rd, fr, s, k => by
    simp only [acode]
    rw [addM_eval]
    split
    · exact acode_M t rd fr s k
    · exact acode_M e rd fr s k
    · rfl
  | .block id b, rd, fr, s, k => by
    simp only [acode]
    rw [acode_M b rd]
  | .loop b, rd, fr, s, k => by
    simp only [acode]
    congr 1
    funext n
    exact loopN_M _ (fun fr s k => acode_M b rd fr s k) n fr s k
  | .exit _, rd, fr, s, k => by simp only [acode]
  | .scope b, rd, fr, s, k => by
    simp only [acode]
    cases rd with
    | true => rfl
    | false => exact acode_M b false fr s k
  | .rangeFunc g ps a b, rd, fr, s, k => by
    simp only [acode]
    rw [addM_eval]
    split
    · split
      · rfl
      · rfl
    · rfl
  | .ret, rd, fr, s, k => by simp only [acode]
  | .goto _, rd, fr, s, k => by simp only [acode]
  | .refuse _, rd, fr, s, k => by simp only [acode]
end
/-! ### Code that may range over functions -/
section
variable {C : Ctx} {hd : HH Prop} {rd : Bool} {nt : Nat} {l l' : Sl} {H H' H1 : Hp} {a b c : Code} {id : Nat}
def CodeM (C : Ctx) (hd : HH Prop) (rd : Bool) (nt : Nat) (c : Code) (l : Sl) (H : Hp) (Φ : AX → List Mark → Sl → Hp → Prop) : Prop :=
  ∀ fr s k, FrHas nt l { fr with marks := [] } → MS C H s → (∀ e ms l' H' fr' s', Φ e ms l' H' → FrHas nt l' { fr' with marks := [] } → fr'.marks = ms ++ fr.marks → MS C H' s' → k e fr' s') → acode C ansP hd rd c fr s k
variable {Φ : AX → List Mark → Sl → Hp → Prop}
theorem cm_code (h : CodeT C hd rd nt c l H fun e l' H' => Φ e [] l' H') : CodeM C hd rd nt c l H Φ := fun fr s k hf hm hk => by
  have e : fr = addM fr.marks { fr with marks := [] } := rfl
  rw [e, acode_M]
  unfold CodeT at h
  refine h _ s _ hf hm fun e l' H' fr' s' h1 h2 h3 => ?_
  refine hk e [] l' H' _ s' h1 ?_ ?_ h3
  · exact ⟨h2.nt, rfl, h2.get⟩
  · show fr'.marks ++ fr.marks = _
    rw [h2.marks]
theorem cm_seq (h : CodeM C hd rd nt a l H fun e ms l' H' => match e with
    | .normal => CodeM C hd rd nt b l' H' fun e ms' l' H' => Φ e (ms' ++ ms) l' H'
    | e => Φ e ms l' H') : CodeM C hd rd nt (.seq a b) l H Φ := fun fr s k hf hm hk => by
  simp only [acode]
  refine h fr s _ hf hm fun e ms l' H' fr' s' h1 h2 h3 h4 => ?_
  cases e with
  | normal => exact h1 fr' s' k h2 h4 fun e ms' l2 H2 fr2 s2 g1 g2 g3 g4 => hk e _ l2 H2 fr2 s2 g1 g2 (by rw [g3, h3, List.append_assoc]) g4
  | exit i => exact hk _ _ _ _ _ _ h1 h2 h3 h4
  | ret => exact hk _ _ _ _ _ _ h1 h2 h3 h4
theorem cm_block (h : CodeM C hd rd nt b l H fun e ms l' H' => match e with
    | .exit i => match Nat.beq i id with
      | true => Φ .normal ms l' H'
      | false => Φ (.exit i) ms l' H'
    | e => Φ e ms l' H') : CodeM C hd rd nt (.block id b) l H Φ := fun fr s k hf hm hk => by
  simp only [acode]
  refine h fr s _ hf hm fun e ms l' H' fr' s' h1 h2 h3 h4 => ?_
  cases e with
  | normal => exact hk _ _ _ _ _ _ h1 h2 h3 h4
  | ret => exact hk _ _ _ _ _ _ h1 h2 h3 h4
  | exit i =>
    cases hb : Nat.beq i id with
    | true => simp only [hb] at h1 ⊢; exact hk _ _ _ _ _ _ h1 h2 h3 h4
    | false => simp only [hb] at h1 ⊢; exact hk _ _ _ _ _ _ h1 h2 h3 h4
theorem CodeM.mono {Φ' : AX → List Mark → Sl → Hp → Prop} (h : CodeM C hd rd nt c l H Φ) (hm : ∀ e ms l' H', Φ e ms l' H' → Φ' e ms l' H') : CodeM C hd rd nt c l H Φ' :=
  fun fr s k h1 h2 h3 => h fr s k h1 h2 fun e ms l' H' fr' s' h4 => h3 e ms l' H' fr' s' (hm _ _ _ _ h4)
theorem CodeM.weak (h : CodeM C hd rd nt c l' H' Φ) (h1 : SubL l' l) (h2 : H'.Sublist H) : CodeM C hd rd nt c l H Φ := fun fr s k hf hm hk => h fr s k (hf.sub h1) (hm.sub h2) hk
/-- A range over a function. The function is given what calls the rounds; it leaves the loop ready, or done with a jump that waits. -/
theorem cm_range {g : Operand} {ps : Array Nat} {A B : Code} {f : FuncId} {first cap : Array Value} (hg : evalL l g = some (.func (.func f) first cap)) (hcal : callable C f = true)
    (h : ∀ m fr, FrHas nt l fr → CallT C hd.call f (first.toList ++ (.func (.yield (m + 1)) #[] #[] :: cap.toList)) ((m + 1, .loop 0 none fr ps.toList A B) :: (m, .dblk) :: H)
      fun _ H' => ∃ st q H2, H'.Perm ((m + 1, .loop st q fr ps.toList A B) :: (m, .dblk) :: H2) ∧ Nat.beq st 1 = false ∧ (match q with
        | none => Φ .normal [.blk m] l ((m, .dblk) :: H2)
        | some e => Φ e [.blk m] l ((m, .dblk) :: H2))) : CodeM C hd false nt (.rangeFunc g ps A B) l H Φ := fun fr s k hf hm hk => by
  have hev : fr.eval g = .func (.func f) first cap := by
    have := hf.eval hg
    rw [← this]
    cases g <;> rfl
  simp only [acode, evalL_ok hg, hev, hcal]
  have hms : MS C ((s.next + 1, .loop 0 none { fr with marks := [] } ps.toList A B) :: (s.next, .dblk) :: H) ((s.alloc .dblk).alloc (.loop 0 none { fr with marks := [] } ps.toList A B)) := (hm.alloc .dblk).alloc _
  have h := h s.next { fr with marks := [] } hf
  unfold CallT at h
  refine h _ _ hms fun v H' s3 h1 h3 => ?_
  obtain ⟨st, q, H2, hp, hst, hq⟩ := h1
  have hm3 := h3.perm hp.symm
  obtain ⟨g1, g2, g3⟩ := hm3.has _ _ (List.Mem.head _)
  rw [g3]
  simp only [hst]
  have hms4 : ∀ q', MS C ((s.next, .dblk) :: H2) (s3.setObj (s.next + 1) (.loop 3 q' { fr with marks := [] } ps.toList A B)) := fun q' => (hm3.swap (.here _ _ _ _)).sub (List.sublist_cons_self _ _)
  have hf4 : FrHas nt l { ({ fr with marks := .blk s.next :: fr.marks } : Fr) with marks := [] } := hf
  cases q with
  | none => exact hk .normal [.blk s.next] l _ _ _ hq hf4 rfl (hms4 _)
  | some e => exact hk e [.blk s.next] l _ _ _ hq hf4 rfl (hms4 _)
theorem aresults_M {fr : Fr} {s : St} (ms : List Mark) : ∀ rs : List ResultVar, aresults C { fr with marks := ms } s rs = aresults C fr s rs
  | [] => rfl
  | r :: rs => by
    unfold aresults
    rw [aresults_M ms rs]
    have : aresult C { fr with marks := ms } s r = aresult C fr s r := by cases r <;> rfl
    rw [this]
def LeaveT (C : Ctx) (hd : HH Prop) (ms : List Mark) (H : Hp) (K : Hp → Prop) : Prop := ∀ s k, MS C H s → (∀ H' s', K H' → MS C H' s' → k s') → leave C ansP hd ms s k
theorem lv_nil {K : Hp → Prop} (h : K H) : LeaveT C hd [] H K := fun s k hm hk => by
  unfold leave
  exact hk H s h hm
theorem lv_blk {K : Hp → Prop} {m : Nat} {ms : List Mark} (hp : H.Perm ((m, .dblk) :: H1)) (h : LeaveT C hd ms H1 K) : LeaveT C hd (.blk m :: ms) H K := fun s k hm hk => by
  have hm1 := hm.perm hp.symm
  obtain ⟨h1, h2, h3⟩ := hm1.has m .dblk (List.Mem.head _)
  unfold leave
  rw [Nat.ble_eq_true_of_le h1, h3]
  exact h _ k (hm1.kill (.here _ _ _)) hk
theorem lv_call {K : Hp → Prop} (nt : Nat) {f : FuncId} {args : List Value} {ms : List Mark} {fn : Func} {c : Code} (hca : callable C f = true) (hf : C.P.funcs[f]? = some fn) (hb : fn.body = some c) (hnt : max args.length fn.ntmps = nt)
    (h : CodeT C hd false nt c (slots 0 args) H fun e l' H' => match e with
      | .exit _ => False
      | _ => ResT C fn.results.toList l' H' (fun _ => True) ∧ LeaveT C hd ms H' K) : LeaveT C hd (.call f args :: ms) H K := fun s k hm hk => by
  unfold leave
  simp only [hca, hf, hb]
  have hfr : FrHas nt (slots 0 args) { tm := Trie.ofList args 0 .nil, nt := max args.length fn.ntmps } := by
    refine ⟨hnt, rfl, fun t v ht => ?_⟩
    obtain ⟨_, h2⟩ := slots_get 0 args t v ht
    unfold Fr.get
    have hlt : t < args.length := by
      have := (List.getElem?_eq_some_iff.1 h2).1; omega
    simp only [Trie.get_ofList]
    rw [if_pos (by omega)]
    have h2' : args[t - 0]? = some v := h2
    rw [h2']
  unfold CodeT at h
  refine h _ s _ hfr hm fun e l' H' fr' s' h1 h2 h3 => ?_
  cases e with
  | exit i => exact h1.elim
  | normal =>
    obtain ⟨g1, g2⟩ := h1
    obtain ⟨vs, h5, _⟩ := ResT.run h2 h3 g1
    simp only [h2.marks, h5]
    exact g2 s' k h3 hk
  | ret =>
    obtain ⟨g1, g2⟩ := h1
    obtain ⟨vs, h5, _⟩ := ResT.run h2 h3 g1
    simp only [h2.marks, h5]
    exact g2 s' k h3 hk
def retM (C : Ctx) (hd : HH Prop) (rs : List ResultVar) (Q : Value → Hp → Prop) : AX → List Mark → Sl → Hp → Prop
  | .exit _ => fun _ _ _ => False
  | _ => fun ms l H => LeaveT C hd ms H fun H1 => ∃ H', H'.Sublist H1 ∧ ResT C rs l H1 fun vs => Q (tupled vs) H'
/-- One loop over a function, left behind. -/
theorem lv_one {K : Hp → Prop} {m : Nat} (hp : H.Perm ((m, .dblk) :: H1)) (h : K H1) : LeaveT C hd [.blk m] H K := lv_blk hp (lv_nil h)
theorem call_inM (nt : Nat) {f n : Nat} {args : List Value} {fn : Func} {c : Code} {Q : Value → Hp → Prop} (he : C.ext f args = none) (hf : C.P.funcs[f]? = some fn) (hb : fn.body = some c) (hnt : max args.length fn.ntmps = nt)
    (h : CodeM C (ahand C ansP n) false nt c (slots 0 args) H (retM C (ahand C ansP n) fn.results.toList Q)) : CallT C (acall C ansP (n + 1)) f args H Q := by
  unfold CallT
  intro s k hm hk
  unfold acall ahand
  simp only [he, hf, hb]
  have hfr : FrHas nt (slots 0 args) { tm := Trie.ofList args 0 .nil, nt := max args.length fn.ntmps } := by
    refine ⟨hnt, rfl, fun t v ht => ?_⟩
    obtain ⟨_, h2⟩ := slots_get 0 args t v ht
    unfold Fr.get
    have hlt : t < args.length := by
      have := (List.getElem?_eq_some_iff.1 h2).1; omega
    simp only [Trie.get_ofList]
    rw [if_pos (by omega)]
    have h2' : args[t - 0]? = some v := h2
    rw [h2']
  refine h _ s _ hfr hm fun e ms l' H' fr' s' h1 h2 h3 h4 => ?_
  have key : LeaveT C (ahand C ansP n) ms H' (fun H1 => ∃ H2, H2.Sublist H1 ∧ ResT C fn.results.toList l' H1 fun vs => Q (tupled vs) H2) → leave C ansP (ahand C ansP n) fr'.marks s' (fun s => match aresults C fr' s fn.results.toList with
      | some vs => k (tupled vs) s
      | none => ansP.bad) := by
    intro hl
    rw [h3, List.append_nil]
    refine hl s' _ h4 fun H1 s2 ⟨H2, hs, hr⟩ g2 => ?_
    obtain ⟨vs, h5, h6⟩ := ResT.run h2 g2 hr
    have h5' : aresults C fr' s2 fn.results.toList = some vs := (aresults_M [] _).symm.trans h5
    simp only [h5']
    exact hk _ _ _ h6 (g2.sub hs)
  cases e with
  | exit i => exact h1.elim
  | normal => exact key h1
  | ret => exact key h1
end
/-! ### Deferred calls -/
section
variable {C : Ctx} {hd : HH Prop} {rd : Bool} {nt : Nat} {ops : Array Oper} {o : Oper} {os : List Oper} {l : Sl} {H : Hp} {id : Nat} {v : Value}
def RunM (C : Ctx) (hd : HH Prop) (nt : Nat) (ops : Array Oper) (os : List Oper) (l : Sl) (H : Hp) (Ψ : List Mark → Sl → Hp → Prop) : Prop :=
  ∀ fr s k, FrHas nt l { fr with marks := [] } → MS C H s → (∀ ms l' H' fr' s', Ψ ms l' H' → FrHas nt l' { fr' with marks := [] } → fr'.marks = ms ++ fr.marks → MS C H' s' → k fr' s') → runSeq C ansP hd ops os fr s k
variable {Ψ : List Mark → Sl → Hp → Prop}
theorem rm_run (h : RunT C hd nt ops os l H fun l' H' => Ψ [] l' H') : RunM C hd nt ops os l H Ψ := fun fr s k hf hm hk => by
  have e : fr = addM fr.marks { fr with marks := [] } := rfl
  rw [e, runSeq_M]
  unfold RunT at h
  refine h _ s _ hf hm fun l' H' fr' s' h1 h2 h3 => ?_
  refine hk [] l' H' _ s' h1 ⟨h2.nt, rfl, h2.get⟩ ?_ h3
  show fr'.marks ++ fr.marks = _
  rw [h2.marks]
theorem put_marks' (fr : Fr) (d : Option Nat) (v : Value) : (fr.put d v).marks = fr.marks := by
  unfold Fr.put
  split
  · split <;> rfl
  · rfl
theorem rm_p {d : Nat} (hw : wantedL ops o l = some true) (hd' : o.dst = some d) (hlt : Nat.blt d nt = true) (hp : PureT C o.op l v) (h : RunM C hd nt ops os ((d, v) :: l) H Ψ) : RunM C hd nt ops (o :: os) l H Ψ := fun fr s k hf hm hk => by
  have h1 : FrHas nt l { fr with marks := [] } := hf
  unfold runSeq
  have hw' : awanted ops o fr = some true := h1.wanted hw
  rw [hw']
  simp only
  unfold PureT at hp
  have hag : Agree o.op fr.eval (rhoL l) := by
    have := h1.agree hp.1
    have e : ({ fr with marks := [] } : Fr).eval = fr.eval := by funext x; cases x <;> rfl
    rwa [e] at this
  split
  · rw [aop_agree hag]
    unfold aop
    rw [covL_ok hp.1, hp.2]
    simp only
    have hput := h1.put hlt v
    have e : ({ fr with marks := [] } : Fr).put (some d) v = { fr.put (some d) v with marks := [] } := by
      show (match Nat.blt d fr.nt with | true => _ | false => _) = ({ (match Nat.blt d fr.nt with | true => _ | false => _ : Fr) with marks := [] } : Fr)
      cases Nat.blt d fr.nt <;> rfl
    rw [e] at hput
    rw [hd']
    exact h _ s k hput hm (by rw [put_marks']; exact hk)
  · rename_i c hc
    have := hp.2
    unfold deferOf at hc
    split at hc
    · rename_i ho
      rw [ho] at this
      cases this
    · cases hc
theorem rm_defer {c : Call} {f : Operand} {g : FuncId} {first cap : Array Value} {vs : List Value} (hw : wantedL ops o l = some true) (hd' : o.dst = none) (hop : o.op = .defer c) (hcal : c.callee = .value f) (hf' : evalL l f = some (.func (.func g) first cap)) (hargs : argsL l c.args.toList = some vs) (hca : callable C g = true)
    (h : RunM C hd nt ops os l H fun ms => Ψ (ms ++ [.call g (first.toList ++ (vs ++ cap.toList))])) : RunM C hd nt ops (o :: os) l H Ψ := fun fr s k hf hm hk => by
  have h1 : FrHas nt l { fr with marks := [] } := hf
  have hw' : awanted ops o fr = some true := h1.wanted hw
  have e : ({ fr with marks := [] } : Fr).eval = fr.eval := by funext x; cases x <;> rfl
  have hev : fr.eval f = .func (.func g) first cap := by rw [← e]; exact h1.eval hf'
  have hcov := covL_args hargs
  have ha : c.args.toList.map fr.eval = vs := by
    rw [← argsL_eq hargs, ← e]
    refine List.map_congr_left fun x hx => ?_
    obtain ⟨v, hv⟩ := covL_mem hcov x hx
    rw [h1.eval hv, rhoL_eq hv]
  have had : adefer C c fr.eval = some (.call g (first.toList ++ (vs ++ cap.toList))) := by
    unfold adefer
    rw [hcal]
    simp only [hev, evalL_ok hf', covL_ok hcov, hca, ha, Bool.and_self]
  unfold runSeq
  rw [hw']
  simp only [hop, deferOf, had, hd']
  exact h _ s k hf hm fun ms l' H' fr' s' g1 g2 g3 g4 => hk _ l' H' fr' s' g1 g2 (by rw [g3, List.append_assoc]; rfl) g4
theorem cm_region {Φ : AX → List Mark → Sl → Hp → Prop} {os : List Oper} (ho : ops.toList = os) (h : RunM C hd nt ops os l H (Φ .normal)) : CodeM C hd false nt (.region id ops false) l H Φ := fun fr s k hf hm hk => by
  simp only [acode, Bool.false_and]
  rw [ho]
  exact h fr s _ hf hm fun ms l' H' fr' s' h1 h2 h3 h4 => hk .normal ms l' H' fr' s' h1 h2 h3 h4
end
/-! ### Rounds -/
section
variable {C : Ctx} {n : Nat} {nt : Nat} {l lf : Sl} {H H1 : Hp} {Θ : Value → Hp → Prop}
def parL (nt : Nat) : List Nat → List Value → Sl → Sl
  | t :: ts, v :: vs, l => match Nat.blt t nt with
    | true => parL nt ts vs ((t, v) :: l)
    | false => parL nt ts vs l
  | _, _, l => l
theorem FrHas.params : ∀ {ps : List Nat} {vs : List Value} {l : Sl} {fr : Fr}, FrHas nt l fr → FrHas nt (parL nt ps vs l) (setParams ps vs fr)
  | [], vs, l, fr, h => by cases vs <;> exact h
  | _ :: _, [], l, fr, h => h
  | t :: ts, v :: vs, l, fr, h => by
    unfold parL setParams
    cases hb : Nat.blt t nt with
    | true => exact FrHas.params (h.put hb v)
    | false =>
      have e : fr.put (some t) v = fr := by
        have hb' : Nat.blt t fr.nt = false := by rw [h.nt]; exact hb
        simp only [Fr.put, hb']
      rw [e]
      exact FrHas.params h
/-- What a round leaves. -/
def rndΦ (L : Nat) (fr : Fr) (ps : List Nat) (A B : Code) (Θ : Value → Hp → Prop) (e : AX) (H : Hp) : Prop := ∃ st q H2, H.Perm ((L, .loop st q fr ps A B) :: H2) ∧ (match e with
  | .normal => Θ (.bool true) ((L, .loop 0 none fr ps A B) :: H2)
  | e => Θ (.bool false) ((L, .loop 2 (some e) fr ps A B) :: H2))
theorem st_yield {f : Operand} {args : Array Operand} {ts : Array TypeId} {L : Nat} {x y : Array Value} {q : Option AX} {fr : Fr} {ps : List Nat} {A B : Code} {vs : List Value} (hc : covL l (Op.call { callee := .value f, args, argTypes := ts }).operands.toList = true)
    (hf : evalL l f = some (.func (.yield L) x y)) (hargs : argsL l args.toList = some vs) (hlen : Nat.beq vs.length ps.length = true) (hp : H.Perm ((L, .loop 0 q fr ps A B) :: H1)) (hfr : FrHas nt lf fr)
    (h : CodeT C (ahand C ansP n) true nt A (parL nt ps vs lf) ((L, .loop 0 q fr ps A B) :: H1) fun e l2 H2 => match e with
      | .normal => ∃ q' H3, H2.Perm ((L, .loop 0 q' fr ps A B) :: H3) ∧ CodeT C (ahand C ansP n) true nt B l2 ((L, .loop 1 q' fr ps A B) :: H3) fun e l3 H4 => rndΦ L fr ps A B Θ e H4
      | _ => False) :
    StepT C (ahand C ansP (n + 1)) (.call { callee := .value f, args, argTypes := ts }) l H Θ := by
  unfold StepT
  refine ⟨hc, fun s k hm hk => ?_⟩
  have hm := hm.perm hp.symm
  unfold aop aE
  simp only [covL_ok hc]
  simp only [aP, aR, aA, aW, acallOp, rhoL_eq hf, argsL_eq hargs]
  unfold around
  obtain ⟨g1, g2, g3⟩ := hm.has _ _ (List.Mem.head _)
  simp only [Nat.ble_eq_true_of_le g1, g3, hlen]
  unfold CodeT at h
  show acode C ansP (ahand C ansP n) true A _ s _
  refine h _ s _ hfr.params hm fun e l2 H2 fr2 s2 h1 h2 h3 => ?_
  cases e with
  | exit i => exact h1.elim
  | ret => exact h1.elim
  | normal =>
    obtain ⟨q', H3, hp2, h1⟩ := h1
    have hm2 := h3.perm hp2.symm
    obtain ⟨g4, g5, g6⟩ := hm2.has _ _ (List.Mem.head _)
    simp only [g6]
    show acode C ansP (ahand C ansP n) true B _ _ _
    refine h1 _ _ _ h2 (hm2.swap (.here _ _ _ _)) fun e l3 H4 fr3 s3 k1 k2 k3 => ?_
    obtain ⟨st, q'', H5, hp3, k1⟩ := k1
    have hm3 := k3.perm hp3.symm
    obtain ⟨g7, g8, g9⟩ := hm3.has _ _ (List.Mem.head _)
    simp only [g9]
    cases e with
    | normal => exact hk _ _ _ k1 (hm3.swap (.here _ _ _ _))
    | exit i => exact hk _ _ _ k1 (hm3.swap (.here _ _ _ _))
    | ret => exact hk _ _ _ k1 (hm3.swap (.here _ _ _ _))
end
/-! ### Methods by interface, type assertions, quotients -/
section
variable {C : Ctx} {hd : HH Prop} {l : Sl} {H : Hp} {x y : Operand} {v : Value} {t s a yt : TypeId} {Θ : Value → Hp → Prop}
theorem st_invoke {r : Operand} {name : String} {args : Array Operand} {ts : Array TypeId} {g : FuncId} {rv w : Value} {vs : List Value} (hc : covL l (Op.call { callee := .invoke r name, args, argTypes := ts }).operands.toList = true)
    (hr : evalL l r = some rv) (hmet : ∀ s, MS C H s → amethod C s rv name = some (g, w)) (hcal : callable C g = true) (hargs : argsL l args.toList = some vs) (h : CallT C hd.call g (w :: vs) H Θ) :
    StepT C hd (.call { callee := .invoke r name, args, argTypes := ts }) l H Θ := by
  unfold StepT
  refine ⟨hc, fun s k hm hk => ?_⟩
  unfold aop aE
  simp only [covL_ok hc]
  simp only [aP, aR, aA, aW, acallOp, rhoL_eq hr, hmet s hm, hcal, argsL_eq hargs]
  unfold CallT at h
  exact h s k hm hk
def notIface : TypeDesc → Bool
  | .interface _ => false
  | _ => true
theorem p_makeIface {d : TypeDesc} (h : evalL l x = some v) (hu : C.P.underlying t = some d) (hn : notIface d = true) : PureT C (.makeInterface t x) l (.iface t v) := by
  unfold PureT
  refine ⟨cov1 h, ?_⟩
  simp only [aP, hu, rhoL_eq h]
  cases d <;> first | (cases hn; done) | rfl
theorem p_assertHit {d : TypeDesc} (h : evalL l x = some (.iface a v)) (hu : C.P.underlying a = some d) (hn : notIface d = true) : PureT C (.typeAssert x s a true) l (.tuple #[v, .bool true]) := by
  unfold PureT
  refine ⟨cov1 h, ?_⟩
  simp only [aP, atypeAssert, hu, rhoL_eq h]
  cases d <;> first | (cases hn; done) | rfl | (simp only [if_true])
end
/-! ### Loads from lists of elements -/
section
variable {C : Ctx} {H H' : Hp} {w : Nat} {ad : Option Addr} {α : Type} {en : α → List Value} {L : List α} {i : Nat} {a : α} {t : TypeId}
theorem Arr.ldW (h : Arr C H ad w en L) (t : TypeId) (hi : L[i]? = some a) (hg : aggAt C t = some true) (hn : sizeAt C t = some w) : ∃ b o, ad = some ⟨b, o, none⟩ ∧ ∀ H', H.Sublist H' → LdT C t H' b (o + i * w) (.agg ⟨en a⟩) := by
  obtain ⟨b, o, e, h1⟩ := h.agg hi
  refine ⟨b, o, e, fun H' hs => ?_⟩
  unfold LdT
  exact fun l y hy => h1 t H' l y hs hg hn hy
theorem Arr.ld1 {v : Value} (h : Arr C H ad 1 en L) (t : TypeId) (hi : L[i]? = some a) (he : en a = [v]) (hg : aggAt C t = some false) {n : Nat} (hn : sizeAt C t = some n) : ∃ b o, ad = some ⟨b, o, none⟩ ∧ ∀ H', H.Sublist H' → LdT C t H' b (o + i * 1) v := by
  obtain ⟨b, o, e, h1⟩ := h.at1 hi he
  refine ⟨b, o, e, fun H' hs => ?_⟩
  unfold LdT
  exact fun l y hy => h1 n t H' l y hs hg hn hy
theorem Arr.ldF (h : Arr C H ad w en L) (t : TypeId) (f : Nat) {v : Value} (hi : L[i]? = some a) (hv : (en a)[f]? = some v) (hf : Nat.blt f w = true) (hg : aggAt C t = some false) {n : Nat} (hn : sizeAt C t = some n) : ∃ b o, ad = some ⟨b, o, none⟩ ∧ ∀ H', H.Sublist H' → LdT C t H' b (o + i * w + f) v := by
  obtain ⟨b, o, e, h1⟩ := h.fld hi
  refine ⟨b, o, e, fun H' hs => ?_⟩
  unfold LdT
  exact fun l y hy => h1 f n v t H' l y hs hv (Nat.le_of_ble_eq_true hf) hg hn hy
end
end Go.Proofs.Ythcohphflhkceaa.Abs
