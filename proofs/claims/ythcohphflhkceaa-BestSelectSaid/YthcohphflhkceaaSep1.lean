/- Symbolic runs of the abstract interpreter: what is known of slots and of blocks, and the rules by which a run goes on. -/
import Derived.Test.YthcohphflhkceaaAbs20
namespace Go.Proofs.Ythcohphflhkceaa.Abs
open Go
set_option linter.unusedVariables false

/-! ### What is known of slots -/
abbrev Sl := List (Nat × Value)
def getL : Sl → Nat → Option Value
  | [], _ => none
  | (t, v) :: l, u => match Nat.beq t u with
    | true => some v
    | false => getL l u
structure FrHas (nt : Nat) (l : Sl) (fr : Fr) : Prop where
  nt : fr.nt = nt
  marks : fr.marks = []
  get : ∀ t v, getL l t = some v → fr.get t = v
def evalL (l : Sl) : Operand → Option Value
  | .tmp t => getL l t
  | .const v => match plainConst v with
    | true => some v
    | false => none
  | .global _ => none
  | .func f => some (.func (.func f) #[] #[])
def rhoL (l : Sl) (x : Operand) : Value := match evalL l x with
  | some v => v
  | none => undef
def covL (l : Sl) : List Operand → Bool
  | [] => true
  | x :: xs => match evalL l x with
    | some _ => covL l xs
    | none => false
def argsL (l : Sl) : List Operand → Option (List Value)
  | [] => some []
  | x :: xs => match evalL l x, argsL l xs with
    | some v, some vs => some (v :: vs)
    | _, _ => none
def wantedL (ops : Array Oper) (o : Oper) (l : Sl) : Option Bool := match o.guard with
  | none => some true
  | some (j, want) => match ops.toList[j]? with
    | some g => match g.dst with
      | some d => match getL l d with
        | some (.bool b) => some (b == want)
        | some (.tuple vs) => if vs.size = 0 then some false else none
        | _ => none
      | none => some false
    | none => some false

theorem getL_cons (t : Nat) (v : Value) (l : Sl) (u : Nat) : getL ((t, v) :: l) u = if t = u then some v else getL l u := by
  rw [getL]
  by_cases h : t = u
  · subst h; simp
  · have : Nat.beq t u = false := by
      cases e : Nat.beq t u with
      | false => rfl
      | true => exact absurd (Nat.eq_of_beq_eq_true e) h
    rw [this, if_neg h]
theorem FrHas.eval {nt : Nat} {l : Sl} {fr : Fr} (h : FrHas nt l fr) {x : Operand} {v : Value} (hx : evalL l x = some v) : fr.eval x = v := by
  cases x with
  | tmp t => exact h.get t v hx
  | const u =>
    simp only [evalL] at hx
    split at hx
    · cases hx; rfl
    · cases hx
  | global g => cases hx
  | func f => cases hx; rfl
theorem evalL_ok {l : Sl} {x : Operand} {v : Value} (hx : evalL l x = some v) : okOperand x = true := by
  cases x with
  | tmp t => rfl
  | const u =>
    simp only [evalL] at hx
    split at hx
    · assumption
    · cases hx
  | global g => cases hx
  | func f => rfl
theorem rhoL_eq {l : Sl} {x : Operand} {v : Value} (hx : evalL l x = some v) : rhoL l x = v := by unfold rhoL; rw [hx]
theorem covL_mem {l : Sl} : ∀ {xs : List Operand}, covL l xs = true → ∀ x ∈ xs, ∃ v, evalL l x = some v
  | [], _, x, hx => by cases hx
  | y :: ys, h, x, hx => by
    unfold covL at h
    split at h
    · rename_i v hv
      cases hx with
      | head => exact ⟨v, hv⟩
      | tail _ hx => exact covL_mem h x hx
    · cases h
theorem covL_ok {l : Sl} {xs : List Operand} (h : covL l xs = true) : xs.all okOperand = true :=
  List.all_eq_true.2 fun x hx => let ⟨_, hv⟩ := covL_mem h x hx; evalL_ok hv
theorem FrHas.agree {nt : Nat} {l : Sl} {fr : Fr} (h : FrHas nt l fr) {o : Op} (hc : covL l o.operands.toList = true) : Agree o fr.eval (rhoL l) := fun x hx => by
  obtain ⟨v, hv⟩ := covL_mem hc x hx
  rw [h.eval hv, rhoL_eq hv]
theorem FrHas.wanted {nt : Nat} {l : Sl} {fr : Fr} (h : FrHas nt l fr) {ops : Array Oper} {o : Oper} {b : Bool} (hw : wantedL ops o l = some b) : awanted ops o fr = some b := by
  unfold wantedL at hw
  unfold awanted
  cases hg : o.guard with
  | none => rw [hg] at hw; exact hw
  | some jw =>
    obtain ⟨j, want⟩ := jw
    rw [hg] at hw
    simp only at hw ⊢
    cases hj : ops.toList[j]? with
    | none => rw [hj] at hw; exact hw
    | some g =>
      rw [hj] at hw
      simp only at hw ⊢
      cases hd : g.dst with
      | none => rw [hd] at hw; exact hw
      | some d =>
        rw [hd] at hw
        simp only at hw ⊢
        split at hw
        · rename_i c hc
          rw [h.get _ _ hc]; exact hw
        · rename_i vs hc
          rw [h.get _ _ hc]; exact hw
        · cases hw
theorem FrHas.put {nt : Nat} {l : Sl} {fr : Fr} (h : FrHas nt l fr) {d : Nat} (hd : Nat.blt d nt = true) (v : Value) : FrHas nt ((d, v) :: l) (fr.put (some d) v) := by
  have hlt : d < nt := Nat.le_of_ble_eq_true hd
  have e : fr.put (some d) v = { fr with tm := fr.tm.set d v } := by
    have hd' : Nat.blt d fr.nt = true := by rw [h.nt]; exact hd
    simp only [Fr.put, hd']
  rw [e]
  refine ⟨h.nt, h.marks, fun t u ht => ?_⟩
  rw [getL_cons] at ht
  unfold Fr.get
  simp only [Trie.get_set]
  by_cases hdt : t = d
  · rw [if_pos hdt]; rw [if_pos hdt.symm] at ht; cases ht; rfl
  · rw [if_neg hdt]; rw [if_neg (fun h => hdt h.symm)] at ht
    exact h.get t u ht
theorem FrHas.put0 {nt : Nat} {l : Sl} {fr : Fr} (h : FrHas nt l fr) (v : Value) : FrHas nt l (fr.put none v) := h

/-- What is known of the slots here is known there. -/
def SubL (l' l : Sl) : Prop := ∀ t v, getL l' t = some v → getL l t = some v
theorem SubL.nil {l : Sl} : SubL [] l := fun _ _ h => by cases h
theorem SubL.cons {t : Nat} {v : Value} {l' l : Sl} (h : getL l t = some v) (hl : SubL l' l) : SubL ((t, v) :: l') l := fun u x hx => by
  rw [getL_cons] at hx
  split at hx
  · rename_i e; subst e; cases hx; exact h
  · exact hl u x hx
theorem FrHas.sub {nt : Nat} {l l' : Sl} {fr : Fr} (h : FrHas nt l fr) (hl : SubL l' l) : FrHas nt l' fr := ⟨h.nt, h.marks, fun t v ht => h.get t v (hl t v ht)⟩

/-! ### What is known of blocks -/
abbrev Hp := List (Nat × AObj)
/-- Another content of one block. -/
inductive Swap : Hp → Nat → AObj → AObj → Hp → Prop where
  | here (b : Nat) (o o' : AObj) (H : Hp) : Swap ((b, o) :: H) b o o' ((b, o') :: H)
  | there (c : Nat) (p : AObj) {H : Hp} {b : Nat} {o o' : AObj} {H' : Hp} (h : Swap H b o o' H') : Swap ((c, p) :: H) b o o' ((c, p) :: H')

section
variable (C : Ctx)
structure MS (H : Hp) (s : St) : Prop where
  nd : H.Pairwise fun a b => a.1 ≠ b.1
  has : ∀ b o, (b, o) ∈ H → C.B0 ≤ b ∧ b < s.next ∧ s.obj b = some o
  low : C.B0 < s.next

variable {C}
theorem MS.keys {H : Hp} {s : St} (h : MS C H s) : ∀ x ∈ H, C.B0 ≤ x.1 ∧ x.1 < s.next := fun x hx => let ⟨h1, h2, _⟩ := h.has x.1 x.2 hx; ⟨h1, h2⟩
theorem MS.alloc {H : Hp} {s : St} (h : MS C H s) (o : AObj) : MS C ((s.next, o) :: H) (s.alloc o) := by
  refine ⟨List.Pairwise.cons (fun x hx => ?_) h.nd, fun b p hp => ?_, Nat.lt_succ_of_lt h.low⟩
  · exact fun e => by have := (h.keys x hx).2; simp only at e; omega
  · cases hp with
    | head => exact ⟨Nat.le_of_lt h.low, Nat.lt_succ_self _, Trie.get_set_same _ _ _⟩
    | tail _ hp =>
      obtain ⟨h1, h2, h3⟩ := h.has b p hp
      exact ⟨h1, Nat.lt_succ_of_lt h2, (Trie.get_set_other _ _ _ _ (by omega)).trans h3⟩
theorem Swap.mem {H H' : Hp} {b : Nat} {o o' : AObj} (h : Swap H b o o' H') : (b, o) ∈ H := by
  induction h with
  | here => exact List.Mem.head _
  | there c p _ ih => exact List.Mem.tail _ ih
theorem Swap.cases {H H' : Hp} {b : Nat} {o o' : AObj} (h : Swap H b o o' H') : ∀ x ∈ H', x = (b, o') ∨ x ∈ H := by
  induction h with
  | here b o o' H => intro x hx; cases hx with
    | head => exact .inl rfl
    | tail _ hx => exact .inr (List.Mem.tail _ hx)
  | there c p _ ih => intro x hx; cases hx with
    | head => exact .inr (List.Mem.head _)
    | tail _ hx => exact (ih x hx).imp id fun h => List.Mem.tail _ h
theorem Swap.keys {H H' : Hp} {b : Nat} {o o' : AObj} (h : Swap H b o o' H') : H'.map (·.1) = H.map (·.1) := by
  induction h with
  | here => rfl
  | there c p _ ih => simp only [List.map_cons, ih]
theorem nd_map {H : Hp} : (H.Pairwise fun a b => a.1 ≠ b.1) ↔ (H.map (·.1)).Pairwise (· ≠ ·) := by rw [List.pairwise_map]
theorem MS.uniq {H : Hp} {s : St} (h : MS C H s) {b : Nat} {o p : AObj} (h1 : (b, o) ∈ H) (h2 : (b, p) ∈ H) : o = p := by
  have := (h.has b o h1).2.2.symm.trans (h.has b p h2).2.2
  cases this; rfl
theorem swap_other {H H' : Hp} {b : Nat} {o o' : AObj} (h : Swap H b o o' H') : (H.Pairwise fun a b => a.1 ≠ b.1) → ∀ p, (b, p) ∈ H' → p = o' := by
  induction h with
  | here b o o' H =>
    intro hn p hp
    cases hp with
    | head => rfl
    | tail _ hp =>
      cases hn with
      | cons h1 _ => exact (h1 (b, p) hp rfl).elim
  | there c q h ih =>
    intro hn p hp
    cases hn with
    | cons h1 h2 =>
      cases hp with
      | head => exact (h1 _ h.mem rfl).elim
      | tail _ hp => exact ih h2 p hp
theorem MS.swap {H H' : Hp} {s : St} (h : MS C H s) {b : Nat} {o o' : AObj} (hs : Swap H b o o' H') : MS C H' (s.setObj b o') := by
  refine ⟨nd_map.2 (by rw [hs.keys]; exact nd_map.1 h.nd), fun c p hp => ?_, h.low⟩
  by_cases e : c = b
  · subst e
    have := swap_other hs h.nd p hp
    subst this
    obtain ⟨h1, h2, _⟩ := h.has _ _ hs.mem
    exact ⟨h1, h2, Trie.get_set_same _ _ _⟩
  · rcases hs.cases _ hp with h1 | h1
    · cases h1; exact absurd rfl e
    · obtain ⟨g1, g2, g3⟩ := h.has _ _ h1
      exact ⟨g1, g2, (Trie.get_set_other _ _ _ _ e).trans g3⟩
theorem MS.sub {H H' : Hp} {s : St} (h : MS C H s) (hs : H'.Sublist H) : MS C H' s :=
  ⟨h.nd.sublist hs, fun b o ho => h.has b o (hs.subset ho), h.low⟩
theorem MS.perm {H H' : Hp} {s : St} (h : MS C H s) (hs : H'.Perm H) : MS C H' s :=
  ⟨h.nd.perm hs.symm (fun h => h.symm), fun b o ho => h.has b o (hs.mem_iff.1 ho), h.low⟩
/-- The cells of a block that is known: one of the run's own, or an old one. -/
inductive RowIs (C : Ctx) (H : Hp) (b : Nat) (cs : List Value) : Prop where
  | own (es : Nat) (el : Bool) (h : (b, .row cs es el) ∈ H)
  | old (hb : b < C.B0) (h : C.old b = some cs)
theorem RowIs.rowOf {H : Hp} {b : Nat} {cs : List Value} {s : St} (h : RowIs C H b cs) (hm : MS C H s) : rowOf C s b = some cs := by
  unfold Abs.rowOf
  cases h with
  | own es el h =>
    obtain ⟨h1, h2, h3⟩ := hm.has _ _ h
    have : Nat.blt b C.B0 = false := by
      cases e : Nat.blt b C.B0 with
      | false => rfl
      | true => have := Nat.le_of_ble_eq_true e; omega
    rw [this, h3]
  | old hb h =>
    have : Nat.blt b C.B0 = true := Nat.ble_eq_true_of_le hb
    rw [this]; exact h

/-! ### One operation -/
variable (C) in
def StepT (hd : HH Prop) (op : Op) (l : Sl) (H : Hp) (Θ : Value → Hp → Prop) : Prop := covL l op.operands.toList = true ∧
  ∀ s k, MS C H s → (∀ v H' s', Θ v H' → MS C H' s' → k v s') → aop C ansP hd s op (rhoL l) k
variable (C) in
def ReadT (op : Op) (l : Sl) (H : Hp) (v : Value) : Prop := covL l op.operands.toList = true ∧ aP C op (rhoL l) = none ∧ ∀ s, MS C H s → aR C s op (rhoL l) = some v
variable (C) in
def CallT (hc : Abs.H Prop) (g : FuncId) (args : List Value) (H : Hp) (Q : Value → Hp → Prop) : Prop :=
  ∀ s k, MS C H s → (∀ v H' s', Q v H' → MS C H' s' → k v s') → hc g args s k

variable {hd : HH Prop} {op : Op} {l : Sl} {H H' : Hp} {Θ : Value → Hp → Prop} {v : Value}
theorem st_P (hc : covL l op.operands.toList = true) (hv : aP C op (rhoL l) = some v) (h : Θ v H) : StepT C hd op l H Θ :=
  ⟨hc, fun s k hm hk => by
    unfold aop
    simp only [covL_ok hc, hv]
    exact hk v H s h hm⟩
theorem st_R (hr : ReadT C op l H v) (h : Θ v H) : StepT C hd op l H Θ :=
  ⟨hr.1, fun s k hm hk => by
    unfold aop
    simp only [covL_ok hr.1, hr.2.1, hr.2.2 s hm]
    exact hk v H s h hm⟩
theorem st_A {ob : AObj} {mk : Nat → Value} (hc : covL l op.operands.toList = true) (hp : aP C op (rhoL l) = none) (hr : ∀ s, aR C s op (rhoL l) = none) (ha : aA C op (rhoL l) = some (ob, mk)) (h : ∀ b, Θ (mk b) ((b, ob) :: H)) : StepT C hd op l H Θ :=
  ⟨hc, fun s k hm hk => by
    unfold aop
    simp only [covL_ok hc, hp, hr s, ha]
    exact hk _ _ _ (h s.next) (hm.alloc ob)⟩
/-- An operation that writes. -/
theorem st_W (hc : covL l op.operands.toList = true) (hp : aP C op (rhoL l) = none) (hr : ∀ s, aR C s op (rhoL l) = none) (ha : aA C op (rhoL l) = none) (h : ∀ s, MS C H s → ∃ v H' s', aW C s op (rhoL l) = some (v, s') ∧ MS C H' s' ∧ Θ v H') : StepT C hd op l H Θ :=
  ⟨hc, fun s k hm hk => by
    obtain ⟨v, H', s', h1, h2, h3⟩ := h s hm
    unfold aop aE
    simp only [covL_ok hc, hp, hr s, ha, h1]
    exact hk _ _ _ h3 h2⟩

theorem argsL_eq {l : Sl} : ∀ {xs : List Operand} {vs : List Value}, argsL l xs = some vs → xs.map (rhoL l) = vs
  | [], _, h => by cases h; rfl
  | x :: xs, vs, h => by
    unfold argsL at h
    split at h
    · rename_i v ws h1 h2
      cases h
      rw [List.map_cons, rhoL_eq h1, argsL_eq h2]
    · cases h

theorem st_call {f : Operand} {args : Array Operand} {ts : Array TypeId} {g : FuncId} {first cap : Array Value} {vs : List Value} (hc : covL l (Op.call { callee := .value f, args, argTypes := ts }).operands.toList = true)
    (hf : evalL l f = some (.func (.func g) first cap)) (hcal : callable C g = true) (hargs : argsL l args.toList = some vs) (h : CallT C hd.call g (first.toList ++ (vs ++ cap.toList)) H Θ) :
    StepT C hd (.call { callee := .value f, args, argTypes := ts }) l H Θ :=
  ⟨hc, fun s k hm hk => by
    unfold aop aE
    simp only [covL_ok hc]
    simp only [aP, aR, aA, aW, acallOp, rhoL_eq hf, hcal, argsL_eq hargs]
    exact h s k hm hk⟩

theorem StepT.mono {Θ' : Value → Hp → Prop} (h : StepT C hd op l H Θ) (hm : ∀ v H', Θ v H' → Θ' v H') : StepT C hd op l H Θ' :=
  ⟨h.1, fun s k h1 h2 => h.2 s k h1 fun v H' s' h3 => h2 v H' s' (hm v H' h3)⟩
theorem CallT.mono {hc : Abs.H Prop} {g : FuncId} {args : List Value} {Q Q' : Value → Hp → Prop} (h : CallT C hc g args H Q) (hm : ∀ v H', Q v H' → Q' v H') : CallT C hc g args H Q' :=
  fun s k h1 h2 => h s k h1 fun v H' s' h3 => h2 v H' s' (hm v H' h3)
theorem CallT.weak {hc : Abs.H Prop} {g : FuncId} {args : List Value} {Q : Value → Hp → Prop} (h : CallT C hc g args H' Q) (hs : H'.Sublist H) : CallT C hc g args H Q :=
  fun s k h1 h2 => h s k (h1.sub hs) h2

/-! ### Loads and stores -/
theorem aload_is {s : St} (hm : MS C H s) {t : TypeId} {b off n : Nat} {g : Bool} {cs r : List Value} (hrow : RowIs C H b cs) (hg : aggAt C t = some g) (hn : sizeAt C t = some n) (hcut : cut cs off (if g then n else 1) = some r) (hv : valueOf g r = some v) :
    aload C s t (.pointer (some ⟨b, off, none⟩)) = some v := by
  unfold aload
  simp only [hg, hn, hrow.rowOf hm, hcut, Option.bind_some, hv]
theorem rd_load {t : TypeId} {a : Operand} {b off n : Nat} {g : Bool} {cs r : List Value} (ha : evalL l a = some (.pointer (some ⟨b, off, none⟩))) (hrow : RowIs C H b cs) (hg : aggAt C t = some g) (hn : sizeAt C t = some n)
    (hcut : cut cs off (if g then n else 1) = some r) (hv : valueOf g r = some v) : ReadT C (.load t a) l H v :=
  ⟨by simp [Op.operands, covL, ha], rfl, fun s hm => by simp only [aR, rhoL_eq ha]; exact aload_is hm hrow hg hn hcut hv⟩
theorem st_store {t : TypeId} {a x : Operand} {b off n es : Nat} {el : Bool} {cs cs' : List Value} (ha : evalL l a = some (.pointer (some ⟨b, off, none⟩))) (hx : evalL l x = some v) (hn : sizeAt C t = some n) (hz : Nat.beq v.cells.size n = true)
    (hst : storeRow cs off v.cells.toList = some cs') (hsw : Swap H b (.row cs es el) (.row cs' es el) H') (h : Θ undef H') : StepT C hd (.store t a x) l H Θ :=
  st_W (by simp [Op.operands, covL, ha, hx]) rfl (fun _ => rfl) rfl fun s hm => by
    obtain ⟨h1, h2, h3⟩ := hm.has _ _ hsw.mem
    refine ⟨undef, H', s.setObj b (.row cs' es el), ?_, hm.swap hsw, h⟩
    have hble : Nat.ble C.B0 b = true := Nat.ble_eq_true_of_le h1
    simp only [aW, rhoL_eq ha, rhoL_eq hx, astore, hn, hz, putCells, hble, h3, hst, Option.map_some]
end

section
variable {C : Ctx} {hd : HH Prop} {rd : Bool} {nt : Nat} {ops : Array Oper} {o : Oper} {os : List Oper} {l l' : Sl} {H H' : Hp} {v : Value}

variable (C hd nt ops) in
def RunT (os : List Oper) (l : Sl) (H : Hp) (Ψ : Sl → Hp → Prop) : Prop :=
  ∀ fr s k, FrHas nt l fr → MS C H s → (∀ l' H' fr' s', Ψ l' H' → FrHas nt l' fr' → MS C H' s' → k fr' s') → runSeq C ansP hd ops os fr s k

variable {Ψ : Sl → Hp → Prop}
theorem rt_nil (h : Ψ l H) : RunT C hd nt ops [] l H Ψ := fun fr s k hf hm hk => hk l H fr s h hf hm
theorem step_defer {op : Op} {c : Call} {Θ : Value → Hp → Prop} {s : St} (h : deferOf op = some c) (hs : StepT C hd op l H Θ) (hm : MS C H s) : False := by
  unfold deferOf at h
  split at h
  · have := hs.2 s (fun _ _ => True) hm fun _ _ _ _ _ => trivial
    unfold aop at this
    split at this
    · exact this
    · simp only [aP, aR, aA, aE, aW] at this
      exact this
  · cases h
theorem rt_step {d : Nat} (hw : wantedL ops o l = some true) (hd' : o.dst = some d) (hlt : Nat.blt d nt = true) (hs : StepT C hd o.op l H fun v H' => RunT C hd nt ops os ((d, v) :: l) H' Ψ) : RunT C hd nt ops (o :: os) l H Ψ :=
  fun fr s k hf hm hk => by
    unfold runSeq
    rw [hf.wanted hw]
    simp only
    split
    · rw [aop_agree (hf.agree hs.1)]
      refine hs.2 s _ hm fun v H' s' h1 h2 => ?_
      rw [hd']
      exact h1 _ s' k (hf.put hlt v) h2 hk
    · rename_i c hc
      exact (step_defer hc hs hm).elim
theorem rt_step0 (hw : wantedL ops o l = some true) (hd' : o.dst = none) (hs : StepT C hd o.op l H fun _ H' => RunT C hd nt ops os l H' Ψ) : RunT C hd nt ops (o :: os) l H Ψ :=
  fun fr s k hf hm hk => by
    unfold runSeq
    rw [hf.wanted hw]
    simp only
    split
    · rw [aop_agree (hf.agree hs.1)]
      refine hs.2 s _ hm fun v H' s' h1 h2 => ?_
      rw [hd']
      exact h1 _ s' k (hf.put0 v) h2 hk
    · rename_i c hc
      exact (step_defer hc hs hm).elim
theorem rt_skip {d : Nat} (hw : wantedL ops o l = some false) (hd' : o.dst = some d) (hlt : Nat.blt d nt = true) (h : RunT C hd nt ops os ((d, undef) :: l) H Ψ) : RunT C hd nt ops (o :: os) l H Ψ :=
  fun fr s k hf hm hk => by
    unfold runSeq
    rw [hf.wanted hw, hd']
    exact h _ s k (hf.put hlt undef) hm hk
theorem rt_skip0 (hw : wantedL ops o l = some false) (hd' : o.dst = none) (h : RunT C hd nt ops os l H Ψ) : RunT C hd nt ops (o :: os) l H Ψ :=
  fun fr s k hf hm hk => by
    unfold runSeq
    rw [hf.wanted hw, hd']
    exact h _ s k (hf.put0 undef) hm hk
theorem FrHas.refine {fr : Fr} {t : Nat} {u : Value} (h : FrHas nt l fr) (ht : getL l t = some v) (e : v = u) : FrHas nt ((t, u) :: l) fr :=
  ⟨h.nt, h.marks, fun x y hx => by
    rw [getL_cons] at hx
    split at hx
    · rename_i e2; subst e2; cases hx; exact h.get _ _ (e ▸ ht)
    · exact h.get x y hx⟩
/-- A guard that is not known: both ways. -/
theorem rt_guard {j d : Nat} {want b : Bool} {g : Oper} (hg : o.guard = some (j, want)) (hj : ops.toList[j]? = some g) (hgd : g.dst = some d) (hb : getL l d = some (.bool b))
    (h1 : b = true → RunT C hd nt ops (o :: os) ((d, .bool true) :: l) H Ψ) (h2 : b = false → RunT C hd nt ops (o :: os) ((d, .bool false) :: l) H Ψ) : RunT C hd nt ops (o :: os) l H Ψ := by
  cases b with
  | true => exact fun fr s k hf hm hk => h1 rfl fr s k (hf.refine hb rfl) hm hk
  | false => exact fun fr s k hf hm hk => h2 rfl fr s k (hf.refine hb rfl) hm hk
theorem RunT.mono {Ψ' : Sl → Hp → Prop} (h : RunT C hd nt ops os l H Ψ) (hm : ∀ l' H', Ψ l' H' → Ψ' l' H') : RunT C hd nt ops os l H Ψ' :=
  fun fr s k h1 h2 h3 => h fr s k h1 h2 fun l' H' fr' s' h4 => h3 l' H' fr' s' (hm _ _ h4)

/-! ### Regions that draw -/
structure RdE where
  i : Nat
  op : Op
  l : Sl
  v : Value
def RdsOk : List RdE → List Ent → Prop
  | [], [] => True
  | e :: es, n :: ns => (n.i = e.i ∧ n.o.op = e.op ∧ Agree e.op n.fr.eval (rhoL e.l) ∧ n.v = e.v) ∧ RdsOk es ns
  | _, _ => False
variable (C) in
def RecT (m : Nat) (H : Hp) : List RdE → Prop
  | [] => True
  | e :: es => (m.testBit e.i = true ∨ ReadT C e.op e.l H e.v) ∧ RecT m H es
theorem rec_nil {m : Nat} : RecT C m H [] := trivial
theorem rec_bit {m i : Nat} {op : Op} {l : Sl} {v : Value} {es : List RdE} (h : m.testBit i = true) (hs : RecT C m H es) : RecT C m H (⟨i, op, l, v⟩ :: es) := ⟨.inl h, hs⟩
theorem rec_rd {m : Nat} {e : RdE} {es : List RdE} (h : ReadT C e.op e.l H e.v) (hs : RecT C m H es) : RecT C m H (e :: es) := ⟨.inr h, hs⟩
theorem RecT.run {m : Nat} {s : St} {r : Prop} (hm : MS C H s) : ∀ {es : List RdE} {ns : List Ent}, RdsOk es ns → RecT C m H es → r → recheck C ansP m s ns r
  | [], [], _, _, hr => hr
  | e :: es, n :: ns, ⟨⟨h1, h2, h3, h4⟩, h5⟩, ⟨h6, h7⟩, hr => by
    unfold recheck
    have ih := RecT.run hm h5 h7 hr
    split
    · exact ih
    · rename_i hb
      rcases h6 with h6 | h6
      · rw [h1, h6] at hb; cases hb
      · have e2 : aR C s n.o.op n.fr.eval = some e.v := by
          rw [h2, aR_agree h3]; exact h6.2.2 s hm
        rw [e2]
        exact ⟨h4.symm, ih⟩
  | [], _ :: _, h, _, _ => h.elim
  | _ :: _, [], h, _, _ => h.elim

variable (C hd nt ops) in
def PlanT (E masks plan : List Nat) (rs : List RdE) (l : Sl) (H : Hp) (Ψ : Sl → Hp → Prop) : Prop :=
  ∀ fr s k ns, FrHas nt l fr → MS C H s → RdsOk rs ns → (∀ l' H' fr' s', Ψ l' H' → FrHas nt l' fr' → MS C H' s' → k fr' s') → runPlan C ansP hd ops E masks plan ns fr s k
variable {E masks rest : List Nat} {rs : List RdE} {i m : Nat}
theorem pl_nil (h : Ψ l H) : PlanT C hd nt ops E masks [] rs l H Ψ := fun fr s k ns hf hm _ hk => hk l H fr s h hf hm
theorem pl_skip {d : Nat} (ho : ops.toList[i]? = some o) (hm : masks[i]? = some m) (hw : wantedL ops o l = some false) (hd' : o.dst = some d) (hlt : Nat.blt d nt = true) (h : PlanT C hd nt ops E masks rest rs ((d, undef) :: l) H Ψ) : PlanT C hd nt ops E masks (i :: rest) rs l H Ψ :=
  fun fr s k ns hf hms hr hk => by
    unfold runPlan
    simp only [ho, hm, hf.wanted hw, hd']
    exact h _ s k ns (hf.put hlt undef) hms hr hk
theorem pl_skip0 (ho : ops.toList[i]? = some o) (hm : masks[i]? = some m) (hw : wantedL ops o l = some false) (hd' : o.dst = none) (h : PlanT C hd nt ops E masks rest rs l H Ψ) : PlanT C hd nt ops E masks (i :: rest) rs l H Ψ :=
  fun fr s k ns hf hms hr hk => by
    unfold runPlan
    simp only [ho, hm, hf.wanted hw, hd']
    exact h _ s k ns (hf.put0 undef) hms hr hk
theorem pl_P {d : Nat} (ho : ops.toList[i]? = some o) (hm : masks[i]? = some m) (hw : wantedL ops o l = some true) (hfl : isFloat o.op = true) (hd' : o.dst = some d) (hlt : Nat.blt d nt = true) (hc : covL l o.op.operands.toList = true)
    (hv : aP C o.op (rhoL l) = some v) (h : PlanT C hd nt ops E masks rest rs ((d, v) :: l) H Ψ) : PlanT C hd nt ops E masks (i :: rest) rs l H Ψ :=
  fun fr s k ns hf hms hr hk => by
    unfold runPlan
    have e : aP C o.op fr.eval = some v := by rw [aP_agree (hf.agree hc)]; exact hv
    simp only [ho, hm, hf.wanted hw, hd', hfl, covL_ok hc, e]
    exact h _ s k ns (hf.put hlt v) hms hr hk
theorem pl_R {d : Nat} (ho : ops.toList[i]? = some o) (hm : masks[i]? = some m) (hw : wantedL ops o l = some true) (hfl : isFloat o.op = true) (hd' : o.dst = some d) (hlt : Nat.blt d nt = true) (hr : ReadT C o.op l H v)
    (h : PlanT C hd nt ops E masks rest (⟨i, o.op, l, v⟩ :: rs) ((d, v) :: l) H Ψ) : PlanT C hd nt ops E masks (i :: rest) rs l H Ψ :=
  fun fr s k ns hf hms hrs hk => by
    unfold runPlan
    have e : aP C o.op fr.eval = none := by rw [aP_agree (hf.agree hr.1)]; exact hr.2.1
    have e2 : aR C s o.op fr.eval = some v := by rw [aR_agree (hf.agree hr.1)]; exact hr.2.2 s hms
    simp only [ho, hm, hf.wanted hw, hd', hfl, covL_ok hr.1, e, e2]
    exact h _ s k _ (hf.put hlt v) hms ⟨⟨rfl, rfl, hf.agree hr.1, rfl⟩, hrs⟩ hk
/-- What may run ahead is made. -/
def LateT (C : Ctx) (nt : Nat) (ops : Array Oper) (E masks rest : List Nat) (l : Sl) : Prop := ∀ fr, FrHas nt l fr → lateOk C ops E masks rest fr = true
theorem late_nil {r : List Nat} : LateT C nt ops [] masks r l := fun _ _ => rfl
theorem pl_S' {d : Nat} (hL : LateT C nt ops E masks (i :: rest) l) (ho : ops.toList[i]? = some o) (hm : masks[i]? = some m) (hw : wantedL ops o l = some true) (hfl : isFloat o.op = false) (hd' : o.dst = some d) (hlt : Nat.blt d nt = true)
    (hs : StepT C hd o.op l H fun v H' => RecT C m H' rs ∧ PlanT C hd nt ops E masks rest rs ((d, v) :: l) H' Ψ) : PlanT C hd nt ops E masks (i :: rest) rs l H Ψ :=
  fun fr s k ns hf hms hrs hk => by
    unfold runPlan
    simp only [ho, hm, hf.wanted hw, hd', hfl, covL_ok hs.1, hL fr hf]
    rw [aop_agree (hf.agree hs.1)]
    refine hs.2 s _ hms fun v H' s' ⟨h1, h2⟩ h3 => ?_
    exact h1.run h3 hrs (h2 _ s' k ns (hf.put hlt v) h3 hrs hk)
theorem pl_S0' (hL : LateT C nt ops E masks (i :: rest) l) (ho : ops.toList[i]? = some o) (hm : masks[i]? = some m) (hw : wantedL ops o l = some true) (hfl : isFloat o.op = false) (hd' : o.dst = none)
    (hs : StepT C hd o.op l H fun _ H' => RecT C m H' rs ∧ PlanT C hd nt ops E masks rest rs l H' Ψ) : PlanT C hd nt ops E masks (i :: rest) rs l H Ψ :=
  fun fr s k ns hf hms hrs hk => by
    unfold runPlan
    simp only [ho, hm, hf.wanted hw, hd', hfl, covL_ok hs.1, hL fr hf]
    rw [aop_agree (hf.agree hs.1)]
    refine hs.2 s _ hms fun v H' s' ⟨h1, h2⟩ h3 => ?_
    exact h1.run h3 hrs (h2 _ s' k ns (hf.put0 v) h3 hrs hk)
theorem pl_S {d : Nat} (ho : ops.toList[i]? = some o) (hm : masks[i]? = some m) (hw : wantedL ops o l = some true) (hfl : isFloat o.op = false) (hd' : o.dst = some d) (hlt : Nat.blt d nt = true)
    (hs : StepT C hd o.op l H fun v H' => RecT C m H' rs ∧ PlanT C hd nt ops [] masks rest rs ((d, v) :: l) H' Ψ) : PlanT C hd nt ops [] masks (i :: rest) rs l H Ψ := pl_S' late_nil ho hm hw hfl hd' hlt hs
theorem pl_S0 (ho : ops.toList[i]? = some o) (hm : masks[i]? = some m) (hw : wantedL ops o l = some true) (hfl : isFloat o.op = false) (hd' : o.dst = none)
    (hs : StepT C hd o.op l H fun _ H' => RecT C m H' rs ∧ PlanT C hd nt ops [] masks rest rs l H' Ψ) : PlanT C hd nt ops [] masks (i :: rest) rs l H Ψ := pl_S0' late_nil ho hm hw hfl hd' hs
/-- One that may run ahead: not ready yet. -/
def lateNo (masks E rest : List Nat) (x : Nat) : Bool := match rest.contains x, masks[x]? with
  | true, some m => !(rest.all fun j => !m.testBit j || E.contains j)
  | _, _ => true
/-- One that may run ahead: it is made. -/
structure Made (C : Ctx) (ops : Array Oper) (l : Sl) (x : Nat) : Prop where
  ex : ∃ o ob mk, ops.toList[x]? = some o ∧ covL l o.op.operands.toList = true ∧ aA C o.op (rhoL l) = some (ob, mk)
theorem late_all {r : List Nat} (h : ∀ x ∈ E, lateNo masks E r x = true ∨ Made C ops l x) : LateT C nt ops E masks r l := fun fr hf => by
  unfold lateOk
  refine List.all_eq_true.2 fun x hx => ?_
  rcases h x hx with h1 | ⟨o, ob, mk, h1, h2, h3⟩
  · unfold lateNo at h1
    split at h1
    · rename_i m e1 e2
      rw [e1, e2]
      cases ho : ops.toList[x]? with
      | none => rfl
      | some o =>
        have h1 : (r.all fun j => !m.testBit j || E.contains j) = false := by simpa using h1
        simp only [h1]
    · rename_i hno
      split
      · rename_i e1 _ e2
        exact (hno _ e1 e2).elim
      · rfl
  · rw [h1]
    split
    · rename_i e2 e3
      cases e2
      split
      · have h4 : aA C o.op fr.eval = some (ob, mk) := by rw [aA_agree (hf.agree h2)]; exact h3
        rw [covL_ok h2, h4]; rfl
      · rfl
    · rfl
theorem pl_guard {j d : Nat} {want b : Bool} {g : Oper} (ho : ops.toList[i]? = some o) (hg : o.guard = some (j, want)) (hj : ops.toList[j]? = some g) (hgd : g.dst = some d) (hb : getL l d = some (.bool b))
    (h1 : b = true → PlanT C hd nt ops E masks (i :: rest) rs ((d, .bool true) :: l) H Ψ) (h2 : b = false → PlanT C hd nt ops E masks (i :: rest) rs ((d, .bool false) :: l) H Ψ) : PlanT C hd nt ops E masks (i :: rest) rs l H Ψ := by
  cases b with
  | true => exact fun fr s k ns hf hm hr hk => h1 rfl fr s k ns (hf.refine hb rfl) hm hr hk
  | false => exact fun fr s k ns hf hm hr hk => h2 rfl fr s k ns (hf.refine hb rfl) hm hr hk

/-! ### Code -/
variable (C hd rd nt) in
def CodeT (c : Code) (l : Sl) (H : Hp) (Φ : AX → Sl → Hp → Prop) : Prop :=
  ∀ fr s k, FrHas nt l fr → MS C H s → (∀ e l' H' fr' s', Φ e l' H' → FrHas nt l' fr' → MS C H' s' → k e fr' s') → acode C ansP hd rd c fr s k
variable (C hd rd nt) in
def LoopT (b : Code) (n : Nat) (l : Sl) (H : Hp) (Φ : AX → Sl → Hp → Prop) : Prop :=
  ∀ fr s k, FrHas nt l fr → MS C H s → (∀ e l' H' fr' s', Φ e l' H' → FrHas nt l' fr' → MS C H' s' → k e fr' s') → loopN ansP (acode C ansP hd rd b) n fr s k
variable {a b c : Code} {Φ : AX → Sl → Hp → Prop} {id n : Nat}
def seqΦ (next : Sl → Hp → Prop) (Φ : AX → Sl → Hp → Prop) : AX → Sl → Hp → Prop
  | .normal => next
  | e => Φ e
def blockΦ (id : Nat) (Φ : AX → Sl → Hp → Prop) : AX → Sl → Hp → Prop
  | .exit i => match Nat.beq i id with
    | true => Φ .normal
    | false => Φ (.exit i)
  | e => Φ e
theorem ct_seq (h : CodeT C hd rd nt a l H (seqΦ (fun l' H' => CodeT C hd rd nt b l' H' Φ) Φ)) : CodeT C hd rd nt (.seq a b) l H Φ := fun fr s k hf hm hk => by
  simp only [acode]
  refine h fr s _ hf hm fun e l' H' fr' s' h1 h2 h3 => ?_
  cases e with
  | normal => exact h1 fr' s' k h2 h3 hk
  | exit i => exact hk _ _ _ _ _ h1 h2 h3
  | ret => exact hk _ _ _ _ _ h1 h2 h3
theorem ct_skip (h : Φ .normal l H) : CodeT C hd rd nt .skip l H Φ := fun fr s k hf hm hk => by simp only [acode]; exact hk _ _ _ _ _ h hf hm
theorem ct_label {x : Nat} (h : Φ .normal l H) : CodeT C hd rd nt (.label x) l H Φ := fun fr s k hf hm hk => by simp only [acode]; exact hk _ _ _ _ _ h hf hm
theorem ct_exit (h : Φ (.exit id) l H) : CodeT C hd rd nt (.exit id) l H Φ := fun fr s k hf hm hk => by simp only [acode]; exact hk _ _ _ _ _ h hf hm
theorem ct_ret (h : Φ .ret l H) : CodeT C hd rd nt .ret l H Φ := fun fr s k hf hm hk => by simp only [acode]; exact hk _ _ _ _ _ h hf hm
theorem ct_scope (h : CodeT C hd false nt b l H Φ) : CodeT C hd false nt (.scope b) l H Φ := fun fr s k hf hm hk => by simp only [acode]; exact h fr s k hf hm hk
theorem ct_region {os : List Oper} (ho : ops.toList = os) (h : RunT C hd nt ops os l H (Φ .normal)) (hr : (rd && !noDefer ops) = false := by rfl) : CodeT C hd rd nt (.region id ops false) l H Φ := fun fr s k hf hm hk => by
  simp only [acode]
  rw [hr, ho]
  exact h fr s _ hf hm fun l' H' fr' s' h1 h2 h3 => hk .normal l' H' fr' s' h1 h2 h3
/-- The slots that may be written ahead are not known. -/
def blankL (nt : Nat) (ops : Array Oper) : List Nat → Sl → Sl
  | [], l => l
  | x :: E, l => match ops.toList[x]? with
    | some o => match o.dst with
      | some d => match Nat.blt d nt with
        | true => blankL nt ops E ((d, .tuple #[.nilFunc]) :: l)
        | false => blankL nt ops E l
      | none => blankL nt ops E l
    | none => blankL nt ops E l
theorem FrHas.blank : ∀ {E : List Nat} {l : Sl} {fr : Fr}, FrHas nt l fr → FrHas nt (blankL nt ops E l) (Abs.blank ops E fr)
  | [], l, fr, h => h
  | x :: E, l, fr, h => by
    unfold blankL Abs.blank
    cases ho : ops.toList[x]? with
    | none => exact FrHas.blank h
    | some o =>
      simp only
      cases hd : o.dst with
      | none => exact FrHas.blank (h.put0 _)
      | some d =>
        simp only
        cases hb : Nat.blt d nt with
        | true => exact FrHas.blank (h.put hb _)
        | false =>
          have e : fr.put (some d) (.tuple #[.nilFunc]) = fr := by
            have hb' : Nat.blt d fr.nt = false := by rw [h.nt]; exact hb
            simp only [Fr.put, hb']
          rw [e]
          exact FrHas.blank h
theorem ct_draw {E masks plan : List Nat} (h0 : (planOk ops (earlyOf ops (masksOf ops) (planOf ops)) (masksOf ops) (planOf ops)) = true) (h1 : masksOf ops = masks) (h2 : planOf ops = plan) (h3 : earlyOf ops (masksOf ops) (planOf ops) = E) (h : PlanT C hd nt ops E masks plan [] (blankL nt ops E l) H (Φ .normal)) : CodeT C hd rd nt (.region id ops true) l H Φ := fun fr s k hf hm hk => by
  simp only [acode, runDraw, h0]
  rw [h3, h1, h2]
  exact h _ s _ [] hf.blank hm trivial fun l' H' fr' s' h1 h2 h3 => hk .normal l' H' fr' s' h1 h2 h3
theorem ct_true {x : Operand} (hx : evalL l x = some (.bool true)) (h : CodeT C hd rd nt a l H Φ) : CodeT C hd rd nt (.cond x a b) l H Φ := fun fr s k hf hm hk => by
  simp only [acode, evalL_ok hx, hf.eval hx]
  exact h fr s k hf hm hk
theorem ct_false {x : Operand} (hx : evalL l x = some (.bool false)) (h : CodeT C hd rd nt b l H Φ) : CodeT C hd rd nt (.cond x a b) l H Φ := fun fr s k hf hm hk => by
  simp only [acode, evalL_ok hx, hf.eval hx]
  exact h fr s k hf hm hk
theorem ct_cond {x : Operand} {t : Bool} (hx : evalL l x = some (.bool t)) (h1 : t = true → CodeT C hd rd nt a l H Φ) (h2 : t = false → CodeT C hd rd nt b l H Φ) : CodeT C hd rd nt (.cond x a b) l H Φ := by
  cases t with
  | true => exact ct_true hx (h1 rfl)
  | false => exact ct_false hx (h2 rfl)
theorem ct_block (h : CodeT C hd rd nt b l H (blockΦ id Φ)) : CodeT C hd rd nt (.block id b) l H Φ := fun fr s k hf hm hk => by
  simp only [acode]
  refine h fr s _ hf hm fun e l' H' fr' s' h1 h2 h3 => ?_
  cases e with
  | normal => exact hk _ _ _ _ _ h1 h2 h3
  | ret => exact hk _ _ _ _ _ h1 h2 h3
  | exit i =>
    cases hb : Nat.beq i id with
    | true => simp only [blockΦ, hb] at h1 ⊢; exact hk _ _ _ _ _ h1 h2 h3
    | false => simp only [blockΦ, hb] at h1 ⊢; exact hk _ _ _ _ _ h1 h2 h3
theorem ct_loop (n : Nat) (h : LoopT C hd rd nt b n l H Φ) : CodeT C hd rd nt (.loop b) l H Φ := fun fr s k hf hm hk => by
  simp only [acode]
  exact ⟨n, h fr s k hf hm hk⟩
theorem lt_step (h : CodeT C hd rd nt b l H (seqΦ (fun l' H' => LoopT C hd rd nt b n l' H' Φ) Φ)) : LoopT C hd rd nt b (n + 1) l H Φ := fun fr s k hf hm hk => by
  unfold loopN
  refine h fr s _ hf hm fun e l' H' fr' s' h1 h2 h3 => ?_
  cases e with
  | normal => exact h1 fr' s' k h2 h3 hk
  | exit i => exact hk _ _ _ _ _ h1 h2 h3
  | ret => exact hk _ _ _ _ _ h1 h2 h3
theorem LoopT.weak (h : LoopT C hd rd nt b n l' H' Φ) (h1 : SubL l' l) (h2 : H'.Sublist H) : LoopT C hd rd nt b n l H Φ := fun fr s k hf hm hk => h fr s k (hf.sub h1) (hm.sub h2) hk
theorem CodeT.weak (h : CodeT C hd rd nt b l' H' Φ) (h1 : SubL l' l) (h2 : H'.Sublist H) : CodeT C hd rd nt b l H Φ := fun fr s k hf hm hk => h fr s k (hf.sub h1) (hm.sub h2) hk
theorem CodeT.mono {Φ' : AX → Sl → Hp → Prop} (h : CodeT C hd rd nt b l H Φ) (hm : ∀ e l' H', Φ e l' H' → Φ' e l' H') : CodeT C hd rd nt b l H Φ' :=
  fun fr s k h1 h2 h3 => h fr s k h1 h2 fun e l' H' fr' s' h4 => h3 e l' H' fr' s' (hm _ _ _ h4)

/-- A loop: what holds of slots and blocks at the head of a round i, and a measure. -/
theorem loop_ind {ι : Type} (i0 : ι) (m : ι → Nat) (P : ι → Prop) (lf : ι → Sl) (Hf : ι → Hp) (h0 : P i0) (hl : SubL (lf i0) l) (hH : (Hf i0).Sublist H)
    (step : ∀ i, P i → CodeT C hd rd nt b (lf i) (Hf i) (seqΦ (fun l' H' => ∃ j, P j ∧ m j < m i ∧ SubL (lf j) l' ∧ (Hf j).Sublist H') Φ)) : CodeT C hd rd nt (.loop b) l H Φ := by
  have all : ∀ n i, m i < n → P i → LoopT C hd rd nt b n (lf i) (Hf i) Φ := by
    intro n
    induction n with
    | zero => intro i hi; omega
    | succ n ih =>
      intro i hi hp
      refine lt_step ((step i hp).mono fun e l' H' h => ?_)
      cases e with
      | normal =>
        obtain ⟨j, h1, h2, h3, h4⟩ := h
        exact (ih j (by omega) h1).weak h3 h4
      | exit i => exact h
      | ret => exact h
  exact ct_loop (m i0 + 1) ((all _ i0 (Nat.lt_succ_self _) h0).weak hl hH)

/-! ### Results, calls -/
variable (C) in
def ResT : List ResultVar → Sl → Hp → (List Value → Prop) → Prop
  | [], _, _, Q => Q []
  | .tmp t :: rs, l, H, Q => ∃ v, getL l t = some v ∧ ResT rs l H fun vs => Q (v :: vs)
  | .cell a t :: rs, l, H, Q => ∃ p v, getL l a = some (.pointer (some p)) ∧ (∀ s, MS C H s → aload C s t (.pointer (some p)) = some v) ∧ ResT rs l H fun vs => Q (v :: vs)
theorem res_nil {Q : List Value → Prop} (h : Q []) : ResT C [] l H Q := h
theorem res_tmp {t : Nat} {rs : List ResultVar} {Q : List Value → Prop} (h : getL l t = some v) (hr : ResT C rs l H fun vs => Q (v :: vs)) : ResT C (.tmp t :: rs) l H Q := ⟨v, h, hr⟩
theorem res_cell {p t : Nat} {rs : List ResultVar} {Q : List Value → Prop} {b off n : Nat} {g : Bool} {cs r : List Value} (ha : getL l p = some (.pointer (some ⟨b, off, none⟩))) (hrow : RowIs C H b cs) (hg : aggAt C t = some g) (hn : sizeAt C t = some n)
    (hcut : cut cs off (if g then n else 1) = some r) (hv : valueOf g r = some v) (hr : ResT C rs l H fun vs => Q (v :: vs)) : ResT C (.cell p t :: rs) l H Q :=
  ⟨_, v, ha, fun _ hm => aload_is hm hrow hg hn hcut hv, hr⟩
theorem ResT.run {fr : Fr} {s : St} (hf : FrHas nt l fr) (hm : MS C H s) : ∀ {rs : List ResultVar} {Q : List Value → Prop}, ResT C rs l H Q → ∃ vs, aresults C fr s rs = some vs ∧ Q vs
  | [], Q, h => ⟨[], rfl, h⟩
  | .tmp t :: rs, Q, ⟨v, h1, h2⟩ => by
    obtain ⟨vs, h3, h4⟩ := ResT.run hf hm h2
    refine ⟨v :: vs, ?_, h4⟩
    simp only [aresults, aresult, hf.get _ _ h1, h3]
  | .cell p t :: rs, Q, ⟨q, v, h1, h5, h2⟩ => by
    obtain ⟨vs, h3, h4⟩ := ResT.run hf hm h2
    refine ⟨v :: vs, ?_, h4⟩
    simp only [aresults, aresult, hf.get _ _ h1, h5 s hm, h3]

def retΦ (C : Ctx) (rs : List ResultVar) (Q : Value → Hp → Prop) : AX → Sl → Hp → Prop
  | .exit _ => fun _ _ => False
  | _ => fun l H => ∃ H', H'.Sublist H ∧ ResT C rs l H fun vs => Q (tupled vs) H'

theorem sq_n {next : Sl → Hp → Prop} (h : next l H) : seqΦ next Φ .normal l H := h
theorem sq_e {next : Sl → Hp → Prop} (h : Φ (.exit id) l H) : seqΦ next Φ (.exit id) l H := h
theorem sq_r {next : Sl → Hp → Prop} (h : Φ .ret l H) : seqΦ next Φ .ret l H := h
theorem bk_n (h : Φ .normal l H) : blockΦ id Φ .normal l H := h
theorem bk_r (h : Φ .ret l H) : blockΦ id Φ .ret l H := h
theorem bk_e {i : Nat} (e : Nat.beq i id = true) (h : Φ .normal l H) : blockΦ id Φ (.exit i) l H := by simp only [blockΦ, e]; exact h
theorem bk_x {i : Nat} (e : Nat.beq i id = false) (h : Φ (.exit i) l H) : blockΦ id Φ (.exit i) l H := by simp only [blockΦ, e]; exact h
theorem re_n {rs : List ResultVar} {Q : Value → Hp → Prop} (hs : H'.Sublist H) (h : ResT C rs l H fun vs => Q (tupled vs) H') : retΦ C rs Q .normal l H := ⟨H', hs, h⟩
theorem re_r {rs : List ResultVar} {Q : Value → Hp → Prop} (hs : H'.Sublist H) (h : ResT C rs l H fun vs => Q (tupled vs) H') : retΦ C rs Q .ret l H := ⟨H', hs, h⟩
def slots : Nat → List Value → Sl
  | _, [] => []
  | n, v :: vs => (n, v) :: slots (n + 1) vs
theorem slots_get : ∀ (n : Nat) (vs : List Value) (t : Nat) (v : Value), getL (slots n vs) t = some v → n ≤ t ∧ vs[t - n]? = some v
  | n, [], t, v, h => by cases h
  | n, w :: vs, t, v, h => by
    rw [slots, getL_cons] at h
    split at h
    · rename_i e; subst e; cases h; exact ⟨Nat.le_refl _, by simp⟩
    · obtain ⟨h1, h2⟩ := slots_get (n + 1) vs t v h
      refine ⟨by omega, ?_⟩
      rw [show t - n = (t - (n + 1)) + 1 from by omega]
      simpa using h2

theorem call_in (nt : Nat) {f : Nat} {args : List Value} {fn : Func} {c : Code} {Q : Value → Hp → Prop} (he : C.ext f args = none) (hf : C.P.funcs[f]? = some fn) (hb : fn.body = some c) (hnt : max args.length fn.ntmps = nt)
    (h : CodeT C (ahand C ansP n) false nt c (slots 0 args) H (retΦ C fn.results.toList Q)) : CallT C (acall C ansP (n + 1)) f args H Q := fun s k hm hk => by
  unfold acall ahand
  simp only [he, hf, hb]
  refine h _ s _ ⟨hnt, rfl, fun t v ht => ?_⟩ hm fun e l' H' fr' s' h1 h2 h3 => ?_
  · obtain ⟨_, h2⟩ := slots_get 0 args t v ht
    unfold Fr.get
    have hlt : t < args.length := by
      have := (List.getElem?_eq_some_iff.1 h2).1; omega
    simp only [Trie.get_ofList]
    rw [if_pos (by omega)]
    have h2' : args[t - 0]? = some v := h2
    rw [h2']
  · cases e with
    | exit i => exact h1.elim
    | normal =>
      obtain ⟨H2, hs, h1⟩ := h1
      obtain ⟨vs, h4, h5⟩ := ResT.run h2 h3 h1
      simp only [h2.marks, leave, h4]
      exact hk _ _ _ h5 (h3.sub hs)
    | ret =>
      obtain ⟨H2, hs, h1⟩ := h1
      obtain ⟨vs, h4, h5⟩ := ResT.run h2 h3 h1
      simp only [h2.marks, leave, h4]
      exact hk _ _ _ h5 (h3.sub hs)
theorem call_in1 (nt : Nat) {f : Nat} {a0 : Value} {fn : Func} {c : Code} {Q : Value → Hp → Prop} (he : C.ext f [a0] = none) (hf : C.P.funcs[f]? = some fn) (hb : fn.body = some c) (hnt : max 1 fn.ntmps = nt)
    (h : CodeT C (ahand C ansP n) false nt c [(0, a0)] H (retΦ C fn.results.toList Q)) : CallT C (acall C ansP (n + 1)) f [a0] H Q := call_in nt he hf hb hnt h
theorem call_in2 (nt : Nat) {f : Nat} {a0 a1 : Value} {fn : Func} {c : Code} {Q : Value → Hp → Prop} (he : C.ext f [a0, a1] = none) (hf : C.P.funcs[f]? = some fn) (hb : fn.body = some c) (hnt : max 2 fn.ntmps = nt)
    (h : CodeT C (ahand C ansP n) false nt c [(0, a0), (1, a1)] H (retΦ C fn.results.toList Q)) : CallT C (acall C ansP (n + 1)) f [a0, a1] H Q := call_in nt he hf hb hnt h
theorem call_in3 (nt : Nat) {f : Nat} {a0 a1 a2 : Value} {fn : Func} {c : Code} {Q : Value → Hp → Prop} (he : C.ext f [a0, a1, a2] = none) (hf : C.P.funcs[f]? = some fn) (hb : fn.body = some c) (hnt : max 3 fn.ntmps = nt)
    (h : CodeT C (ahand C ansP n) false nt c [(0, a0), (1, a1), (2, a2)] H (retΦ C fn.results.toList Q)) : CallT C (acall C ansP (n + 1)) f [a0, a1, a2] H Q := call_in nt he hf hb hnt h
theorem call_in4 (nt : Nat) {f : Nat} {a0 a1 a2 a3 : Value} {fn : Func} {c : Code} {Q : Value → Hp → Prop} (he : C.ext f [a0, a1, a2, a3] = none) (hf : C.P.funcs[f]? = some fn) (hb : fn.body = some c) (hnt : max 4 fn.ntmps = nt)
    (h : CodeT C (ahand C ansP n) false nt c [(0, a0), (1, a1), (2, a2), (3, a3)] H (retΦ C fn.results.toList Q)) : CallT C (acall C ansP (n + 1)) f [a0, a1, a2, a3] H Q := call_in nt he hf hb hnt h
/-- A function with one result, in a slot. -/
theorem re_1 {Q : Value → Hp → Prop} {rs : List ResultVar} {t : Nat} (hr : rs = [.tmp t]) (h : getL l t = some v) (hs : H'.Sublist H) (hq : Q v H') : retΦ C rs Q .ret l H := by
  subst hr; exact re_r hs (res_tmp h (res_nil hq))
theorem re_2 {Q : Value → Hp → Prop} {rs : List ResultVar} {t t2 : Nat} {v2 : Value} (hr : rs = [.tmp t, .tmp t2]) (h : getL l t = some v) (h2 : getL l t2 = some v2) (hs : H'.Sublist H) (hq : Q (.tuple #[v, v2]) H') : retΦ C rs Q .ret l H := by
  subst hr; exact re_r hs (res_tmp h (res_tmp h2 (res_nil hq)))
theorem call_ext {f : Nat} {args : List Value} {Q : Value → Hp → Prop} (he : C.ext f args = some v) (h : Q v H) : CallT C (acall C ansP (n + 1)) f args H Q := fun s k hm hk => by
  unfold acall ahand
  simp only [he]
  exact hk v H s h hm

theorem hm0 {α : Type} {x : α} {l : List α} : x ∈ x :: l := List.Mem.head _
theorem hm1 {α : Type} {x a : α} {l : List α} : x ∈ a :: x :: l := .tail _ hm0
theorem hm2 {α : Type} {x a b : α} {l : List α} : x ∈ a :: b :: x :: l := .tail _ hm1
theorem hm3 {α : Type} {x a b c : α} {l : List α} : x ∈ a :: b :: c :: x :: l := .tail _ hm2
theorem hm4 {α : Type} {x a b c d : α} {l : List α} : x ∈ a :: b :: c :: d :: x :: l := .tail _ hm3
theorem hm5 {α : Type} {x a b c d e : α} {l : List α} : x ∈ a :: b :: c :: d :: e :: x :: l := .tail _ hm4
theorem hm6 {α : Type} {x a b c d e f : α} {l : List α} : x ∈ a :: b :: c :: d :: e :: f :: x :: l := .tail _ hm5
theorem hm7 {α : Type} {x a b c d e f g : α} {l : List α} : x ∈ a :: b :: c :: d :: e :: f :: g :: x :: l := .tail _ hm6
end

section
variable {C : Ctx} {hd : HH Prop} {nt : Nat} {ops : Array Oper} {o : Oper} {os : List Oper} {l l' : Sl} {H H' : Hp} {v : Value} {x y z : Operand} {t yt : TypeId}

/-- An operation that computes a value. -/
def PureT (C : Ctx) (op : Op) (l : Sl) (v : Value) : Prop := covL l op.operands.toList = true ∧ aP C op (rhoL l) = some v
variable {Ψ : Sl → Hp → Prop} {Θ : Value → Hp → Prop} {op : Op}
theorem st_p (h : PureT C op l v) (hk : Θ v H) : StepT C hd op l H Θ := st_P h.1 h.2 hk
theorem rt_p {d : Nat} (hw : wantedL ops o l = some true) (hd' : o.dst = some d) (hlt : Nat.blt d nt = true) (hp : PureT C o.op l v) (h : RunT C hd nt ops os ((d, v) :: l) H Ψ) : RunT C hd nt ops (o :: os) l H Ψ :=
  rt_step hw hd' hlt (st_p hp h)
theorem rt_r {d : Nat} (hw : wantedL ops o l = some true) (hd' : o.dst = some d) (hlt : Nat.blt d nt = true) (hp : ReadT C o.op l H v) (h : RunT C hd nt ops os ((d, v) :: l) H Ψ) : RunT C hd nt ops (o :: os) l H Ψ :=
  rt_step hw hd' hlt (st_R hp h)
theorem pl_p {d i m : Nat} {E masks rest : List Nat} {rs : List RdE} (ho : ops.toList[i]? = some o) (hm : masks[i]? = some m) (hw : wantedL ops o l = some true) (hfl : isFloat o.op = true) (hd' : o.dst = some d) (hlt : Nat.blt d nt = true)
    (hp : PureT C o.op l v) (h : PlanT C hd nt ops E masks rest rs ((d, v) :: l) H Ψ) : PlanT C hd nt ops E masks (i :: rest) rs l H Ψ := pl_P ho hm hw hfl hd' hlt hp.1 hp.2 h

theorem p_any (hc : covL l op.operands.toList = true) (h : aP C op (rhoL l) = some v) : PureT C op l v := ⟨hc, h⟩
theorem st_store1 {t : TypeId} {a x : Operand} {b off n es : Nat} {el : Bool} {cs cs' : List Value} (ha : evalL l a = some (.pointer (some ⟨b, off, none⟩))) (hx : evalL l x = some v) (hmem : (b, .row cs es el) ∈ H) (hn : sizeAt C t = some n) (hz : Nat.beq v.cells.size n = true)
    (hst : storeRow cs off v.cells.toList = some cs') (hsw : Swap H b (.row cs es el) (.row cs' es el) H') (h : Θ undef H') : StepT C hd (.store t a x) l H Θ := st_store ha hx hn hz hst hsw h
theorem sw0 {b : Nat} {o o' : AObj} : Swap ((b, o) :: H) b o o' ((b, o') :: H) := .here _ _ _ _
theorem sw1 {b : Nat} {o o' : AObj} {a1 : Nat × AObj} : Swap (a1 :: (b, o) :: H) b o o' (a1 :: (b, o') :: H) := .there _ _ sw0
theorem sw2 {b : Nat} {o o' : AObj} {a1 a2 : Nat × AObj} : Swap (a1 :: a2 :: (b, o) :: H) b o o' (a1 :: a2 :: (b, o') :: H) := .there _ _ sw1
theorem sw3 {b : Nat} {o o' : AObj} {a1 a2 a3 : Nat × AObj} : Swap (a1 :: a2 :: a3 :: (b, o) :: H) b o o' (a1 :: a2 :: a3 :: (b, o') :: H) := .there _ _ sw2
theorem sw4 {b : Nat} {o o' : AObj} {a1 a2 a3 a4 : Nat × AObj} : Swap (a1 :: a2 :: a3 :: a4 :: (b, o) :: H) b o o' (a1 :: a2 :: a3 :: a4 :: (b, o') :: H) := .there _ _ sw3
theorem sw5 {b : Nat} {o o' : AObj} {a1 a2 a3 a4 a5 : Nat × AObj} : Swap (a1 :: a2 :: a3 :: a4 :: a5 :: (b, o) :: H) b o o' (a1 :: a2 :: a3 :: a4 :: a5 :: (b, o') :: H) := .there _ _ sw4
theorem sw6 {b : Nat} {o o' : AObj} {a1 a2 a3 a4 a5 a6 : Nat × AObj} : Swap (a1 :: a2 :: a3 :: a4 :: a5 :: a6 :: (b, o) :: H) b o o' (a1 :: a2 :: a3 :: a4 :: a5 :: a6 :: (b, o') :: H) := .there _ _ sw5
theorem storeRow_one {cs : List Value} {off : Nat} {v : Value} (h : Nat.blt off cs.length = true) (h1 : Value.oneCell' v = true) : storeRow cs off [v] = some (cs.set off v) := by
  have hlt : off < cs.length := Nat.le_of_ble_eq_true h
  have e : Nat.ble (off + [v].length) cs.length = true := Nat.ble_eq_true_of_le hlt
  have e2 : [v].all Value.oneCell' = true := by simp [h1]
  simp only [storeRow, e, e2]
  rw [List.set_eq_take_append_cons_drop, if_pos hlt]
  rfl
theorem storeRow_all {cs vs : List Value} (h : Nat.beq vs.length cs.length = true) (h1 : vs.all Value.oneCell' = true) : storeRow cs 0 vs = some vs := by
  have hl := Nat.eq_of_beq_eq_true h
  have e : Nat.ble (0 + vs.length) cs.length = true := Nat.ble_eq_true_of_le (by omega)
  simp only [storeRow, e, h1, List.take_zero, List.nil_append]
  rw [List.drop_eq_nil_of_le (by omega), List.append_nil]
/-- One cell. -/
theorem st_storeF {t : TypeId} {a x : Operand} {b off es : Nat} {el : Bool} {cs : List Value} (ha : evalL l a = some (.pointer (some ⟨b, off, none⟩))) (hx : evalL l x = some v) (hmem : (b, .row cs es el) ∈ H) (hn : sizeAt C t = some 1) (hc : v.cells.toList = [v]) (hlt : Nat.blt off cs.length = true) (h1 : Value.oneCell' v = true)
    (hsw : Swap H b (.row cs es el) (.row (cs.set off v) es el) H') (h : Θ undef H') : StepT C hd (.store t a x) l H Θ :=
  st_store ha hx hn (by rw [← Array.length_toList, hc]; rfl) (by rw [hc]; exact storeRow_one hlt h1) hsw h
/-- A variable of one cell. -/
theorem st_storeV {t : TypeId} {a x : Operand} {b es : Nat} {el : Bool} {u : Value} (ha : evalL l a = some (.pointer (some ⟨b, 0, none⟩))) (hx : evalL l x = some v) (hmem : (b, .row [u] es el) ∈ H) (hn : sizeAt C t = some 1) (hc : v.cells.toList = [v]) (h1 : Value.oneCell' v = true)
    (hsw : Swap H b (.row [u] es el) (.row [v] es el) H') (h : Θ undef H') : StepT C hd (.store t a x) l H Θ := st_storeF ha hx hmem hn hc rfl h1 hsw h
/-- A whole variable. -/
theorem st_storeW {t : TypeId} {a x : Operand} {b es n : Nat} {el : Bool} {cs vs : List Value} (ha : evalL l a = some (.pointer (some ⟨b, 0, none⟩))) (hx : evalL l x = some (.agg ⟨vs⟩)) (hmem : (b, .row cs es el) ∈ H) (hn : sizeAt C t = some n) (hz : Nat.beq vs.length n = true) (hl : Nat.beq vs.length cs.length = true) (h1 : vs.all Value.oneCell' = true)
    (hsw : Swap H b (.row cs es el) (.row vs es el) H') (h : Θ undef H') : StepT C hd (.store t a x) l H Θ := st_store ha hx hn hz (storeRow_all hl h1) hsw h
theorem cov1 (h : evalL l x = some v) : covL l [x] = true := by simp [covL, h]
theorem cov2 {u : Value} (h : evalL l x = some v) (h2 : evalL l y = some u) : covL l [x, y] = true := by simp [covL, h, h2]
theorem p_move (h : evalL l x = some v) : PureT C (.move x) l v := ⟨cov1 h, by simp only [aP, rhoL_eq h]⟩
theorem p_assign (h : evalL l x = some v) : PureT C (.assign x) l v := ⟨cov1 h, by simp only [aP, rhoL_eq h]⟩
theorem p_pickT {u : Value} (h : evalL l x = some (.bool true)) (h1 : evalL l y = some v) (h2 : evalL l z = some u) : PureT C (.pick x y z) l v :=
  ⟨by simp [Op.operands, covL, h, h1, h2], by simp only [aP, rhoL_eq h, rhoL_eq h1]⟩
theorem p_pickF {u : Value} (h : evalL l x = some (.bool false)) (h1 : evalL l y = some u) (h2 : evalL l z = some v) : PureT C (.pick x y z) l v :=
  ⟨by simp [Op.operands, covL, h, h1, h2], by simp only [aP, rhoL_eq h, rhoL_eq h2]⟩

variable {k : IntKind} {a b : Int} {p q : Bool}
theorem p_add (h : evalL l x = some (.int k a)) (h2 : evalL l y = some (.int k b)) : PureT C (.binOp .add t x y yt) l (.int k (k.wrap (a + b))) :=
  ⟨cov2 h h2, by simp [aP, abin, isShift, aint, rhoL_eq h, rhoL_eq h2]⟩
theorem p_sub (h : evalL l x = some (.int k a)) (h2 : evalL l y = some (.int k b)) : PureT C (.binOp .sub t x y yt) l (.int k (k.wrap (a - b))) :=
  ⟨cov2 h h2, by simp [aP, abin, isShift, aint, rhoL_eq h, rhoL_eq h2]⟩
theorem p_mul (h : evalL l x = some (.int k a)) (h2 : evalL l y = some (.int k b)) : PureT C (.binOp .mul t x y yt) l (.int k (k.wrap (a * b))) :=
  ⟨cov2 h h2, by simp [aP, abin, isShift, aint, rhoL_eq h, rhoL_eq h2]⟩
theorem p_quo (h : evalL l x = some (.int k a)) (h2 : evalL l y = some (.int k b)) (hb : b ≠ 0) : PureT C (.binOp .quo t x y yt) l (.int k (k.wrap (a.tdiv b))) :=
  ⟨cov2 h h2, by simp [aP, abin, isShift, aint, rhoL_eq h, rhoL_eq h2, hb]⟩
theorem p_rem (h : evalL l x = some (.int k a)) (h2 : evalL l y = some (.int k b)) (hb : b ≠ 0) : PureT C (.binOp .rem t x y yt) l (.int k (a.tmod b)) :=
  ⟨cov2 h h2, by simp [aP, abin, isShift, aint, rhoL_eq h, rhoL_eq h2, hb]⟩
theorem p_shl {k' : IntKind} (h : evalL l x = some (.int k a)) (h2 : evalL l y = some (.int k' b)) (hb : 0 ≤ b) : PureT C (.binOp .shl t x y yt) l (.int k (k.wrap (a * 2 ^ (min b.toNat k.bits)))) :=
  ⟨cov2 h h2, by simp [aP, abin, isShift, ashift, rhoL_eq h, rhoL_eq h2]; omega⟩
theorem p_shr {k' : IntKind} (h : evalL l x = some (.int k a)) (h2 : evalL l y = some (.int k' b)) (hb : 0 ≤ b) : PureT C (.binOp .shr t x y yt) l (.int k (a.fdiv (2 ^ (min b.toNat k.bits)))) :=
  ⟨cov2 h h2, by simp [aP, abin, isShift, ashift, rhoL_eq h, rhoL_eq h2]; omega⟩
theorem p_and (h : evalL l x = some (.int k a)) (h2 : evalL l y = some (.int k b)) : PureT C (.binOp .and t x y yt) l (.int k (k.wrap (BitVec.ofInt k.bits a &&& BitVec.ofInt k.bits b).toNat)) :=
  ⟨cov2 h h2, by simp only [aP, abin, isShift, aint, rhoL_eq h, rhoL_eq h2, if_true]⟩
theorem p_or (h : evalL l x = some (.int k a)) (h2 : evalL l y = some (.int k b)) : PureT C (.binOp .or t x y yt) l (.int k (k.wrap (BitVec.ofInt k.bits a ||| BitVec.ofInt k.bits b).toNat)) :=
  ⟨cov2 h h2, by simp only [aP, abin, isShift, aint, rhoL_eq h, rhoL_eq h2, if_true]⟩
theorem p_eql (h : evalL l x = some (.int k a)) (h2 : evalL l y = some (.int k b)) : PureT C (.binOp .eql t x y yt) l (.bool (a == b)) :=
  ⟨cov2 h h2, by simp [aP, abin, isShift, aint, rhoL_eq h, rhoL_eq h2]⟩
theorem p_neq (h : evalL l x = some (.int k a)) (h2 : evalL l y = some (.int k b)) : PureT C (.binOp .neq t x y yt) l (.bool (a != b)) :=
  ⟨cov2 h h2, by simp [aP, abin, isShift, aint, rhoL_eq h, rhoL_eq h2]⟩
theorem p_lss (h : evalL l x = some (.int k a)) (h2 : evalL l y = some (.int k b)) : PureT C (.binOp .lss t x y yt) l (.bool (decide (a < b))) :=
  ⟨cov2 h h2, by simp [aP, abin, isShift, aint, rhoL_eq h, rhoL_eq h2]⟩
theorem p_leq (h : evalL l x = some (.int k a)) (h2 : evalL l y = some (.int k b)) : PureT C (.binOp .leq t x y yt) l (.bool (decide (a ≤ b))) :=
  ⟨cov2 h h2, by simp [aP, abin, isShift, aint, rhoL_eq h, rhoL_eq h2]⟩
theorem p_gtr (h : evalL l x = some (.int k a)) (h2 : evalL l y = some (.int k b)) : PureT C (.binOp .gtr t x y yt) l (.bool (decide (a > b))) :=
  ⟨cov2 h h2, by simp [aP, abin, isShift, aint, rhoL_eq h, rhoL_eq h2]⟩
theorem p_geq (h : evalL l x = some (.int k a)) (h2 : evalL l y = some (.int k b)) : PureT C (.binOp .geq t x y yt) l (.bool (decide (a ≥ b))) :=
  ⟨cov2 h h2, by simp [aP, abin, isShift, aint, rhoL_eq h, rhoL_eq h2]⟩
theorem p_not (h : evalL l x = some (.bool p)) : PureT C (.unOp .not t x) l (.bool !p) := ⟨cov1 h, by simp [aP, aun, rhoL_eq h]⟩
theorem p_neg (h : evalL l x = some (.int k a)) : PureT C (.unOp .neg t x) l (.int k (k.wrap (0 - a))) := ⟨cov1 h, by simp only [aP, aun, rhoL_eq h]⟩
theorem p_conv {td : TypeDesc} {k' : IntKind} (h : evalL l x = some (.int k a)) (h1 : C.P.underlying t = some td) (h2 : C.P.underlying yt = some (.int k')) : PureT C (.convert t yt x) l (.int k' (k'.wrap a)) :=
  ⟨cov1 h, by simp [aP, aconv, rhoL_eq h, h1, h2]⟩

/-! ### Fields, elements -/
def fldOff (C : Ctx) (t : TypeId) (f : Nat) : Option Nat := match fieldsAt C t with
  | some fs => match fs[f]? with
    | some fd => match sizeAt C fd.type with
      | some (_ + 1) => some fd.offset
      | _ => none
    | none => none
  | none => none
theorem p_fieldAddr {blk off f n : Nat} (h : evalL l x = some (.pointer (some ⟨blk, off, none⟩))) (hf : fldOff C t f = some n) : PureT C (.fieldAddr t x f) l (.pointer (some ⟨blk, off + n, none⟩)) :=
  ⟨cov1 h, by
    unfold fldOff at hf
    simp only [aP, afieldAddr, rhoL_eq h]
    split at hf
    · rename_i fs hfs
      simp only [hfs]
      split at hf
      · rename_i fd hfd
        simp only [hfd]
        split at hf
        · rename_i sz hsz
          simp only [hsz]
          cases hf; rfl
        · cases hf
      · cases hf
    · cases hf⟩
theorem p_index {cs : List Value} {i : Int} {len n : Nat} {e : TypeId} (h : evalL l x = some (.agg ⟨cs⟩)) (h2 : evalL l y = some (.int k i)) (hu : C.P.underlying t = some (.array len e)) (hg : aggAt C e = some false) (hn : sizeAt C e = some n) (h0 : 0 ≤ i) (hlt : i.toNat < len) (hv : cs[i.toNat * n]? = some v) :
    PureT C (.index t x y) l v :=
  ⟨cov2 h h2, by
    have hb : Nat.blt i.toNat len = true := Nat.ble_eq_true_of_le hlt
    simp only [aP, aindex, rhoL_eq h, rhoL_eq h2, hu, natOf, if_pos h0, hb, hn, apart', hg]
    exact hv⟩
def elSize (C : Ctx) (t : TypeId) : Option Nat := match C.P.underlying t with
  | some (.slice e) => sizeAt C e
  | _ => none
theorem p_indexAddr {blk off len cap n : Nat} {i : Int} (h : evalL l x = some (.slice (some ⟨blk, off, none⟩) len cap)) (h2 : evalL l y = some (.int k i)) (hn : elSize C t = some n) (h0 : 0 ≤ i) (hlt : i.toNat < len) :
    PureT C (.indexAddr t x y) l (.pointer (some ⟨blk, off + i.toNat * n, none⟩)) :=
  ⟨cov2 h h2, by
    unfold elSize at hn
    split at hn
    · rename_i e he
      have hb : Nat.blt i.toNat len = true := Nat.ble_eq_true_of_le hlt
      simp only [aP, aindexAddr, rhoL_eq h, rhoL_eq h2, he, natOf, if_pos h0, hb, hn]
    · cases hn⟩
def arSize (C : Ctx) (t : TypeId) : Option (Nat × Nat) := match C.P.underlying t with
  | some (.array n e) => match sizeAt C e with
    | some k => some (n, k)
    | none => none
  | _ => none
theorem p_indexAddrA {blk off len n : Nat} {i : Int} (h : evalL l x = some (.pointer (some ⟨blk, off, none⟩))) (h2 : evalL l y = some (.int k i)) (hn : arSize C t = some (len, n)) (h0 : 0 ≤ i) (hlt : i.toNat < len) :
    PureT C (.indexAddr t x y) l (.pointer (some ⟨blk, off + i.toNat * n, none⟩)) :=
  ⟨cov2 h h2, by
    unfold arSize at hn
    split at hn
    · rename_i m e he
      split at hn
      · rename_i k' hk
        cases hn
        have hb : Nat.blt i.toNat len = true := Nat.ble_eq_true_of_le hlt
        simp only [aP, aindexAddr, rhoL_eq h, rhoL_eq h2, he, natOf, if_pos h0, hb, hk]
      · cases hn
    · cases hn⟩
theorem p_len {td : TypeId} {ad : Option Addr} {len cap : Nat} {e : TypeId} (h : evalL l x = some (.slice ad len cap)) (ht : C.P.underlying td = some (.slice e)) : PureT C (.call { callee := .builtin .len, args := #[x], argTypes := #[td] }) l (.int .i64 len) :=
  ⟨cov1 h, by
    show alen C td (rhoL l x) = _
    unfold alen; simp only [ht, rhoL_eq h]; rfl⟩
theorem p_lenStr {td : TypeId} {s : ByteArray} (h : evalL l x = some (.string s)) (ht : C.P.underlying td = some .string) : PureT C (.call { callee := .builtin .len, args := #[x], argTypes := #[td] }) l (.int .i64 s.size) :=
  ⟨cov1 h, by
    show alen C td (rhoL l x) = _
    unfold alen; simp only [ht, rhoL_eq h]; rfl⟩
theorem p_extract {vs : List Value} {i : Nat} (h : evalL l x = some (.tuple ⟨vs⟩)) (hn : exOk vs = true) (hv : vs[i]? = some v) : PureT C (.extract x i) l v :=
  ⟨cov1 h, by
    simp only [aP, rhoL_eq h, hn]
    exact hv⟩

theorem covL_args {l : Sl} : ∀ {xs : List Operand} {vs : List Value}, argsL l xs = some vs → covL l xs = true
  | [], _, _ => rfl
  | x :: xs, vs, h => by
    unfold argsL at h
    split at h
    · rename_i v ws h1 h2
      simp only [covL, h1, covL_args h2]
    · cases h
theorem covL_append {l : Sl} : ∀ {xs ys : List Operand}, covL l xs = true → covL l ys = true → covL l (xs ++ ys) = true
  | [], _, _, h => h
  | x :: xs, ys, h1, h2 => by
    simp only [List.cons_append, covL] at h1 ⊢
    split at h1
    · exact covL_append h1 h2
    · cases h1
theorem p_makeFunc {f : FuncId} {a b : Array Operand} {vs ws : List Value} (h1 : argsL l a.toList = some vs) (h2 : argsL l b.toList = some ws) : PureT C (.makeFunc (.func f) a b) l (.func (.func f) ⟨vs⟩ ⟨ws⟩) :=
  ⟨by simp only [Op.operands, Array.toList_append]; exact covL_append (covL_args h1) (covL_args h2), by
    obtain ⟨a⟩ := a
    obtain ⟨b⟩ := b
    simp only [aP, List.map_toArray]
    rw [argsL_eq h1, argsL_eq h2]⟩
/-! ### Reads -/
theorem rd_load1 {blk off n : Nat} {cs : List Value} (ha : evalL l x = some (.pointer (some ⟨blk, off, none⟩))) (hrow : RowIs C H blk cs) (hg : aggAt C t = some false) (hn : sizeAt C t = some n) (hv : cs[off]? = some v) : ReadT C (.load t x) l H v :=
  rd_load ha hrow hg hn (r := [v]) (by
    rw [if_neg Bool.false_ne_true]
    unfold cut
    obtain ⟨h1, h2⟩ := List.getElem?_eq_some_iff.1 hv
    have e : (cs.drop off).take 1 = [v] := by rw [List.drop_eq_getElem_cons h1, List.take_succ_cons, List.take_zero, h2]
    simp only [e]
    rfl) rfl
/-- A whole variable. -/
theorem rd_loadW {blk n : Nat} {cs : List Value} (ha : evalL l x = some (.pointer (some ⟨blk, 0, none⟩))) (hrow : RowIs C H blk cs) (hg : aggAt C t = some true) (hn : sizeAt C t = some n) (hl : Nat.beq cs.length n = true) : ReadT C (.load t x) l H (.agg ⟨cs⟩) :=
  rd_load ha hrow hg hn (r := cs) (by
    rw [if_pos rfl]
    have e := Nat.eq_of_beq_eq_true hl
    unfold cut
    simp only [List.drop_zero, ← e, List.take_length]
    simp) rfl
/-- A part of a variable. -/
theorem rd_loadP {blk off n : Nat} {cs r : List Value} (ha : evalL l x = some (.pointer (some ⟨blk, off, none⟩))) (hrow : RowIs C H blk cs) (hg : aggAt C t = some true) (hn : sizeAt C t = some n) (hl : cut cs off n = some r) : ReadT C (.load t x) l H (.agg ⟨r⟩) :=
  rd_load ha hrow hg hn (r := r) (by rw [if_pos rfl]; exact hl) rfl

/-! ### New blocks -/
theorem st_box {n : Nat} {cs : List Value} (h : evalL l x = some (.agg ⟨cs⟩)) (hn : sizeAt C t = some n) (hl : Nat.beq cs.length n = true) (h1 : cs.all Value.oneCell' = true) (hk : ∀ b, Θ (.pointer (some ⟨b, 0, none⟩)) ((b, .row cs n false) :: H)) : StepT C hd (.box t x) l H Θ :=
  st_A (cov1 h) rfl (fun _ => rfl) (by simp only [aA, hn, rhoL_eq h, Value.cells]; simp only [h1, show Nat.beq (Array.mk cs).size n = true from hl]) hk
theorem st_box1 {n : Nat} (h : evalL l x = some v) (hn : sizeAt C t = some n) (hl : Nat.beq v.cells.size n = true) (h1 : v.cells.toList.all Value.oneCell' = true) (hk : ∀ b, Θ (.pointer (some ⟨b, 0, none⟩)) ((b, .row v.cells.toList n false) :: H)) : StepT C hd (.box t x) l H Θ :=
  st_A (cov1 h) rfl (fun _ => rfl) (by simp only [aA, hn, rhoL_eq h, hl, h1]) hk
/-- The cells of a new variable. -/
def zeroL (C : Ctx) (t : TypeId) : Option (List Value × Nat) := match zeroCellsOf C t, sizeAt C t with
  | some z, some n => match Nat.beq z.size n with
    | true => some (z.toList, n)
    | false => none
  | _, _ => none
theorem st_alloc {t : TypeId} {cs : List Value} {n : Nat} (hz : zeroL C t = some (cs, n)) (hk : ∀ b, Θ (.pointer (some ⟨b, 0, none⟩)) ((b, .row cs n false) :: H)) : StepT C hd (.alloc t) l H Θ :=
  st_A rfl rfl (fun _ => rfl) (by
    unfold zeroL at hz
    split at hz
    · rename_i z m h1 h2
      split at hz
      · rename_i h3; cases hz; simp only [aA, h1, h2, h3]
      · cases hz
    · cases hz) hk
/-- The elements of a slice, each of so many cells. -/
structure Arr {α : Type} (C : Ctx) (H : Hp) (ad : Option Addr) (w : Nat) (enc : α → List Value) (L : List α) : Prop where
  els : ∀ (i : Nat) (r : α), L[i]? = some r → ∃ b o cs, ad = some ⟨b, o, none⟩ ∧ RowIs C H b cs ∧ cut cs (o + i * w) w = some (enc r)
theorem RowIs.weak {H H' : Hp} {b : Nat} {cs : List Value} (h : RowIs C H b cs) (hs : H.Sublist H') : RowIs C H' b cs := by
  cases h with
  | own es el h => exact .own es el (hs.subset h)
  | old hb h => exact .old hb h
theorem Arr.weak {α : Type} {H H' : Hp} {ad : Option Addr} {w : Nat} {enc : α → List Value} {L : List α} (h : Arr C H ad w enc L) (hs : H.Sublist H') : Arr C H' ad w enc L :=
  ⟨fun i r hi => let ⟨b, o, cs, h1, h2, h3⟩ := h.els i r hi; ⟨b, o, cs, h1, h2.weak hs, h3⟩⟩
end

section
variable {C : Ctx} {hd : HH Prop} {rd : Bool} {nt : Nat} {ops : Array Oper} {o : Oper} {os : List Oper} {l l' : Sl} {H H' : Hp} {v : Value} {x y z : Operand} {t yt : TypeId} {Ψ : Sl → Hp → Prop} {Θ : Value → Hp → Prop}
/-- What is known where ways meet again. -/
theorem ct_cut {a b : Code} {Φ : AX → Sl → Hp → Prop} (l1 : Sl) (H1 : Hp) (h : CodeT C hd rd nt a l H (seqΦ (fun l' H' => SubL l1 l' ∧ H1.Sublist H') Φ)) (h2 : CodeT C hd rd nt b l1 H1 Φ) : CodeT C hd rd nt (.seq a b) l H Φ :=
  ct_seq (h.mono fun e l' H' he => by
    cases e with
    | normal => exact h2.weak he.1 he.2
    | exit i => exact he
    | ret => exact he)
theorem ct_mid {a b : Code} {Φ : AX → Sl → Hp → Prop} (l1 : Sl) (H1 : Hp) (h : CodeT C hd rd nt a l H (seqΦ (fun l' H' => SubL l1 l' ∧ H1.Sublist H') Φ)) (h2 : CodeT C hd rd nt b l1 H1 Φ) : CodeT C hd rd nt a l H (seqΦ (fun l' H' => CodeT C hd rd nt b l' H' Φ) Φ) :=
  h.mono fun e l' H' he => by
    cases e with
    | normal => exact h2.weak he.1 he.2
    | exit i => exact he
    | ret => exact he
theorem isRun (h : RunT C hd nt ops os l H Ψ) : RunT C hd nt ops os l H Ψ := h
theorem isLoad (h : ReadT C (.load t x) l H v) : ReadT C (.load t x) l H v := h
/-- A store at a known address. -/
def StT (C : Ctx) (t : TypeId) (b off : Nat) (v : Value) (H : Hp) (Θ : Value → Hp → Prop) : Prop := ∀ (hd : HH Prop) (l : Sl) (a x : Operand), evalL l a = some (.pointer (some ⟨b, off, none⟩)) → evalL l x = some v → StepT C hd (.store t a x) l H Θ
theorem st_at {a : Operand} {b off : Nat} (ha : evalL l a = some (.pointer (some ⟨b, off, none⟩))) (hx : evalL l x = some v) (h : StT C t b off v H Θ) : StepT C hd (.store t a x) l H Θ := h hd l a x ha hx
theorem stV {b es : Nat} {el : Bool} {u : Value} (hmem : (b, .row [u] es el) ∈ H) (hn : sizeAt C t = some 1) (hc : v.cells.toList = [v]) (h1 : Value.oneCell' v = true) (hsw : Swap H b (.row [u] es el) (.row [v] es el) H') (h : Θ undef H') : StT C t b 0 v H Θ :=
  fun _ _ _ _ ha hx => st_storeV ha hx hmem hn hc h1 hsw h
theorem stW {b es n : Nat} {el : Bool} {cs vs : List Value} (hmem : (b, .row cs es el) ∈ H) (hn : sizeAt C t = some n) (hz : Nat.beq vs.length n = true) (hl : Nat.beq vs.length cs.length = true) (h1 : vs.all Value.oneCell' = true)
    (hsw : Swap H b (.row cs es el) (.row vs es el) H') (h : Θ undef H') : StT C t b 0 (.agg ⟨vs⟩) H Θ := fun _ _ _ _ ha hx => st_storeW ha hx hmem hn hz hl h1 hsw h
theorem stF {b off es : Nat} {el : Bool} {cs : List Value} (hmem : (b, .row cs es el) ∈ H) (hn : sizeAt C t = some 1) (hc : v.cells.toList = [v]) (hlt : Nat.blt off cs.length = true) (h1 : Value.oneCell' v = true)
    (hsw : Swap H b (.row cs es el) (.row (cs.set off v) es el) H') (h : Θ undef H') : StT C t b off v H Θ := fun _ _ _ _ ha hx => st_storeF ha hx hmem hn hc hlt h1 hsw h
theorem st1 {b off n es : Nat} {el : Bool} {cs cs' : List Value} (hmem : (b, .row cs es el) ∈ H) (hn : sizeAt C t = some n) (hz : Nat.beq v.cells.size n = true) (hst : storeRow cs off v.cells.toList = some cs') (hsw : Swap H b (.row cs es el) (.row cs' es el) H') (h : Θ undef H') : StT C t b off v H Θ :=
  fun _ _ _ _ ha hx => st_store ha hx hn hz hst hsw h
/-- A load at a known address. -/
def LdT (C : Ctx) (t : TypeId) (H : Hp) (b off : Nat) (v : Value) : Prop := ∀ (l : Sl) (x : Operand), evalL l x = some (.pointer (some ⟨b, off, none⟩)) → ReadT C (.load t x) l H v
theorem rd_at {b off : Nat} (ha : evalL l x = some (.pointer (some ⟨b, off, none⟩))) (h : LdT C t H b off v) : ReadT C (.load t x) l H v := h l x ha
theorem ld1 {b off n : Nat} {cs : List Value} (hrow : RowIs C H b cs) (hg : aggAt C t = some false) (hn : sizeAt C t = some n) (hv : cs[off]? = some v) : LdT C t H b off v := fun _ _ ha => rd_load1 ha hrow hg hn hv
theorem ldW {b n : Nat} {cs : List Value} (hrow : RowIs C H b cs) (hg : aggAt C t = some true) (hn : sizeAt C t = some n) (hl : Nat.beq cs.length n = true) : LdT C t H b 0 (.agg ⟨cs⟩) := fun _ _ ha => rd_loadW ha hrow hg hn hl
theorem ldP {b off n : Nat} {cs r : List Value} (hrow : RowIs C H b cs) (hg : aggAt C t = some true) (hn : sizeAt C t = some n) (hl : cut cs off n = some r) : LdT C t H b off (.agg ⟨r⟩) := fun _ _ ha => rd_loadP ha hrow hg hn hl
theorem ReadT.skip {op : Op} {a : Nat × AObj} (h : ReadT C op l H v) : ReadT C op l (a :: H) v := ⟨h.1, h.2.1, fun s hm => h.2.2 s (hm.sub (List.sublist_cons_self _ _))⟩
/-- Not in the first block: in the others. -/
theorem lds {b off : Nat} {a : Nat × AObj} (h : LdT C t H b off v) : LdT C t (a :: H) b off v := fun l x ha => (h l x ha).skip
theorem l1 {b off n es : Nat} {el : Bool} {cs : List Value} (hg : aggAt C t = some false) (hn : sizeAt C t = some n) (hv : cs[off]? = some v) : LdT C t ((b, .row cs es el) :: H) b off v := ld1 (.own _ _ hm0) hg hn hv
theorem lW {b n es : Nat} {el : Bool} {cs : List Value} (hg : aggAt C t = some true) (hn : sizeAt C t = some n) (hl : Nat.beq cs.length n = true) : LdT C t ((b, .row cs es el) :: H) b 0 (.agg ⟨cs⟩) := ldW (.own _ _ hm0) hg hn hl
theorem lP {b off n es : Nat} {el : Bool} {cs r : List Value} (hg : aggAt C t = some true) (hn : sizeAt C t = some n) (hl : cut cs off n = some r) : LdT C t ((b, .row cs es el) :: H) b off (.agg ⟨r⟩) := ldP (.own _ _ hm0) hg hn hl
/-- A store at a known address: the blocks before and behind it. -/
inductive StP (C : Ctx) (t : TypeId) (b off : Nat) (v : Value) : Hp → Hp → Prop where
  | here (es n : Nat) (el : Bool) (cs cs' : List Value) (H : Hp) (hn : sizeAt C t = some n) (hz : Nat.beq v.cells.size n = true) (hst : storeRow cs off v.cells.toList = some cs') : StP C t b off v ((b, .row cs es el) :: H) ((b, .row cs' es el) :: H)
  | there (a : Nat × AObj) {H H' : Hp} (h : StP C t b off v H H') : StP C t b off v (a :: H) (a :: H')
theorem StP.swap {b off : Nat} (h : StP C t b off v H H') : ∃ cs es el cs' n, sizeAt C t = some n ∧ Nat.beq v.cells.size n = true ∧ storeRow cs off v.cells.toList = some cs' ∧ Swap H b (.row cs es el) (.row cs' es el) H' := by
  induction h with
  | here es n el cs cs' H hn hz hst => exact ⟨cs, es, el, cs', n, hn, hz, hst, .here _ _ _ _⟩
  | there a h ih =>
    obtain ⟨cs, es, el, cs', n, h1, h2, h3, h4⟩ := ih
    exact ⟨cs, es, el, cs', n, h1, h2, h3, .there _ _ h4⟩
theorem rt_st {b off : Nat} {a x : Operand} (hw : wantedL ops o l = some true) (hd' : o.dst = none) (hop : o.op = .store t a x) (ha : evalL l a = some (.pointer (some ⟨b, off, none⟩))) (hx : evalL l x = some v) (hp : StP C t b off v H H') (h : RunT C hd nt ops os l H' Ψ) : RunT C hd nt ops (o :: os) l H Ψ := by
  obtain ⟨cs, es, el, cs', n, h1, h2, h3, h4⟩ := hp.swap
  exact rt_step0 hw hd' (by rw [hop]; exact st_store ha hx h1 h2 h3 h4 h)
theorem sS {b off : Nat} {a : Nat × AObj} (h : StP C t b off v H H') : StP C t b off v (a :: H) (a :: H') := .there a h
theorem sF {b off es : Nat} {el : Bool} {cs : List Value} (hn : sizeAt C t = some 1) (hc : v.cells.toList = [v]) (hlt : Nat.blt off cs.length = true) (h1 : Value.oneCell' v = true) : StP C t b off v ((b, .row cs es el) :: H) ((b, .row (cs.set off v) es el) :: H) :=
  .here es 1 el cs _ H hn (by rw [← Array.length_toList, hc]; rfl) (by rw [hc]; exact storeRow_one hlt h1)
theorem sV {b es : Nat} {el : Bool} {u : Value} (hn : sizeAt C t = some 1) (hc : v.cells.toList = [v]) (h1 : Value.oneCell' v = true) : StP C t b 0 v ((b, .row [u] es el) :: H) ((b, .row [v] es el) :: H) := sF hn hc rfl h1
theorem sW {b es n : Nat} {el : Bool} {cs vs : List Value} (hn : sizeAt C t = some n) (hz : Nat.beq vs.length n = true) (hl : Nat.beq vs.length cs.length = true) (h1 : vs.all Value.oneCell' = true) : StP C t b 0 (.agg ⟨vs⟩) ((b, .row cs es el) :: H) ((b, .row vs es el) :: H) :=
  .here es n el cs vs H hn hz (storeRow_all hl h1)
theorem sG {b off n es : Nat} {el : Bool} {cs cs' : List Value} (hn : sizeAt C t = some n) (hz : Nat.beq v.cells.size n = true) (hst : storeRow cs off v.cells.toList = some cs') : StP C t b off v ((b, .row cs es el) :: H) ((b, .row cs' es el) :: H) := .here es n el cs cs' H hn hz hst
end

attribute [irreducible] RunT PlanT LateT CodeT LoopT StepT ReadT CallT PureT seqΦ blockΦ retΦ RecT ResT StT LdT
end Go.Proofs.Ythcohphflhkceaa.Abs
