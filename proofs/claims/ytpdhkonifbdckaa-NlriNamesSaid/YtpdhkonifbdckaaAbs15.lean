/- Regions that draw their order: what the interpreter shows in the order of its plan holds in every order. -/
import Derived.Test.YtpdhkonifbdckaaAbs14
import Derived.OrdersIn
namespace Go.Proofs.Ytpdhkonifbdckaa.Abs
open Go
set_option linter.unusedSectionVars false
variable [Tok]
set_option linter.unusedSimpArgs false

/-! ### Masks -/
def MasksOk (ops : List Oper) (masks : List Nat) : Prop := ∀ (j m : Nat), masks[j]? = some m → ∀ i, m.testBit i = true →
  ∃ o e, ops[j]? = some o ∧ e ∈ o.after.toList ∧ Region.binds .any e = true ∧ (e.on = i ∨ ∃ m', e.on < j ∧ masks[e.on]? = some m' ∧ m'.testBit i = true)

theorem mask_bit (o : Oper) (acc : List Nat) (i : Nat) : ∀ (l : List Edge) (m0 : Nat), (l.foldl (fun m e => match Region.binds .any e with | true => m ||| (2 ^ e.on ||| acc.getD e.on 0) | false => m) m0).testBit i = true →
    m0.testBit i = true ∨ ∃ e ∈ l, Region.binds .any e = true ∧ (e.on = i ∨ (acc.getD e.on 0).testBit i = true)
  | [], m0, h => .inl h
  | e :: l, m0, h => by
    rcases mask_bit o acc i l _ h with h1 | ⟨e', h1, h2, h3⟩
    · simp only [] at h1
      split at h1
      · rename_i hb
        simp only [Nat.testBit_or, Bool.or_eq_true, Nat.testBit_two_pow, decide_eq_true_eq] at h1
        rcases h1 with h1 | h1 | h1
        · exact .inl h1
        · exact .inr ⟨e, by simp, hb, .inl h1⟩
        · exact .inr ⟨e, by simp, hb, .inr h1⟩
      · exact .inl h1
    · exact .inr ⟨e', by simp [h1], h2, h3⟩

theorem masksGo_ok (ops : List Oper) : ∀ (os : List Oper) (acc : List Nat), ops.drop acc.length = os → MasksOk ops acc → MasksOk ops (masksGo os acc)
  | [], acc, _, h => by rw [masksGo]; exact h
  | o :: os, acc, hd, h => by
    rw [masksGo]
    have ho : ops[acc.length]? = some o := by
      have : (ops.drop acc.length)[0]? = some o := by rw [hd]; rfl
      simpa using this
    refine masksGo_ok ops os _ ?_ ?_
    · rw [List.length_append, List.length_singleton, ← List.drop_drop, hd]; rfl
    · intro j m hj i hi
      by_cases e : j < acc.length
      · rw [List.getElem?_append_left e] at hj
        obtain ⟨o', e', h1, h2, h3, h4⟩ := h j m hj i hi
        refine ⟨o', e', h1, h2, h3, ?_⟩
        rcases h4 with h4 | ⟨m', h5, h6, h7⟩
        · exact .inl h4
        · exact .inr ⟨m', h5, by rw [List.getElem?_append_left (by omega)]; exact h6, h7⟩
      · have hj' : j = acc.length ∧ m = maskOf o acc := by
          rw [List.getElem?_append_right (by omega)] at hj
          have h0 : j - acc.length = 0 := by
            rcases Nat.eq_zero_or_pos (j - acc.length) with h0 | h0
            · exact h0
            · rw [List.getElem?_eq_none (by simp; omega)] at hj; cases hj
          rw [h0] at hj
          simp only [List.getElem?_cons_zero, Option.some.injEq] at hj
          exact ⟨by omega, hj.symm⟩
        obtain ⟨rfl, rfl⟩ := hj'
        rcases mask_bit o acc i _ _ hi with h1 | ⟨e', h1, h2, h3⟩
        · simp at h1
        · refine ⟨o, e', ho, h1, h2, ?_⟩
          rcases h3 with h3 | h3
          · exact .inl h3
          · refine .inr ?_
            cases hq : acc[e'.on]? with
            | none => simp [List.getD, hq] at h3
            | some m' =>
              have hlt := (List.getElem?_eq_some_iff.1 hq).1
              refine ⟨m', hlt, by rw [List.getElem?_append_left hlt]; exact hq, ?_⟩
              simpa [List.getD, hq] using h3

theorem masksOf_ok (ops : Array Oper) : MasksOk ops.toList (masksOf ops) :=
  masksGo_ok ops.toList ops.toList [] rfl (fun j m h => by simp at h)

/-- A set of operations that is closed under what binds. -/
def Down (ops : List Oper) (S : Nat → Bool) : Prop := ∀ j, S j = true → ∀ o, ops[j]? = some o → ∀ e ∈ o.after.toList, Region.binds .any e = true → S e.on = true

theorem anc_down {ops : List Oper} {masks : List Nat} {S : Nat → Bool} (hm : MasksOk ops masks) (hd : Down ops S) : ∀ (j m : Nat), masks[j]? = some m → ∀ i, m.testBit i = true → S j = true → S i = true := by
  intro j
  induction j using Nat.strongRecOn with
  | _ j ih =>
    intro m hj i hi hS
    obtain ⟨o, e, h1, h2, h3, h4⟩ := hm j m hj i hi
    have := hd j hS o h1 e h2 h3
    rcases h4 with rfl | ⟨m', h5, h6, h7⟩
    · exact this
    · exact ih e.on h5 m' h6 i h7 this

/-- What comes before a ready operation is done. -/
theorem anc_ready {ops : List Oper} {masks : List Nat} {S : Nat → Bool} (hm : MasksOk ops masks) (hd : Down ops S) {j m : Nat} (hj : masks[j]? = some m) {o : Oper} (ho : ops[j]? = some o)
    (hr : ∀ e ∈ o.after.toList, Region.binds .any e = true → S e.on = true) {i : Nat} (hi : m.testBit i = true) : S i = true := by
  obtain ⟨o', e, h1, h2, h3, h4⟩ := hm j m hj i hi
  rw [ho] at h1; cases h1
  have := hr e h2 h3
  rcases h4 with rfl | ⟨m', h5, h6, h7⟩
  · exact this
  · exact anc_down hm hd e.on m' h6 i h7 this

/-! ### Frames -/
def frD (S : Nat → Bool) (pre : List Ent) (fr : Fr) : Fr := pre.foldl (fun fr e => match S e.i with | true => fr.put e.o.dst e.v | false => fr) fr
def frAll (pre : List Ent) (fr : Fr) : Fr := pre.foldl (fun fr e => fr.put e.o.dst e.v) fr

/-- The frame behind one entry. -/
def stepFr (b : Bool) (fr : Fr) (e : Ent) : Fr := match b with
  | true => fr.put e.o.dst e.v
  | false => fr
theorem frD_cons (S : Nat → Bool) (e : Ent) (q : List Ent) (fr : Fr) : frD S (e :: q) fr = frD S q (stepFr (S e.i) fr e) := rfl
theorem frD_nt (S : Nat → Bool) : ∀ (pre : List Ent) (fr : Fr), (frD S pre fr).nt = fr.nt
  | [], fr => rfl
  | e :: pre, fr => by
    rw [frD_cons, frD_nt S pre]
    unfold stepFr
    split
    · exact put_nt _ _ _
    · rfl
theorem frAll_eq (pre : List Ent) (fr : Fr) : frAll pre fr = frD (fun _ => true) pre fr := rfl

theorem frD_agree {S S' : Nat → Bool} {t : Nat} : ∀ (pre : List Ent) (f g : Fr), f.nt = g.nt → f.get t = g.get t → (∀ e ∈ pre, e.o.dst = some t → S e.i = S' e.i) → (frD S pre f).get t = (frD S' pre g).get t
  | [], f, g, _, h, _ => h
  | e :: pre, f, g, hn, h, hs => by
    rw [frD_cons, frD_cons]
    have hsp := fun e' he => hs e' (List.mem_cons_of_mem _ he)
    by_cases hd : e.o.dst = some t
    · have := hs e (by simp) hd
      rw [this]
      cases S' e.i with
      | true =>
        refine frD_agree pre _ _ ?_ ?_ hsp
        · show (f.put _ _).nt = (g.put _ _).nt
          rw [put_nt, put_nt, hn]
        · show (f.put _ _).get t = (g.put _ _).get t
          rw [put_get, put_get, hn, h]
      | false => exact frD_agree pre _ _ hn h hsp
    · have key : ∀ (b : Bool) (fr : Fr), (stepFr b fr e).get t = fr.get t ∧ (stepFr b fr e).nt = fr.nt := by
        intro b fr
        cases b
        · exact ⟨rfl, rfl⟩
        · exact ⟨by show (fr.put _ _).get t = _; rw [put_get, if_neg (fun h => hd h.1)], put_nt _ _ _⟩
      exact frD_agree pre _ _ (by rw [(key _ _).2, (key _ _).2, hn]) (by rw [(key _ _).1, (key _ _).1, h]) hsp

theorem frD_append (S : Nat → Bool) (p q : List Ent) (fr : Fr) : frD S (p ++ q) fr = frD S q (frD S p fr) := by simp [frD, List.foldl_append]

/-- Entries that are not run, or write elsewhere, leave a temporary as it is. -/
theorem frD_skip {S : Nat → Bool} {t : Nat} (q : List Ent) (fr : Fr) (h : ∀ e ∈ q, e.o.dst = some t → S e.i = false) : (frD S q fr).get t = fr.get t := by
  have := frD_agree (S := S) (S' := fun _ => false) (t := t) q fr fr rfl rfl (fun e he hd => h e he hd)
  rw [this]
  clear this h
  induction q generalizing fr with
  | nil => rfl
  | cons e q ih => exact ih fr

theorem frD_marks (S : Nat → Bool) : ∀ (p : List Ent) (fr : Fr), (frD S p fr).marks = fr.marks
  | [], _ => rfl
  | e :: p, fr => by
    have := frD_marks S p
    simp only [frD, List.foldl_cons] at this ⊢
    rw [this]
    split
    · exact put_marks _ _ _
    · rfl
/-- The interpreter's word on a guard is the machine's. -/
theorem wanted_rel {φ : Nat → Option Loc} {N : Nat} {ops : Array Oper} {o : Oper} {fr : Fr} {a : Act} {b : Bool} (hw : awanted ops o fr = some b)
    (h : ∀ j want g d, o.guard = some (j, want) → ops.toList[j]? = some g → g.dst = some d → VR φ N (fr.get d) (a.tmps.getD d undef)) : Region.wanted o (yielded ops a.tmps) = b := by
  unfold awanted at hw
  unfold Region.wanted
  cases hg : o.guard with
  | none => simp only [hg, Option.some.injEq] at hw ⊢; exact hw
  | some jw =>
    obtain ⟨j, want⟩ := jw
    simp only [hg] at hw ⊢
    cases hj : ops.toList[j]? with
    | none =>
      simp only [hj, Option.some.injEq] at hw
      have hj' : ops[j]? = none := by simpa using hj
      subst hw
      simp [yielded, hj']
    | some g =>
      simp only [hj] at hw
      have hj' : ops[j]? = some g := by simpa using hj
      cases hd : g.dst with
      | none => simp only [hd, Option.some.injEq] at hw; subst hw; simp [yielded, hj', hd]
      | some d =>
        simp only [hd] at hw
        have hv := h j want g d hg hj hd
        have hy : yielded ops a.tmps j = match a.tmps.getD d undef with | .bool b => some b | _ => none := by
          simp only [yielded, hj', Option.bind_some, hd]
          rw [Array.getD_eq_getD_getElem?]
          cases ht : a.tmps[d]? with
          | none => rfl
          | some u => cases u <;> rfl
        rw [hy]
        generalize a.tmps.getD d undef = u at hv
        generalize fr.get d = fv at hw hv
        cases hv <;> simp only at hw <;> first
          | (cases hw; done)
          | (simp only [Option.some.injEq] at hw; subst hw; rename_i b0; cases b0 <;> cases want <;> rfl)
          | (split at hw
             · rename_i cs cs' hcs hs0
               have : cs = [] := by simpa using hs0
               subst this
               cases hcs
               simp only [Option.some.injEq] at hw
               subst hw
               rfl
             · cases hw)
          | simp_all
end Go.Proofs.Ytpdhkonifbdckaa.Abs
