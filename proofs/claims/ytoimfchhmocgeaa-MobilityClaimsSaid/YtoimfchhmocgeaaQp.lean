/- The book with at most one address, in plain Lean: calm books, five leaves. -/
import Derived.Test.YtoimfchhmocgeaaQn
import Derived.Test.YtoimfchhmocgeaaQi
import Derived.Test.YtoimfchhmocgeaaQb
import Derived.Test.YtoimfchhmocgeaaQk
namespace Go.Proofs.Ytoimfchhmocgeaa.Abs
open Go
set_option linter.unusedVariables false
def lenM (mv : Option (List Int × Bool)) : Nat := match mv with
  | some (L, _) => L.length
  | none => 0
theorem moveL_len (win now : Int) (mv : Option (List Int × Bool)) : (moveL win now mv).length ≤ lenM mv := by
  unfold moveL lenM
  cases mv with
  | none => exact Nat.zero_le _
  | some q => exact List.length_filter_le _ _
theorem clM_calm {win now : Int} {mv : Option (List Int × Bool)} (h : moveF mv = false) : moveF (clM win now mv) = false ∧ lenM (clM win now mv) ≤ lenM mv := by
  cases mv with
  | none => exact ⟨rfl, Nat.le_refl _⟩
  | some q =>
    obtain ⟨L, f⟩ := q
    unfold clM
    dsimp only
    by_cases hc : (L.filter (keepT (now - win))).length = 0 ∧ f = false
    · rw [if_pos hc]; exact ⟨rfl, Nat.zero_le _⟩
    · rw [if_neg hc]; exact ⟨h, List.length_filter_le _ _⟩
/-- A book that is not frozen and whose moves are few lets Next decide. -/
theorem settle_calm {lim win self now : Int} {cl : Option (Int × Bool)} {mv : Option (List Int × Bool)} {own : Bool} {rv : Option S27} {m : Nat} (hf : clF cl = false) (hm : moveF mv = false) (hl : lenM mv ≤ m) (hlim : (m : Int) + 1 ≤ lim) :
    ∃ mv', settleB lim win self now cl mv own rv = (if own = true then decC (nextM (seqO cl) cl.isSome self (rvR rv)) else none, mv', own && !(nextM (seqO cl) cl.isSome self (rvR rv)).2) ∧ moveF mv' = false ∧ lenM mv' ≤ m + (if (own && contB cl (rvR rv)) = true then 1 else 0) := by
  obtain ⟨h1, h2⟩ := clM_calm (win := win) (now := now) hm
  cases own with
  | false => exact ⟨clM win now mv, rfl, h1, Nat.le_trans h2 (by omega)⟩
  | true =>
    unfold settleB
    dsimp only
    generalize clM win now mv = mw at *
    unfold rule0 rule1 rule2 rule3
    rw [hf, h1]
    simp only [Bool.false_eq_true, if_false, Bool.and_false, Bool.true_and, if_true]
    have ht : tooM lim win now mw = false := by
      unfold tooM
      refine decide_eq_false ?_
      have := moveL_len win now mw
      omega
    cases hc : contB cl (rvR rv) with
    | false =>
      simp only [Bool.false_eq_true, if_false]
      exact ⟨mw, rfl, h1, by omega⟩
    | true =>
      rw [ht]
      simp only [Bool.false_eq_true, if_false, if_true]
      refine ⟨mv2 lim win now mw, rfl, ?_, ?_⟩
      · unfold mv2 moveF
        dsimp only
        rw [ht]
        have : moveF mw = false := h1
        unfold moveF at this
        rw [this]
        rfl
      · unfold mv2 lenM
        dsimp only
        rw [List.length_append, List.length_singleton]
        have := moveL_len win now mw
        omega
/-! ### Five leaves -/
structure Lf where
  has : Bool
  same : Bool
  cl : Option (Int × Bool)
  mv : Option (List Int × Bool)
def bestUp (n : Nat) (sn : Bool) (i : Nat) (acc : Option S27) (x : Lf) : Option S27 := if i = n then acc else match x.cl with
  | none => acc
  | some (q, _) => match acc with
    | none => some ⟨0, 5, q, 1 + (i : Int), x.same && sn⟩
    | some a => if q > a.a2 then some ⟨0, 5, q, 1 + (i : Int), x.same && sn⟩ else some a
def bestGo (n : Nat) (sn : Bool) : Nat → Option S27 → List Lf → Option S27
  | _, acc, [] => acc
  | i, acc, x :: r => bestGo n sn (i + 1) (bestUp n sn i acc x) r
def sameAt (ls : List Lf) (n : Nat) : Bool := match ls[n]? with
  | some x => x.same
  | none => false
def bestM (ls : List Lf) (n : Nat) : Option S27 := bestGo n (sameAt ls n) 0 none ls
def setLf (now : Int) (n : Nat) (rv : Option S27) (x : Lf) : Lf := ⟨x.has && !(settleB 100 10000 (1 + (n : Int)) now x.cl x.mv x.has rv).2.2, x.same, (settleB 100 10000 (1 + (n : Int)) now x.cl x.mv x.has rv).1, (settleB 100 10000 (1 + (n : Int)) now x.cl x.mv x.has rv).2.1⟩
def stepL (now : Int) (ls : List Lf) (n : Nat) : List Lf := match ls[n]? with
  | none => ls
  | some x => ls.set n (setLf now n (bestM ls n) x)
/-- The leaves from number n on settle, k of them. -/
def goL (now : Int) : Nat → Nat → List Lf → List Lf
  | 0, _, ls => ls
  | k + 1, n, ls => goL now k (n + 1) (stepL now ls n)
def roundsL (now : Int) : Nat → List Lf → List Lf
  | 0, ls => ls
  | k + 1, ls => roundsL now k (goL now ls.length 0 ls)
theorem stepL_len (now : Int) (ls : List Lf) (n : Nat) : (stepL now ls n).length = ls.length := by
  unfold stepL
  split
  · rfl
  · exact List.length_set
theorem goL_len (now : Int) : ∀ (k n : Nat) (ls : List Lf), (goL now k n ls).length = ls.length
  | 0, _, _ => rfl
  | k + 1, n, ls => by unfold goL; rw [goL_len, stepL_len]
/-! ### Leaves whose claims are counted from a number on -/
structure Lfo where
  has : Bool
  same : Bool
  cl : Option Nat
  c : Nat
abbrev Rv := Option (Nat × Nat × Bool)
def upO (n : Nat) (sn : Bool) (i : Nat) (acc : Rv) (x : Lfo) : Rv := if i = n then acc else match x.cl with
  | none => acc
  | some q => match acc with
    | none => some (q, 1 + i, x.same && sn)
    | some a => if q > a.1 then some (q, 1 + i, x.same && sn) else some a
def bestGoO (n : Nat) (sn : Bool) : Nat → Rv → List Lfo → Rv
  | _, acc, [] => acc
  | i, acc, x :: r => bestGoO n sn (i + 1) (upO n sn i acc x) r
def sameO (ls : List Lfo) (n : Nat) : Bool := match ls[n]? with
  | some x => x.same
  | none => false
def bestO (ls : List Lfo) (n : Nat) : Rv := bestGoO n (sameO ls n) 0 none ls
def nextO (cl : Option Nat) (self : Nat) : Rv → Option Nat
  | none => some (cl.getD 0)
  | some (q, nx, sm) => if sm = true then some (if q > cl.getD 0 then q else cl.getD 0) else match cl with
    | none => some (q + 1)
    | some o => if o > q ∨ (o = q ∧ self < nx) then some o else none
def contO (cl : Option Nat) : Rv → Bool
  | none => false
  | some (_, _, sm) => cl.isNone && !sm
def setLo (n : Nat) (rv : Rv) (x : Lfo) : Lfo := match x.has with
  | false => ⟨false, x.same, none, x.c⟩
  | true => ⟨(nextO x.cl (1 + n) rv).isSome, x.same, nextO x.cl (1 + n) rv, x.c + (if contO x.cl rv = true then 1 else 0)⟩
/-- The numbers stay small; where nothing is known, the count begins at zero. -/
def okO (z : Bool) (rv : Rv) (x : Lfo) : Bool := (decide (x.c ≤ 3)) && (decide (x.cl.getD 0 ≤ 50)) && (match rv with
  | none => z || x.cl.isSome || !x.has
  | some r => decide (r.1 ≤ 50) && decide (0 < r.2.1))
def stepO (z : Bool) (A : List Lfo) (n : Nat) : Option (List Lfo) := match A[n]? with
  | none => none
  | some x => if okO z (bestO A n) x = true then some (A.set n (setLo n (bestO A n) x)) else none
def goO (z : Bool) : Nat → Nat → List Lfo → Option (List Lfo)
  | 0, _, A => some A
  | k + 1, n, A => match stepO z A n with
    | none => none
    | some A' => goO z k (n + 1) A'
def roundsO (z : Bool) : Nat → List Lfo → Option (List Lfo)
  | 0, A => some A
  | k + 1, A => match goO z A.length 0 A with
    | none => none
    | some A' => roundsO z k A'
/-! ### The two agree -/
def RelL (s : Int) (m : Nat) (x : Lf) (a : Lfo) : Prop := x.has = a.has ∧ x.same = a.same ∧ x.cl = a.cl.map (fun o : Nat => (s + (o : Int), false)) ∧ moveF x.mv = false ∧ lenM x.mv ≤ m + a.c
def RelS (s : Int) (m : Nat) : List Lf → List Lfo → Prop
  | [], [] => True
  | x :: r, a :: t => RelL s m x a ∧ RelS s m r t
  | _, _ => False
section
variable {s : Int} {m : Nat}
theorem RelS.len : ∀ {ls : List Lf} {A : List Lfo}, RelS s m ls A → ls.length = A.length
  | [], [], _ => rfl
  | x :: r, a :: t, h => by rw [List.length_cons, List.length_cons, RelS.len h.2]
  | [], _ :: _, h => h.elim
  | _ :: _, [], h => h.elim
theorem RelS.get : ∀ {ls : List Lf} {A : List Lfo} {n : Nat} {a : Lfo}, RelS s m ls A → A[n]? = some a → ∃ x, ls[n]? = some x ∧ RelL s m x a
  | [], [], n, a, _, h => by cases n <;> cases h
  | x :: r, b :: t, 0, a, h, e => by cases e; exact ⟨x, rfl, h.1⟩
  | x :: r, b :: t, n + 1, a, h, e => by
    have e : t[n]? = some a := e
    obtain ⟨y, h1, h2⟩ := RelS.get h.2 e
    exact ⟨y, h1, h2⟩
  | [], _ :: _, _, _, h, _ => h.elim
  | _ :: _, [], _, _, h, _ => h.elim
theorem RelS.set : ∀ {ls : List Lf} {A : List Lfo} (n : Nat) {x : Lf} {a : Lfo}, RelS s m ls A → RelL s m x a → RelS s m (ls.set n x) (A.set n a)
  | [], [], n, x, a, _, _ => by cases n <;> trivial
  | y :: r, b :: t, 0, x, a, h, e => ⟨e, h.2⟩
  | y :: r, b :: t, n + 1, x, a, h, e => ⟨h.1, RelS.set n h.2 e⟩
  | [], _ :: _, _, _, _, h, _ => h.elim
  | _ :: _, [], _, _, _, h, _ => h.elim
def cS (s : Int) (r : Nat × Nat × Bool) : S27 := ⟨0, 5, s + (r.1 : Int), (r.2.1 : Int), r.2.2⟩
theorem up_rel (n : Nat) (sn : Bool) (i : Nat) (acc : Rv) {x : Lf} {a : Lfo} (h : RelL s m x a) : bestUp n sn i (acc.map (cS s)) x = (upO n sn i acc a).map (cS s) := by
  obtain ⟨h1, h2, h3, _⟩ := h
  unfold bestUp upO
  by_cases hi : i = n
  · rw [if_pos hi, if_pos hi]
  rw [if_neg hi, if_neg hi, h3, h2]
  cases a.cl with
  | none => rfl
  | some q =>
    cases acc with
    | none =>
      simp only [Option.map_some, Option.map_none, cS]
      congr 2
    | some b =>
      simp only [Option.map_some, cS]
      by_cases hq : q > b.1
      · rw [if_pos hq, if_pos (by omega)]
        simp only [Option.map_some, cS]
        congr 2
      · rw [if_neg hq, if_neg (by omega)]
        rfl
theorem best_go (n : Nat) (sn : Bool) : ∀ (ls : List Lf) (A : List Lfo) (i : Nat) (acc : Rv), RelS s m ls A → bestGo n sn i (acc.map (cS s)) ls = (bestGoO n sn i acc A).map (cS s)
  | [], [], _, _, _ => rfl
  | x :: r, a :: t, i, acc, h => by
    unfold bestGo bestGoO
    rw [up_rel n sn i acc h.1]
    exact best_go n sn r t _ _ h.2
  | [], _ :: _, _, _, h => h.elim
  | _ :: _, [], _, _, h => h.elim
theorem best_rel {ls : List Lf} {A : List Lfo} (h : RelS s m ls A) {n : Nat} {a : Lfo} (ha : A[n]? = some a) : bestM ls n = (bestO A n).map (cS s) := by
  unfold bestM bestO
  have e : sameAt ls n = sameO A n := by
    obtain ⟨x, hx, h1, h2, _⟩ := h.get ha
    unfold sameAt sameO
    rw [hx, ha]
    exact h2
  rw [e]
  exact best_go n _ ls A 0 none h
theorem nextM_0 (o : Int) (known : Bool) (self : Int) : nextM o known self stR0 = (o, true) := if_pos rfl
theorem nextM_s {o : Int} {known : Bool} {self q nx : Int} (h : nx ≠ 0) : nextM o known self ⟨0, 5, q, nx, true⟩ = (if q > o then q else o, true) := (if_neg h).trans (if_pos rfl)
theorem nextM_u {o self q nx : Int} (h : nx ≠ 0) (hq : 0 ≤ q ∧ q < 4294967295) : nextM o false self ⟨0, 5, q, nx, false⟩ = (q + 1, true) := by
  refine (if_neg h).trans ((if_neg Bool.false_ne_true).trans ((if_pos rfl).trans ?_))
  dsimp only
  rw [if_neg (by omega), IntWalk.u32_in _ (by omega)]
theorem nextM_k {o self q nx : Int} (h : nx ≠ 0) : nextM o true self ⟨0, 5, q, nx, false⟩ = if o > q ∨ (o = q ∧ self < nx) then (o, true) else (0, false) := (if_neg h).trans ((if_neg Bool.false_ne_true).trans (if_neg (fun g => Bool.false_ne_true g.symm)))
theorem next_rel {z : Bool} {rv : Rv} {a : Lfo} (hz : z = true → s = 0) (hs : 0 ≤ s ∧ s ≤ 1000) (hok : okO z rv a = true) (hh : a.has = true) (n : Nat) :
    decC (nextM (seqO (a.cl.map fun o : Nat => (s + (o : Int), false))) (a.cl.map fun o : Nat => (s + (o : Int), false)).isSome (1 + (n : Int)) (rvR (rv.map (cS s)))) = (nextO a.cl (1 + n) rv).map (fun o : Nat => (s + (o : Int), false))
    ∧ (nextM (seqO (a.cl.map fun o : Nat => (s + (o : Int), false))) (a.cl.map fun o : Nat => (s + (o : Int), false)).isSome (1 + (n : Int)) (rvR (rv.map (cS s)))).2 = (nextO a.cl (1 + n) rv).isSome
    ∧ contB (a.cl.map fun o : Nat => (s + (o : Int), false)) (rvR (rv.map (cS s))) = contO a.cl rv := by
  unfold okO at hok
  simp only [Bool.and_eq_true, decide_eq_true_eq] at hok
  obtain ⟨⟨h1, h2⟩, h3⟩ := hok
  cases rv with
  | none =>
    simp only [Option.map_none, rvR, nextM_0]
    simp only [Bool.or_eq_true, hh, Bool.not_true, Bool.false_eq_true, or_false] at h3
    cases hc : a.cl with
    | none =>
      rw [hc] at h3
      rcases h3 with h3 | h3
      · have := hz h3
        subst this
        exact ⟨rfl, rfl, rfl⟩
      · cases h3
    | some o => exact ⟨rfl, rfl, rfl⟩
  | some r =>
    obtain ⟨q, nx, sm⟩ := r
    simp only [Bool.and_eq_true, decide_eq_true_eq] at h3
    have hnx : (nx : Int) ≠ 0 := by omega
    have hrr : rvR ((some (q, nx, sm)).map (cS s)) = ⟨0, 5, s + (q : Int), (nx : Int), sm⟩ := rfl
    rw [hrr]
    clear hrr
    cases hc : a.cl with
    | none =>
      have e1 : seqO ((none : Option Nat).map fun o : Nat => (s + (o : Int), false)) = 0 := rfl
      have e2 : ((none : Option Nat).map fun o : Nat => (s + (o : Int), false)).isSome = false := rfl
      rw [e1, e2]
      cases sm with
      | true =>
        rw [nextM_s hnx]
        have e3 : nextO none (1 + n) (some (q, nx, true)) = some (if q > 0 then q else 0) := rfl
        rw [e3]
        refine ⟨?_, rfl, by unfold contB contO; simp⟩
        unfold decC
        dsimp only
        by_cases hq : q > 0
        · rw [if_pos hq, if_pos (by omega)]; rfl
        · obtain rfl : q = 0 := by omega
          rw [show (if (0 : Nat) > 0 then 0 else 0) = 0 from rfl]
          by_cases h0 : s + ((0 : Nat) : Int) > 0
          · rw [if_pos h0]; rfl
          · rw [if_neg h0]
            obtain rfl : s = 0 := by omega
            rfl
      | false =>
        rw [nextM_u hnx (by omega)]
        have e3 : nextO none (1 + n) (some (q, nx, false)) = some (q + 1) := rfl
        rw [e3]
        refine ⟨?_, rfl, ?_⟩
        · unfold decC
          dsimp only [Option.map_some]
          congr 2
          omega
        · unfold contB contO
          have hnx2 : nx ≠ 0 := by omega
          simp [hnx2]
    | some o =>
      have e1 : seqO ((some o).map fun o : Nat => (s + (o : Int), false)) = s + (o : Int) := rfl
      have e2 : ((some o).map fun o : Nat => (s + (o : Int), false)).isSome = true := rfl
      rw [e1, e2]
      cases sm with
      | true =>
        rw [nextM_s hnx]
        have e3 : nextO (some o) (1 + n) (some (q, nx, true)) = some (if q > o then q else o) := rfl
        rw [e3]
        refine ⟨?_, rfl, rfl⟩
        unfold decC
        dsimp only [Option.map_some]
        by_cases hq : q > o
        · rw [if_pos hq, if_pos (by omega)]
        · rw [if_neg hq, if_neg (by omega)]
      | false =>
        rw [nextM_k hnx]
        have e3 : nextO (some o) (1 + n) (some (q, nx, false)) = if o > q ∨ (o = q ∧ 1 + n < nx) then some o else none := rfl
        rw [e3]
        by_cases hq : o > q ∨ (o = q ∧ 1 + n < nx)
        · rw [if_pos hq, if_pos (by omega)]
          exact ⟨rfl, rfl, rfl⟩
        · rw [if_neg hq, if_neg (by omega)]
          exact ⟨rfl, rfl, rfl⟩
theorem clF_map (a : Option Nat) : clF (a.map fun o : Nat => (s + (o : Int), false)) = false := by cases a <;> rfl
theorem set_rel {z : Bool} {rv : Rv} {a : Lfo} {x : Lf} (now : Int) (hz : z = true → s = 0) (hs : 0 ≤ s ∧ s ≤ 1000) (hm : m ≤ 95) (hok : okO z rv a = true) (h : RelL s m x a) (n : Nat) : RelL s m (setLf now n (rv.map (cS s)) x) (setLo n rv a) := by
  obtain ⟨h1, h2, h3, h4, h5⟩ := h
  have hc : a.c ≤ 3 := by
    unfold okO at hok
    simp only [Bool.and_eq_true, decide_eq_true_eq] at hok
    exact hok.1.1
  obtain ⟨mv', e, g1, g2⟩ := settle_calm (lim := 100) (win := 10000) (self := 1 + (n : Int)) (now := now) (cl := x.cl) (mv := x.mv) (own := x.has) (rv := rv.map (cS s)) (by rw [h3]; exact clF_map _) h4 h5 (by omega)
  unfold setLf
  rw [e]
  unfold setLo
  cases hh : a.has with
  | false =>
    rw [hh] at h1
    rw [h1] at g2 ⊢
    exact ⟨rfl, h2, rfl, g1, g2⟩
  | true =>
    rw [hh] at h1
    rw [h1, h3] at g2 ⊢
    obtain ⟨k1, k2, k3⟩ := next_rel hz hs hok hh n
    rw [k3] at g2
    refine ⟨?_, h2, ?_, g1, ?_⟩
    · dsimp only
      rw [k2]
      simp
    · dsimp only
      rw [if_pos rfl, k1]
    · dsimp only
      rw [Bool.true_and] at g2
      omega
theorem step_rel {z : Bool} {ls : List Lf} {A A' : List Lfo} {n : Nat} (now : Int) (hz : z = true → s = 0) (hs : 0 ≤ s ∧ s ≤ 1000) (hm : m ≤ 95) (h : RelS s m ls A) (e : stepO z A n = some A') : RelS s m (stepL now ls n) A' := by
  unfold stepO at e
  cases ha : A[n]? with
  | none => rw [ha] at e; cases e
  | some a =>
    rw [ha] at e
    dsimp only at e
    obtain ⟨x, hx, hr⟩ := h.get ha
    by_cases hok : okO z (bestO A n) a = true
    · rw [if_pos hok] at e
      cases e
      unfold stepL
      rw [hx]
      dsimp only
      rw [best_rel h ha]
      exact RelS.set n h (set_rel now hz hs hm hok hr n)
    · rw [if_neg hok] at e; cases e
theorem go_rel {z : Bool} (now : Int) (hz : z = true → s = 0) (hs : 0 ≤ s ∧ s ≤ 1000) (hm : m ≤ 95) : ∀ (k n : Nat) {ls : List Lf} {A A' : List Lfo}, RelS s m ls A → goO z k n A = some A' → RelS s m (goL now k n ls) A'
  | 0, n, ls, A, A', h, e => by cases e; exact h
  | k + 1, n, ls, A, A', h, e => by
    unfold goO at e
    cases e1 : stepO z A n with
    | none => rw [e1] at e; cases e
    | some A1 =>
      rw [e1] at e
      unfold goL
      exact go_rel now hz hs hm k (n + 1) (step_rel now hz hs hm h e1) e
theorem rounds_rel {z : Bool} (now : Int) (hz : z = true → s = 0) (hs : 0 ≤ s ∧ s ≤ 1000) (hm : m ≤ 95) : ∀ (k : Nat) {ls : List Lf} {A A' : List Lfo}, RelS s m ls A → roundsO z k A = some A' → RelS s m (roundsL now k ls) A'
  | 0, ls, A, A', h, e => by cases e; exact h
  | k + 1, ls, A, A', h, e => by
    unfold roundsO at e
    cases e1 : goO z A.length 0 A with
    | none => rw [e1] at e; cases e
    | some A1 =>
      rw [e1] at e
      unfold roundsL
      rw [h.len]
      exact rounds_rel now hz hs hm k (go_rel now hz hs hm _ 0 h e1) e
end
end Go.Proofs.Ytoimfchhmocgeaa.Abs

/- The book with at most one address as one thing; the laws' helpers. -/
namespace Go.Proofs.Ytoimfchhmocgeaa.Abs
open Go
set_option linter.unusedVariables false
def K5 : Kk := ⟨0, 5⟩
theorem K5_ok : okK K5 := by unfold okK K5; dsimp only; omega
/-- A book in memory. -/
def BkI (lim win : Int) (K : Kk) (p : Nat) (last : Int) (cl : Option (Int × Bool)) (mv : Option (List Int × Bool)) (G : Hp) : Prop := ∃ cb mb cs cc ms mc CG MG, ClI K cl cs cc CG ∧ MvI K mv ms mc MG ∧ G = ((p, AObj.row [.int .i64 lim, .int .i64 win, .int .i64 last, .map (some cb), .map (some mb)] 5 false) :: (cb, AObj.map (mkH ekM evP cs) cc) :: (mb, AObj.map (mkH ekM evP ms) mc) :: (CG ++ MG))
def clL (K : Kk) (cl : Option (Int × Bool)) : List C57 := match cl with
  | some (q, f) => [⟨K.bd, K.mac, q, f⟩]
  | none => []
theorem bk_as {a b c : Nat × AObj} {C M H : Hp} : (a :: b :: c :: (C ++ M)) ++ H = a :: b :: c :: (C ++ (M ++ H)) := by simp
theorem mv_2000 {mv : Option (List Int × Bool)} (hl : lenM mv ≤ 2000) : ∀ L f, mv = some (L, f) → L.length ≤ 2000 := fun L f e => by subst e; exact hl
/-- The entry of the chapter's address. -/
def n5 : N59 := ⟨0, 0, 5, 0, false, 0⟩
def r5 (q nx : Int) : S27 := ⟨0, 5, q, nx, false⟩
theorem C57_ext {a b : C57} (h0 : a.bd = b.bd) (h1 : a.mac = b.mac) (h2 : a.seq = b.seq) (h3 : a.fz = b.fz) : a = b := by
  obtain ⟨a0, a1, a2, a3⟩ := a
  obtain ⟨b0, b1, b2, b3⟩ := b
  simp only at h0 h1 h2 h3
  subst h0 h1 h2 h3
  rfl
theorem leaf57 (x : C57) : leafsEq (en57 x) (en57 x) = true := by
  simp [leafsEq, leafEq, en57]
theorem leaf59 (x : N59) : leafsEq (en59 x) (en59 x) = true := by
  simp [leafsEq, leafEq, en59]
section
variable {B0 : Nat} {old : Nat → Option (List Value)} {n : Nat} {H G : Hp} {Q : Value → Hp → Prop} {p : Nat} {lim win last : Int} {K : Kk} {cl : Option (Int × Bool)} {mv : Option (List Int × Bool)}
set_option maxRecDepth 10000
set_option maxHeartbeats 8000000
theorem CallT.permPost {C : Ctx} {hc : Abs.H Prop} {g : FuncId} {args : List Value} {H : Hp} {Q Q' : Value → Hp → Prop} (h : CallT C hc g args H Q') (hm : ∀ v H', Q' v H' → ∃ H2, H2.Perm H' ∧ Q v H2) : CallT C hc g args H Q := by
  unfold CallT at *
  exact fun s k h1 h2 => h s k h1 fun v H' s' h3 h4 => let ⟨H2, h5, h6⟩ := hm v H' h3; h2 v H2 s' h6 (h4.perm h5)
theorem arr_nil {α : Type} {en : α → List Value} {k : Nat} (hl : ∀ x, (en x).length = k) : Arr (cx B0 old) H none k en [] := by
  obtain ⟨ad, c, e, h⟩ := (Own.nil (en := en) (k := k)).arrW (C := cx B0 old) hl
  cases e
  exact (h [] H).arr hl
theorem sortT {ks : List Kk} (hk : ∀ x ∈ ks, okK x) (hl : ks.length ≤ 2000) : SortT (cx B0 old) (acall (cx B0 old) ansP (n + 2013)) ks := fun ho hQ =>
  CallT.fuel (sortFK_ct (n := n + (2000 - ks.length)) keyCmp ho hk (by omega) hQ) (by omega)
theorem newW (a b : Int) (ha : 1 ≤ a ∧ a ≤ 100) (hb : 1 ≤ b ∧ b ≤ 10000) (hQ : ∀ p G, BkI a b K p 0 none none G → Q (.tuple #[.pointer (some ⟨p, 0, none⟩), .int .i64 0]) (G ++ H)) :
    CallT (cx B0 old) (acall (cx B0 old) ansP (n + 1)) 15 [.int .i64 a, .int .i64 b] H Q := by
  refine CallT.permPost (newB15_ct (Q := fun v H' => ∃ p cb mb, v = .tuple #[.pointer (some ⟨p, 0, none⟩), .int .i64 0] ∧ H' = ((p, .row [.int .i64 a, .int .i64 b, .int .i64 0, .map (some cb), .map (some mb)] 5 false) :: (mb, .map (mkH ekM evP []) 0) :: (cb, .map (mkH ekM evP []) 0) :: H)) a b ha hb fun p cb mb => ⟨p, cb, mb, rfl, rfl⟩) ?_
  rintro v H' ⟨p, cb, mb, rfl, rfl⟩
  exact ⟨_, (List.Perm.swap _ _ _).cons _, hQ p _ ⟨cb, mb, [], 0, [], 0, [], [], ⟨rfl, rfl⟩, ⟨rfl, rfl⟩, rfl⟩⟩
theorem settleW (hB : BkI lim win K p last cl mv G) (hl : lenM mv ≤ 2000) (self now : Int) (hck : chkT last now = 0) (hwn : 0 ≤ win ∧ win ≤ 100000) (own : Bool) (x : N59) (hx : kN x = K) (rv : Option S27) (hr : ∀ r, rv = some r → kR r = K)
    {adn adr : Option Addr} {cn cr : Nat} (hn : Arr (cx B0 old) H adn 6 en59 (nearL x own)) (hrv : Arr (cx B0 old) H adr 5 en27 (rivL rv))
    (hQ : ∀ v Gv G', Own en59 6 (nearL x (settleB lim win self now cl mv own rv).2.2) v Gv → BkI lim win K p now (settleB lim win self now cl mv own rv).1 (settleB lim win self now cl mv own rv).2.1 G' → Q (.tuple #[v, .int .i64 0]) (Gv ++ (G' ++ H))) :
    CallT (cx B0 old) (acall (cx B0 old) ansP (n + 8)) 21 [.pointer (some ⟨p, 0, none⟩), .int .u32 self, .slice adn (nearL x own).length cn, .slice adr (rivL rv).length cr, .int .i64 now] (G ++ H) Q := by
  obtain ⟨cb, mb, cs, cc, ms, mc, CG, MG, hC, hM, rfl⟩ := hB
  rw [bk_as]
  refine settle21_ct hC hM (mv_2000 hl) self now hck hwn own x hx rv hr hn hrv fun v Gv cs' cc' CG' ms' mc' MG' ho hC' hM' => ?_
  have h := hQ v Gv _ ho ⟨cb, mb, cs', cc', ms', mc', CG', MG', hC', hM', rfl⟩
  rw [bk_as] at h
  exact h
theorem frozenW (hB : BkI lim win K p last cl mv G) (h : Q (.bool (moveF mv)) (G ++ H)) : CallT (cx B0 old) (acall (cx B0 old) ansP (n + 2)) 20 [.pointer (some ⟨p, 0, none⟩), .int .i64 K.bd, .int .u64 K.mac] (G ++ H) Q := by
  obtain ⟨cb, mb, cs, cc, ms, mc, CG, MG, hC, hM, rfl⟩ := hB
  rw [bk_as] at h ⊢
  refine call_in3 17 rfl Try.func20 rfl rfl ?_
  have hst := fun {H' : Hp} {Q' : Value → Hp → Prop} => stuck46_ct (B0 := B0) (old := old) (n := n) (H := H') (Q := Q') (p := p) (cb := cb) (mb := mb) (cc := cc) (lim := lim) (win := win) (last := last) (cs := cs) hM
  unfold enK at hst
  repeat (first | refine Z0 ?_ | (refine ZR ?_; first | refine x1 ?_ | refine x2 ?_ | refine x8 ?_ | refine Z1 ?_ | refine Z2 ?_ | refine x3 fun _ => ?_ | refine x4 fun _ => ?_ | refine x5 fun _ => ?_ | refine Z3 fun _ => ?_ | refine Z4 fun _ => ?_) | refine ZC ?_)
  refine rt_step rfl rfl rfl (st_call rfl rfl rfl rfl (invB45_ct ?_))
  repeat (first | refine Z0 ?_ | (refine ZR ?_; first | refine x1 ?_ | refine x2 ?_ | refine x8 ?_ | refine Z1 ?_ | refine Z2 ?_ | refine x3 fun _ => ?_ | refine x4 fun _ => ?_ | refine x5 fun _ => ?_ | refine Z3 fun _ => ?_ | refine Z4 fun _ => ?_) | refine ZC ?_)
  have e : ∀ {A B C D : Hp}, (A ++ (B ++ (C ++ D))).Perm (A ++ (C ++ (B ++ D))) := fun {A B C D} => List.Perm.append_left A (List.perm_append_comm_assoc B C D)
  refine rt_step rfl rfl rfl (st_call rfl rfl rfl rfl (CallT.perm (hst (H' := CG ++ H) ?_) (e (A := [_, _, _]))))
  refine RunT.perm ?_ (e (A := [_, _, _]) (B := CG))
  repeat (first | refine Z0 ?_ | (refine ZR ?_; first | refine x1 ?_ | refine x2 ?_ | refine x8 ?_ | refine Z1 ?_ | refine Z2 ?_ | refine x3 fun _ => ?_ | refine x4 fun _ => ?_ | refine x5 fun _ => ?_ | refine Z3 fun _ => ?_ | refine Z4 fun _ => ?_) | refine ZC ?_)
  exact re_1 rfl rfl (List.Sublist.refl _) h
theorem claimsW (hB : BkI lim win K p last cl mv G) (hK : okK K) (hQ : ∀ v Gv, Own en57 4 (clL K cl) v Gv → Q v (Gv ++ (G ++ H))) : CallT (cx B0 old) (acall (cx B0 old) ansP (n + 2016)) 25 [.pointer (some ⟨p, 0, none⟩)] (G ++ H) Q := by
  obtain ⟨cb, mb, cs, cc, ms, mc, CG, MG, hC, hM, rfl⟩ := hB
  rw [bk_as] at hQ ⊢
  cases cl with
  | none =>
    obtain ⟨rfl, rfl⟩ := hC
    refine claims25_ct (n := n + 2009) (fun _ => (0, false)) (Born.nil cc) List.nodup_nil (Nat.zero_le _) (fun ks hp => sortT (fun x hx => by cases (hp.mem_iff.1 hx)) (by rw [hp.length_eq]; exact Nat.zero_le _)) (fun q hq => by cases hq) fun ks v G hp hs ho => ?_
    obtain rfl := hp.eq_nil
    exact hQ v G ho
  | some q =>
    obtain ⟨q, f⟩ := q
    obtain ⟨b, bo, hbo, rfl, rfl⟩ := hC
    refine claims25_ct (n := n + 2009) (fun _ => (q, f)) ⟨by simp, fun x hx => by rw [List.mem_singleton.1 hx]; exact hbo⟩ (by unfold Uq; simp) (by simp) (fun ks hp => sortT (fun x hx => by
      have := hp.mem_iff.1 hx
      simp only [List.map_cons, List.map_nil, List.mem_singleton] at this
      rw [this]; exact hK) (by rw [hp.length_eq]; simp)) (fun q' hq => by rw [List.mem_singleton.1 hq]; exact List.Mem.head _) fun ks v G hp hs ho => ?_
    obtain rfl : ks = [K] := List.perm_singleton.1 hp
    exact hQ v G ho
theorem pick24_ct (x m : Int) (h0 : 0 < m) (hm : m ≤ 4611686018427387904) (hQ : ∀ r : Int, 0 ≤ r → r < m → Q (.int .i64 r) H) : CallT (cx B0 old) (acall (cx B0 old) ansP (n + 1)) 24 [.int .i64 x, .int .i64 m] H Q := by
  refine call_in2 14 rfl Try.func24 rfl rfl ?_
  have h1 := Int.tmod_lt_of_pos x h0
  have h2 := Int.lt_tmod_of_pos x h0
  repeat (first | refine Z0 ?_ | (refine ZR ?_; first | refine x1 ?_ | refine x2 ?_ | refine x8 ?_ | refine Z1 ?_ | refine Z2 ?_ | refine x3 fun _ => ?_ | refine x4 fun _ => ?_ | refine x5 fun _ => ?_ | refine Z3 fun _ => ?_ | refine Z4 fun _ => ?_) | refine ZC ?_)
  apply rt_p rfl rfl rfl
  case hp => exact p_rem rfl rfl (by omega)
  generalize x.tmod m = r at *
  repeat (first | refine Z0 ?_ | (refine ZR ?_; first | refine x1 ?_ | refine x2 ?_ | refine x8 ?_ | refine Z1 ?_ | refine Z2 ?_ | refine x3 fun _ => ?_ | refine x4 fun _ => ?_ | refine x5 fun _ => ?_ | refine Z3 fun _ => ?_ | refine Z4 fun _ => ?_) | refine ZC ?_)
  refine ct_condT te_d rfl (fun hc => ?_) (fun hc => ?_)
  · repeat (first | refine Z0 ?_ | (refine ZR ?_; first | refine x1 ?_ | refine x2 ?_ | refine x8 ?_ | refine Z1 ?_ | refine Z2 ?_ | refine x3 fun _ => ?_ | refine x4 fun _ => ?_ | refine x5 fun _ => ?_ | refine Z3 fun _ => ?_ | refine Z4 fun _ => ?_) | refine ZC ?_)
    exact re_1 rfl rfl (List.Sublist.refl _) (hQ _ (by omega) (by omega))
  · repeat (first | refine Z0 ?_ | (refine ZR ?_; first | refine x1 ?_ | refine x2 ?_ | refine x8 ?_ | refine Z1 ?_ | refine Z2 ?_ | refine x3 fun _ => ?_ | refine x4 fun _ => ?_ | refine x5 fun _ => ?_ | refine Z3 fun _ => ?_ | refine Z4 fun _ => ?_) | refine ZC ?_)
    exact re_1 rfl rfl (List.Sublist.refl _) (hQ _ (by omega) (by omega))
theorem one23_ct (hQ : ∀ b, Q (.slice (some ⟨b, 0, none⟩) 1 1) ((b, .row (en59 n5) 6 false) :: H)) : CallT (cx B0 old) (acall (cx B0 old) ansP (n + 1)) 23 [] H Q := by
  refine call_in 3 rfl Try.func23 rfl rfl ?_
  repeat (first | refine Z0 ?_ | (refine ZR ?_; first | refine x1 ?_ | refine x2 ?_ | refine x8 ?_ | refine Z1 ?_ | refine Z2 ?_ | refine x3 fun _ => ?_ | refine x4 fun _ => ?_ | refine x5 fun _ => ?_ | refine Z3 fun _ => ?_ | refine Z4 fun _ => ?_) | refine ZC ?_)
  exact re_1 rfl rfl (List.Sublist.refl _) (hQ _)
theorem against17_ct (q nx : Int) (hQ : ∀ b, Q (.slice (some ⟨b, 0, none⟩) 1 1) ((b, .row (en27 (r5 q nx)) 5 false) :: H)) : CallT (cx B0 old) (acall (cx B0 old) ansP (n + 1)) 17 [.int .u32 q, .int .u32 nx] H Q := by
  refine call_in2 9 rfl Try.func17 rfl rfl ?_
  repeat (first | refine Z0 ?_ | (refine ZR ?_; first | refine x1 ?_ | refine x2 ?_ | refine x8 ?_ | refine Z1 ?_ | refine Z2 ?_ | refine x3 fun _ => ?_ | refine x4 fun _ => ?_ | refine x5 fun _ => ?_ | refine Z3 fun _ => ?_ | refine Z4 fun _ => ?_) | refine ZC ?_)
  exact re_1 rfl rfl (List.Sublist.refl _) (hQ _)
theorem same26_ct {ad ad2 : Option Addr} {c c2 : Nat} {A : List C57} (h1 : Arr (cx B0 old) H ad 4 en57 A) (h2 : Arr (cx B0 old) H ad2 4 en57 A) (hl : A.length ≤ 100000) (hQ : Q (.bool true) H) : CallT (cx B0 old) (acall (cx B0 old) ansP (n + 1)) 26 [.slice ad A.length c, .slice ad2 A.length c2] H Q := by
  refine call_in2 26 rfl Try.func26 rfl rfl ?_
  repeat (first | refine Z0 ?_ | (refine ZR ?_; first | refine x1 ?_ | refine x2 ?_ | refine x8 ?_ | refine Z1 ?_ | refine Z2 ?_ | refine x3 fun _ => ?_ | refine x4 fun _ => ?_ | refine x5 fun _ => ?_ | refine Z3 fun _ => ?_ | refine Z4 fun _ => ?_) | refine ZC ?_)
  refine ct_condT te_ne rfl (fun hc => absurd rfl hc) (fun _ => ?_)
  repeat (first | refine Z0 ?_ | (refine ZR ?_; first | refine x1 ?_ | refine x2 ?_ | refine x8 ?_ | refine Z1 ?_ | refine Z2 ?_ | refine x3 fun _ => ?_ | refine x4 fun _ => ?_ | refine x5 fun _ => ?_ | refine Z3 fun _ => ?_ | refine Z4 fun _ => ?_) | refine ZC ?_)
  refine loop_ind (ι := Nat) 0 (fun i => A.length - i) (fun i => i ≤ A.length) (fun i => [(5, .int .i64 (i : Int)), (0, .slice ad A.length c), (1, .slice ad2 A.length c2)]) (fun _ => H) (Nat.zero_le _) (by repeat (first | exact SubL.nil | refine SubL.cons rfl ?_)) (by exact drop_auto) ?_
  intro i hi
  repeat (first | refine Z0 ?_ | (refine ZR ?_; first | refine x1 ?_ | refine x2 ?_ | refine x8 ?_ | refine Z1 ?_ | refine Z2 ?_ | refine x3 fun _ => ?_ | refine x4 fun _ => ?_ | refine x5 fun _ => ?_ | refine Z3 fun _ => ?_ | refine Z4 fun _ => ?_) | refine ZC ?_)
  refine ct_condT te_d rfl (fun hc => ?_) (fun hc => ?_)
  · obtain ⟨a, ha⟩ : ∃ x, A[i]? = some x := ⟨_, List.getElem?_eq_getElem (by omega)⟩
    obtain ⟨b1, o1, e1, hL0⟩ := h1.ldW 57 ha rfl (sz rfl)
    obtain ⟨b2, o2, e2, hL1⟩ := h2.ldW 57 ha rfl (sz rfl)
    subst e1
    subst e2
    have hs := leaf57 a
    unfold en57 at hL0 hL1 hs
    repeat (first | refine Z0 ?_ | (refine ZR ?_; first | refine x1 ?_ | refine x2 ?_ | refine x8 ?_ | refine Z1 ?_ | refine Z2 ?_ | refine x3 fun _ => ?_ | refine x4 fun _ => ?_ | refine x5 fun _ => ?_ | refine Z3 fun _ => ?_ | refine Z4 fun _ => ?_) | refine ZC ?_)
    refine ct_draw (masks := [0, 0, 3, 7, 0, 0, 48, 112, 255]) (plan := [0, 1, 2, 3, 4, 5, 6, 7, 8]) (E := []) (by kernel_rfl) (by kernel_rfl) (by kernel_rfl) (by kernel_rfl) ?_
    repeat (first | refine Y0 ?_ | (refine YP ?_; first | refine y1 ?_ | refine y2 ?_ | refine Y1 ?_ | refine Y2 ?_))
    rw [hs]
    repeat (first | refine Y0 ?_ | (refine YP ?_; first | refine y1 ?_ | refine y2 ?_ | refine Y1 ?_ | refine Y2 ?_))
    repeat (first | refine Z0 ?_ | (refine ZR ?_; first | refine x1 ?_ | refine x2 ?_ | refine x8 ?_ | refine Z1 ?_ | refine Z2 ?_ | refine x3 fun _ => ?_ | refine x4 fun _ => ?_ | refine x5 fun _ => ?_ | refine Z3 fun _ => ?_ | refine Z4 fun _ => ?_) | refine ZC ?_)
    exact ⟨i + 1, by omega, by omega, by repeat (first | exact SubL.nil | refine SubL.cons rfl ?_), by exact drop_auto⟩
  · repeat (first | refine Z0 ?_ | (refine ZR ?_; first | refine x1 ?_ | refine x2 ?_ | refine x8 ?_ | refine Z1 ?_ | refine Z2 ?_ | refine x3 fun _ => ?_ | refine x4 fun _ => ?_ | refine x5 fun _ => ?_ | refine Z3 fun _ => ?_ | refine Z4 fun _ => ?_) | refine ZC ?_)
    exact re_1 rfl rfl (by exact drop_auto) hQ
theorem same38_ct {ad ad2 : Option Addr} {c c2 : Nat} {A : List N59} (h1 : Arr (cx B0 old) H ad 6 en59 A) (h2 : Arr (cx B0 old) H ad2 6 en59 A) (hl : A.length ≤ 100000) (hQ : Q (.bool true) H) : CallT (cx B0 old) (acall (cx B0 old) ansP (n + 1)) 38 [.slice ad A.length c, .slice ad2 A.length c2] H Q := by
  refine call_in2 26 rfl Try.func38 rfl rfl ?_
  repeat (first | refine Z0 ?_ | (refine ZR ?_; first | refine x1 ?_ | refine x2 ?_ | refine x8 ?_ | refine Z1 ?_ | refine Z2 ?_ | refine x3 fun _ => ?_ | refine x4 fun _ => ?_ | refine x5 fun _ => ?_ | refine Z3 fun _ => ?_ | refine Z4 fun _ => ?_) | refine ZC ?_)
  refine ct_condT te_ne rfl (fun hc => absurd rfl hc) (fun _ => ?_)
  repeat (first | refine Z0 ?_ | (refine ZR ?_; first | refine x1 ?_ | refine x2 ?_ | refine x8 ?_ | refine Z1 ?_ | refine Z2 ?_ | refine x3 fun _ => ?_ | refine x4 fun _ => ?_ | refine x5 fun _ => ?_ | refine Z3 fun _ => ?_ | refine Z4 fun _ => ?_) | refine ZC ?_)
  refine loop_ind (ι := Nat) 0 (fun i => A.length - i) (fun i => i ≤ A.length) (fun i => [(5, .int .i64 (i : Int)), (0, .slice ad A.length c), (1, .slice ad2 A.length c2)]) (fun _ => H) (Nat.zero_le _) (by repeat (first | exact SubL.nil | refine SubL.cons rfl ?_)) (by exact drop_auto) ?_
  intro i hi
  repeat (first | refine Z0 ?_ | (refine ZR ?_; first | refine x1 ?_ | refine x2 ?_ | refine x8 ?_ | refine Z1 ?_ | refine Z2 ?_ | refine x3 fun _ => ?_ | refine x4 fun _ => ?_ | refine x5 fun _ => ?_ | refine Z3 fun _ => ?_ | refine Z4 fun _ => ?_) | refine ZC ?_)
  refine ct_condT te_d rfl (fun hc => ?_) (fun hc => ?_)
  · obtain ⟨a, ha⟩ : ∃ x, A[i]? = some x := ⟨_, List.getElem?_eq_getElem (by omega)⟩
    obtain ⟨b1, o1, e1, hL0⟩ := h1.ldW 59 ha rfl (sz rfl)
    obtain ⟨b2, o2, e2, hL1⟩ := h2.ldW 59 ha rfl (sz rfl)
    subst e1
    subst e2
    have hs := leaf59 a
    unfold en59 at hL0 hL1 hs
    repeat (first | refine Z0 ?_ | (refine ZR ?_; first | refine x1 ?_ | refine x2 ?_ | refine x8 ?_ | refine Z1 ?_ | refine Z2 ?_ | refine x3 fun _ => ?_ | refine x4 fun _ => ?_ | refine x5 fun _ => ?_ | refine Z3 fun _ => ?_ | refine Z4 fun _ => ?_) | refine ZC ?_)
    refine ct_draw (masks := [0, 0, 3, 7, 0, 0, 48, 112, 255]) (plan := [0, 1, 2, 3, 4, 5, 6, 7, 8]) (E := []) (by kernel_rfl) (by kernel_rfl) (by kernel_rfl) (by kernel_rfl) ?_
    repeat (first | refine Y0 ?_ | (refine YP ?_; first | refine y1 ?_ | refine y2 ?_ | refine Y1 ?_ | refine Y2 ?_))
    rw [hs]
    repeat (first | refine Y0 ?_ | (refine YP ?_; first | refine y1 ?_ | refine y2 ?_ | refine Y1 ?_ | refine Y2 ?_))
    repeat (first | refine Z0 ?_ | (refine ZR ?_; first | refine x1 ?_ | refine x2 ?_ | refine x8 ?_ | refine Z1 ?_ | refine Z2 ?_ | refine x3 fun _ => ?_ | refine x4 fun _ => ?_ | refine x5 fun _ => ?_ | refine Z3 fun _ => ?_ | refine Z4 fun _ => ?_) | refine ZC ?_)
    exact ⟨i + 1, by omega, by omega, by repeat (first | exact SubL.nil | refine SubL.cons rfl ?_), by exact drop_auto⟩
  · repeat (first | refine Z0 ?_ | (refine ZR ?_; first | refine x1 ?_ | refine x2 ?_ | refine x8 ?_ | refine Z1 ?_ | refine Z2 ?_ | refine x3 fun _ => ?_ | refine x4 fun _ => ?_ | refine x5 fun _ => ?_ | refine Z3 fun _ => ?_ | refine Z4 fun _ => ?_) | refine ZC ?_)
    exact re_1 rfl rfl (by exact drop_auto) hQ
theorem claims19_ct {q0 : Int} {f0 : Bool} (hB : BkI lim win K5 p last (some (q0, f0)) mv G) (hQ : Q (.bool true) (G ++ H)) : CallT (cx B0 old) (acall (cx B0 old) ansP (n + 2017)) 19 [.pointer (some ⟨p, 0, none⟩), .int .u32 q0, .bool f0] (G ++ H) Q := by
  refine call_in3 14 rfl Try.func19 rfl rfl ?_
  repeat (first | refine Z0 ?_ | (refine ZR ?_; first | refine x1 ?_ | refine x2 ?_ | refine x8 ?_ | refine Z1 ?_ | refine Z2 ?_ | refine x3 fun _ => ?_ | refine x4 fun _ => ?_ | refine x5 fun _ => ?_ | refine Z3 fun _ => ?_ | refine Z4 fun _ => ?_) | refine ZC ?_)
  refine rt_step rfl rfl rfl (st_call rfl rfl rfl rfl (claimsW hB K5_ok fun v Gv ho => ?_))
  obtain ⟨ad, c, e, ga⟩ := ho.arrW (C := cx B0 old) en57_len
  subst e
  repeat (first | refine Z0 ?_ | (refine ZR ?_; first | refine x1 ?_ | refine x2 ?_ | refine x8 ?_ | refine Z1 ?_ | refine Z2 ?_ | refine x3 fun _ => ?_ | refine x4 fun _ => ?_ | refine x5 fun _ => ?_ | refine Z3 fun _ => ?_ | refine Z4 fun _ => ?_) | refine ZC ?_)
  refine rt_step rfl rfl rfl (st_call rfl rfl rfl rfl (same26_ct (A := clL K5 (some (q0, f0))) (((ga [] (G ++ H)).arr en57_len).weak (by exact drop_auto)) ((arrW_one (a := ⟨0, 5, q0, f0⟩) en57_len hm0).arr en57_len) (show 1 ≤ 100000 by decide) ?_))
  repeat (first | refine Z0 ?_ | (refine ZR ?_; first | refine x1 ?_ | refine x2 ?_ | refine x8 ?_ | refine Z1 ?_ | refine Z2 ?_ | refine x3 fun _ => ?_ | refine x4 fun _ => ?_ | refine x5 fun _ => ?_ | refine Z3 fun _ => ?_ | refine Z4 fun _ => ?_) | refine ZC ?_)
  exact re_1 rfl rfl (by exact drop_auto) hQ
end
end Go.Proofs.Ytoimfchhmocgeaa.Abs
