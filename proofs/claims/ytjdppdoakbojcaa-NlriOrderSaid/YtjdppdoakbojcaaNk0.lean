/- Keys of routes and their order, in plain Lean. -/
import Derived.Test.YtjdppdoakbojcaaTop
namespace Go.Proofs.Ytjdppdoakbojcaa.Abs
open Go
set_option linter.unusedVariables false
def sgn (a b : Int) : Int := if a < b then -1 else if b < a then 1 else 0
/-- The first number that is not 0. -/
def orL : List Int → Int
  | [] => 0
  | a :: l => if a = 0 then orL l else a
/-- The order of lists of numbers. -/
def lx : List Int → List Int → Int
  | a :: l, b :: m => if sgn a b = 0 then lx l m else sgn a b
  | _, _ => 0
theorem sgn_zero {a b : Int} : sgn a b = 0 ↔ a = b := by unfold sgn; split <;> (try split) <;> omega
theorem sgn_self (a : Int) : sgn a a = 0 := sgn_zero.2 rfl
theorem lx_range : ∀ l m, -1 ≤ lx l m ∧ lx l m ≤ 1
  | [], _ => by simp [lx]
  | _ :: _, [] => by simp [lx]
  | a :: l, b :: m => by
    have := lx_range l m
    have hs : -1 ≤ sgn a b ∧ sgn a b ≤ 1 := by unfold sgn; split <;> (try split) <;> omega
    unfold lx
    split
    · exact this
    · exact hs
theorem lx_neg : ∀ l m, lx m l = - lx l m
  | [], [] => rfl
  | [], _ :: _ => rfl
  | _ :: _, [] => rfl
  | a :: l, b :: m => by
    have := lx_neg l m
    unfold lx
    by_cases h : a = b
    · subst h; rw [if_pos (sgn_self a), if_pos (sgn_self a), this]
    · rw [if_neg fun h2 => h (sgn_zero.1 h2), if_neg fun h2 => h (sgn_zero.1 h2).symm]
      unfold sgn
      split <;> (try split) <;> (try split) <;> omega
theorem lx_zero : ∀ {l m : List Int}, l.length = m.length → (lx l m = 0 ↔ l = m)
  | [], [], _ => by simp [lx]
  | [], _ :: _, h => by simp at h
  | _ :: _, [], h => by simp at h
  | a :: l, b :: m, h => by
    have ih := lx_zero (l := l) (m := m) (by simpa using h)
    unfold lx
    by_cases e : a = b
    · subst e; rw [if_pos (sgn_self a), ih]; simp
    · rw [if_neg fun h2 => e (sgn_zero.1 h2)]
      exact ⟨fun h2 => absurd (sgn_zero.1 h2) e, fun h2 => absurd (List.cons.inj h2).1 e⟩
theorem lx_trans : ∀ {l m q : List Int}, l.length = m.length → m.length = q.length → lx l m ≤ 0 → lx m q ≤ 0 → lx l q ≤ 0
  | [], [], [], _, _, _, _ => by simp [lx]
  | [], [], _ :: _, _, h, _, _ => by simp at h
  | [], _ :: _, _, h, _, _, _ => by simp at h
  | _ :: _, [], _, h, _, _, _ => by simp at h
  | _ :: _, _ :: _, [], _, h, _, _ => by simp at h
  | a :: l, b :: m, c :: q, h1, h2, h3, h4 => by
    have ih := lx_trans (l := l) (m := m) (q := q) (by simpa using h1) (by simpa using h2)
    unfold lx at h3 h4 ⊢
    by_cases e : a = b
    · subst e
      rw [if_pos (sgn_self a)] at h3
      split
      · rename_i g; rw [if_pos g] at h4; exact ih h3 h4
      · rename_i g; rw [if_neg g] at h4; exact h4
    · rw [if_neg fun h => e (sgn_zero.1 h)] at h3
      by_cases e2 : b = c
      · subst e2
        rw [if_neg fun h => e (sgn_zero.1 h)]; exact h3
      · rw [if_neg fun h => e2 (sgn_zero.1 h)] at h4
        have k1 : a < b := by unfold sgn at h3; split at h3 <;> (try split at h3) <;> omega
        have k2 : b < c := by unfold sgn at h4; split at h4 <;> (try split at h4) <;> omega
        have : sgn a c = -1 := by unfold sgn; rw [if_pos (by omega)]
        rw [this, if_neg (by decide)]; decide
theorem lx_app : ∀ {l m : List Int} (l2 m2 : List Int), l.length = m.length → lx (l ++ l2) (m ++ m2) = if lx l m = 0 then lx l2 m2 else lx l m
  | [], [], _, _, _ => by simp [lx]
  | [], _ :: _, _, _, h => by simp at h
  | _ :: _, [], _, _, h => by simp at h
  | a :: l, b :: m, l2, m2, h => by
    have ih := lx_app (l := l) (m := m) l2 m2 (by simpa using h)
    simp only [List.cons_append, lx]
    split
    · exact ih
    · rfl
def b2i (b : Bool) : Int := if b then 1 else 0
theorem b2i_inj {a b : Bool} (h : b2i a = b2i b) : a = b := by cases a <;> cases b <;> simp [b2i] at h ⊢
def esL (x : S60) : List Int := [x.a2, x.a3, x.a4, x.a5, x.a6, x.a7, x.a8, x.a9, x.a10, x.a11]
/-- The numbers by which keys are compared. -/
def kv (x : S60) : List Int := [x.a0, x.a1] ++ (esL x ++ [x.a12, x.a13, b2i x.a15, x.a14, x.a16, x.a17, x.a18])
theorem kv_len (x : S60) : (kv x).length = 19 := rfl
def keyS (x : S60) : S60 := if x.a0 = 5 then { x with a2 := 0, a3 := 0, a4 := 0, a5 := 0, a6 := 0, a7 := 0, a8 := 0, a9 := 0, a10 := 0, a11 := 0, a18 := 0, a19 := 0, a20 := 0 } else if x.a0 = 2 then { x with a2 := 0, a3 := 0, a4 := 0, a5 := 0, a6 := 0, a7 := 0, a8 := 0, a9 := 0, a10 := 0, a11 := 0, a19 := 0, a20 := 0 } else { x with a19 := 0, a20 := 0 }
def nlC (x y : S60) : Int := lx (kv (keyS x)) (kv (keyS y))
def orC (x y : S60) : Int := orL [sgn x.a0 y.a0, sgn x.a1 y.a1, lx (esL x) (esL y), sgn x.a12 y.a12, sgn x.a13 y.a13, sgn (b2i x.a15) (b2i y.a15), sgn x.a14 y.a14, sgn x.a16 y.a16, sgn x.a17 y.a17, sgn x.a18 y.a18]
theorem orC_eq (x y : S60) : orC x y = lx (kv x) (kv y) := by
  unfold kv
  rw [List.cons_append, List.cons_append, List.cons_append, List.cons_append, List.nil_append, List.nil_append]
  unfold orC
  rw [lx, lx, lx_app _ _ (show (esL x).length = (esL y).length from rfl)]
  simp only [orL, lx]
  repeat' (split; · skip)
  all_goals simp_all
theorem keyS_lab (x : S60) : (keyS x).a19 = 0 ∧ (keyS x).a20 = 0 := by unfold keyS; split <;> (try split) <;> exact ⟨rfl, rfl⟩
theorem keyS_a0 (x : S60) : (keyS x).a0 = x.a0 := by unfold keyS; split <;> (try split) <;> rfl
theorem keyS_a1 (x : S60) : (keyS x).a1 = x.a1 := by unfold keyS; split <;> (try split) <;> rfl
theorem keyS_key (x : S60) : keyS (keyS x) = keyS x := by
  by_cases h5 : x.a0 = 5
  · have : keyS x = _ := if_pos h5
    rw [this]; unfold keyS; rw [if_pos h5]
  · by_cases h2 : x.a0 = 2
    · have : keyS x = _ := (if_neg h5).trans (if_pos h2)
      rw [this]; unfold keyS; rw [if_neg h5, if_pos h2]
    · have : keyS x = _ := (if_neg h5).trans (if_neg h2)
      rw [this]; unfold keyS; rw [if_neg h5, if_neg h2]
theorem keyS_labels (x : S60) (l m : Int) : keyS { x with a19 := l, a20 := m } = keyS x := by unfold keyS; rfl
theorem kv_inj {x y : S60} (h : kv x = kv y) (h19 : x.a19 = y.a19) (h20 : x.a20 = y.a20) : x = y := by
  obtain ⟨_, _, _, _, _, _, _, _, _, _, _, _, _, _, _, _, _, _, _, _, _⟩ := x
  obtain ⟨_, _, _, _, _, _, _, _, _, _, _, _, _, _, _, _, _, _, _, _, _⟩ := y
  simp only [kv, esL, List.cons_append, List.nil_append, List.cons.injEq] at h
  simp only [S60.mk.injEq]
  simp only at h19 h20
  obtain ⟨_, _, _, _, _, _, _, _, _, _, _, _, _, _, hb, _⟩ := h
  have := b2i_inj hb
  simp_all
theorem nlC_zero {x y : S60} : nlC x y = 0 ↔ keyS x = keyS y := by
  unfold nlC
  rw [lx_zero (by rw [kv_len, kv_len])]
  refine ⟨fun h => kv_inj h ?_ ?_, fun h => by rw [h]⟩
  · rw [(keyS_lab x).1, (keyS_lab y).1]
  · rw [(keyS_lab x).2, (keyS_lab y).2]
theorem leafN {k k' : IntKind} {a b : Int} : leafEq (.int k a) (.int k' b) = (a == b) := rfl
theorem leafT {a b : Bool} : leafEq (.bool a) (.bool b) = (a == b) := rfl
theorem leaf60 (s : S60) : leafsEq (en60 s) (en60 s) = true := by
  unfold en60
  simp only [leafsEq, leafN, leafT]
  simp
theorem leaf60_eq {x y : S60} (h : leafsEq (en60 x) (en60 y) = true) : x = y := by
  obtain ⟨_, _, _, _, _, _, _, _, _, _, _, _, _, _, _, _, _, _, _, _, _⟩ := x
  obtain ⟨_, _, _, _, _, _, _, _, _, _, _, _, _, _, _, _, _, _, _, _, _⟩ := y
  unfold en60 at h
  simp only [leafsEq, leafN, leafT, Bool.and_eq_true, beq_iff_eq] at h
  simp only [S60.mk.injEq]
  obtain ⟨h0, h1, h2, h3, h4, h5, h6, h7, h8, h9, h10, h11, h12, h13, h14, h15, h16, h17, h18, h19, h20, _⟩ := h
  exact ⟨h0, h1, h2, h3, h4, h5, h6, h7, h8, h9, h10, h11, h12, h13, h14, h15, h16, h17, h18, h19, h20⟩
theorem leaf60_ne {x y : S60} (h : x ≠ y) : leafsEq (en60 x) (en60 y) = false := by
  cases e : leafsEq (en60 x) (en60 y) with
  | false => rfl
  | true => exact absurd (leaf60_eq e) h
end Go.Proofs.Ytjdppdoakbojcaa.Abs
