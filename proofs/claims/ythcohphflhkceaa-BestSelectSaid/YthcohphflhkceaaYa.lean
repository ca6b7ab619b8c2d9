/- A route of chapter 04 as the cells of its value (S60 as in rP). -/
import Derived.Test.YthcohphflhkceaaCx
import Derived.Test.YthcohphflhkceaaAuto
namespace Go.Proofs.Ythcohphflhkceaa.Abs
open Go
set_option linter.unusedVariables false
structure S60 where
  a0 : Int
  a1 : Int
  a2 : Int
  a3 : Int
  a4 : Int
  a5 : Int
  a6 : Int
  a7 : Int
  a8 : Int
  a9 : Int
  a10 : Int
  a11 : Int
  a12 : Int
  a13 : Int
  a14 : Int
  a15 : Bool
  a16 : Int
  a17 : Int
  a18 : Int
  a19 : Int
  a20 : Int
def en60 (x : S60) : List Value := [.int .i64 x.a0, .int .u64 x.a1, .int .u8 x.a2, .int .u8 x.a3, .int .u8 x.a4, .int .u8 x.a5, .int .u8 x.a6, .int .u8 x.a7, .int .u8 x.a8, .int .u8 x.a9, .int .u8 x.a10, .int .u8 x.a11, .int .u32 x.a12, .int .u64 x.a13, .int .u32 x.a14, .bool x.a15, .int .u32 x.a16, .int .i64 x.a17, .int .u32 x.a18, .int .u32 x.a19, .int .u32 x.a20]
theorem en60_len (x : S60) : (en60 x).length = 21 := rfl
theorem en60_one (x : S60) : (en60 x).all Value.oneCell' = true := rfl
def S60.wf (x : S60) : Prop := (-9223372036854775808 ≤ x.a0 ∧ x.a0 ≤ 9223372036854775807) ∧ (0 ≤ x.a1 ∧ x.a1 ≤ 18446744073709551615) ∧ (0 ≤ x.a2 ∧ x.a2 ≤ 255) ∧ (0 ≤ x.a3 ∧ x.a3 ≤ 255) ∧ (0 ≤ x.a4 ∧ x.a4 ≤ 255) ∧ (0 ≤ x.a5 ∧ x.a5 ≤ 255) ∧ (0 ≤ x.a6 ∧ x.a6 ≤ 255) ∧ (0 ≤ x.a7 ∧ x.a7 ≤ 255) ∧ (0 ≤ x.a8 ∧ x.a8 ≤ 255) ∧ (0 ≤ x.a9 ∧ x.a9 ≤ 255) ∧ (0 ≤ x.a10 ∧ x.a10 ≤ 255) ∧ (0 ≤ x.a11 ∧ x.a11 ≤ 255) ∧ (0 ≤ x.a12 ∧ x.a12 ≤ 4294967295) ∧ (0 ≤ x.a13 ∧ x.a13 ≤ 18446744073709551615) ∧ (0 ≤ x.a14 ∧ x.a14 ≤ 4294967295) ∧ (0 ≤ x.a16 ∧ x.a16 ≤ 4294967295) ∧ (-9223372036854775808 ≤ x.a17 ∧ x.a17 ≤ 9223372036854775807) ∧ (0 ≤ x.a18 ∧ x.a18 ≤ 4294967295) ∧ (0 ≤ x.a19 ∧ x.a19 ≤ 4294967295) ∧ (0 ≤ x.a20 ∧ x.a20 ≤ 4294967295)
end Go.Proofs.Ythcohphflhkceaa.Abs

/- Keys of routes and their order, in plain Lean. -/
namespace Go.Proofs.Ythcohphflhkceaa.Abs
open Go
set_option linter.unusedVariables false
def sgn (a b : Int) : Int := if a < b then -1 else if b < a then 1 else 0
/-- The first number that is not 0. -/
def orL : List Int → Int
  | [] => 0
  | a :: l => if a = 0 then orL l else a
/-- The order of lists of numbers. -/
def lx : List Int → List Int → Int
  | a :: l, b :: m => if sgn a b = 0 then lx l m else sgn a b
  | _, _ => 0
theorem sgn_zero {a b : Int} : sgn a b = 0 ↔ a = b := by unfold sgn; split <;> (try split) <;> omega
theorem sgn_self (a : Int) : sgn a a = 0 := sgn_zero.2 rfl
theorem lx_range : ∀ l m, -1 ≤ lx l m ∧ lx l m ≤ 1
  | [], _ => by simp [lx]
  | _ :: _, [] => by simp [lx]
  | a :: l, b :: m => by
    have := lx_range l m
    have hs : -1 ≤ sgn a b ∧ sgn a b ≤ 1 := by unfold sgn; split <;> (try split) <;> omega
    unfold lx
    split
    · exact this
    · exact hs
theorem lx_neg : ∀ l m, lx m l = - lx l m
  | [], [] => rfl
  | [], _ :: _ => rfl
  | _ :: _, [] => rfl
  | a :: l, b :: m => by
    have := lx_neg l m
    unfold lx
    by_cases h : a = b
    · subst h; rw [if_pos (sgn_self a), if_pos (sgn_self a), this]
    · rw [if_neg fun h2 => h (sgn_zero.1 h2), if_neg fun h2 => h (sgn_zero.1 h2).symm]
      unfold sgn
      split <;> (try split) <;> (try split) <;> omega
theorem lx_zero : ∀ {l m : List Int}, l.length = m.length → (lx l m = 0 ↔ l = m)
  | [], [], _ => by simp [lx]
  | [], _ :: _, h => by simp at h
  | _ :: _, [], h => by simp at h
  | a :: l, b :: m, h => by
    have ih := lx_zero (l := l) (m := m) (by simpa using h)
    unfold lx
    by_cases e : a = b
    · subst e; rw [if_pos (sgn_self a), ih]; simp
    · rw [if_neg fun h2 => e (sgn_zero.1 h2)]
      exact ⟨fun h2 => absurd (sgn_zero.1 h2) e, fun h2 => absurd (List.cons.inj h2).1 e⟩
theorem lx_trans : ∀ {l m q : List Int}, l.length = m.length → m.length = q.length → lx l m ≤ 0 → lx m q ≤ 0 → lx l q ≤ 0
  | [], [], [], _, _, _, _ => by simp [lx]
  | [], [], _ :: _, _, h, _, _ => by simp at h
  | [], _ :: _, _, h, _, _, _ => by simp at h
  | _ :: _, [], _, h, _, _, _ => by simp at h
  | _ :: _, _ :: _, [], _, h, _, _ => by simp at h
  | a :: l, b :: m, c :: q, h1, h2, h3, h4 => by
    have ih := lx_trans (l := l) (m := m) (q := q) (by simpa using h1) (by simpa using h2)
    unfold lx at h3 h4 ⊢
    by_cases e : a = b
    · subst e
      rw [if_pos (sgn_self a)] at h3
      split
      · rename_i g; rw [if_pos g] at h4; exact ih h3 h4
      · rename_i g; rw [if_neg g] at h4; exact h4
    · rw [if_neg fun h => e (sgn_zero.1 h)] at h3
      by_cases e2 : b = c
      · subst e2
        rw [if_neg fun h => e (sgn_zero.1 h)]; exact h3
      · rw [if_neg fun h => e2 (sgn_zero.1 h)] at h4
        have k1 : a < b := by unfold sgn at h3; split at h3 <;> (try split at h3) <;> omega
        have k2 : b < c := by unfold sgn at h4; split at h4 <;> (try split at h4) <;> omega
        have : sgn a c = -1 := by unfold sgn; rw [if_pos (by omega)]
        rw [this, if_neg (by decide)]; decide
theorem lx_app : ∀ {l m : List Int} (l2 m2 : List Int), l.length = m.length → lx (l ++ l2) (m ++ m2) = if lx l m = 0 then lx l2 m2 else lx l m
  | [], [], _, _, _ => by simp [lx]
  | [], _ :: _, _, _, h => by simp at h
  | _ :: _, [], _, _, h => by simp at h
  | a :: l, b :: m, l2, m2, h => by
    have ih := lx_app (l := l) (m := m) l2 m2 (by simpa using h)
    simp only [List.cons_append, lx]
    split
    · exact ih
    · rfl
def b2i (b : Bool) : Int := if b then 1 else 0
theorem b2i_inj {a b : Bool} (h : b2i a = b2i b) : a = b := by cases a <;> cases b <;> simp [b2i] at h ⊢
def esL (x : S60) : List Int := [x.a2, x.a3, x.a4, x.a5, x.a6, x.a7, x.a8, x.a9, x.a10, x.a11]
/-- The numbers by which keys are compared. -/
def kv (x : S60) : List Int := [x.a0, x.a1] ++ (esL x ++ [x.a12, x.a13, b2i x.a15, x.a14, x.a16, x.a17, x.a18])
theorem kv_len (x : S60) : (kv x).length = 19 := rfl
def keyS (x : S60) : S60 := if x.a0 = 5 then { x with a2 := 0, a3 := 0, a4 := 0, a5 := 0, a6 := 0, a7 := 0, a8 := 0, a9 := 0, a10 := 0, a11 := 0, a18 := 0, a19 := 0, a20 := 0 } else if x.a0 = 2 then { x with a2 := 0, a3 := 0, a4 := 0, a5 := 0, a6 := 0, a7 := 0, a8 := 0, a9 := 0, a10 := 0, a11 := 0, a19 := 0, a20 := 0 } else { x with a19 := 0, a20 := 0 }
def nlC (x y : S60) : Int := lx (kv (keyS x)) (kv (keyS y))
def orC (x y : S60) : Int := orL [sgn x.a0 y.a0, sgn x.a1 y.a1, lx (esL x) (esL y), sgn x.a12 y.a12, sgn x.a13 y.a13, sgn (b2i x.a15) (b2i y.a15), sgn x.a14 y.a14, sgn x.a16 y.a16, sgn x.a17 y.a17, sgn x.a18 y.a18]
theorem orC_eq (x y : S60) : orC x y = lx (kv x) (kv y) := by
  unfold kv
  rw [List.cons_append, List.cons_append, List.cons_append, List.cons_append, List.nil_append, List.nil_append]
  unfold orC
  rw [lx, lx, lx_app _ _ (show (esL x).length = (esL y).length from rfl)]
  simp only [orL, lx]
  repeat' (split; · skip)
  all_goals simp_all
theorem keyS_lab (x : S60) : (keyS x).a19 = 0 ∧ (keyS x).a20 = 0 := by unfold keyS; split <;> (try split) <;> exact ⟨rfl, rfl⟩
theorem keyS_a0 (x : S60) : (keyS x).a0 = x.a0 := by unfold keyS; split <;> (try split) <;> rfl
theorem keyS_a1 (x : S60) : (keyS x).a1 = x.a1 := by unfold keyS; split <;> (try split) <;> rfl
theorem keyS_key (x : S60) : keyS (keyS x) = keyS x := by
  by_cases h5 : x.a0 = 5
  · have : keyS x = _ := if_pos h5
    rw [this]; unfold keyS; rw [if_pos h5]
  · by_cases h2 : x.a0 = 2
    · have : keyS x = _ := (if_neg h5).trans (if_pos h2)
      rw [this]; unfold keyS; rw [if_neg h5, if_pos h2]
    · have : keyS x = _ := (if_neg h5).trans (if_neg h2)
      rw [this]; unfold keyS; rw [if_neg h5, if_neg h2]
theorem keyS_labels (x : S60) (l m : Int) : keyS { x with a19 := l, a20 := m } = keyS x := by unfold keyS; rfl
theorem kv_inj {x y : S60} (h : kv x = kv y) (h19 : x.a19 = y.a19) (h20 : x.a20 = y.a20) : x = y := by
  obtain ⟨_, _, _, _, _, _, _, _, _, _, _, _, _, _, _, _, _, _, _, _, _⟩ := x
  obtain ⟨_, _, _, _, _, _, _, _, _, _, _, _, _, _, _, _, _, _, _, _, _⟩ := y
  simp only [kv, esL, List.cons_append, List.nil_append, List.cons.injEq] at h
  simp only [S60.mk.injEq]
  simp only at h19 h20
  obtain ⟨_, _, _, _, _, _, _, _, _, _, _, _, _, _, hb, _⟩ := h
  have := b2i_inj hb
  simp_all
theorem nlC_zero {x y : S60} : nlC x y = 0 ↔ keyS x = keyS y := by
  unfold nlC
  rw [lx_zero (by rw [kv_len, kv_len])]
  refine ⟨fun h => kv_inj h ?_ ?_, fun h => by rw [h]⟩
  · rw [(keyS_lab x).1, (keyS_lab y).1]
  · rw [(keyS_lab x).2, (keyS_lab y).2]
theorem leafN {k k' : IntKind} {a b : Int} : leafEq (.int k a) (.int k' b) = (a == b) := rfl
theorem leafT {a b : Bool} : leafEq (.bool a) (.bool b) = (a == b) := rfl
theorem leaf60 (s : S60) : leafsEq (en60 s) (en60 s) = true := by
  unfold en60
  simp only [leafsEq, leafN, leafT]
  simp
theorem leaf60_eq {x y : S60} (h : leafsEq (en60 x) (en60 y) = true) : x = y := by
  obtain ⟨_, _, _, _, _, _, _, _, _, _, _, _, _, _, _, _, _, _, _, _, _⟩ := x
  obtain ⟨_, _, _, _, _, _, _, _, _, _, _, _, _, _, _, _, _, _, _, _, _⟩ := y
  unfold en60 at h
  simp only [leafsEq, leafN, leafT, Bool.and_eq_true, beq_iff_eq] at h
  simp only [S60.mk.injEq]
  obtain ⟨h0, h1, h2, h3, h4, h5, h6, h7, h8, h9, h10, h11, h12, h13, h14, h15, h16, h17, h18, h19, h20, _⟩ := h
  exact ⟨h0, h1, h2, h3, h4, h5, h6, h7, h8, h9, h10, h11, h12, h13, h14, h15, h16, h17, h18, h19, h20⟩
theorem leaf60_ne {x y : S60} (h : x ≠ y) : leafsEq (en60 x) (en60 y) = false := by
  cases e : leafsEq (en60 x) (en60 y) with
  | false => rfl
  | true => exact absurd (leaf60_eq e) h
end Go.Proofs.Ythcohphflhkceaa.Abs

/- Copies of lists in a route's attributes (printed by genro.py). -/
namespace Go.Proofs.Ythcohphflhkceaa.Abs
open Go
set_option linter.unusedVariables false
def enU (x : Int) : List Value := [.int .u32 x]
theorem enU_len (x : Int) : (enU x).length = 1 := rfl
theorem enU_one (x : Int) : (enU x).all Value.oneCell' = true := rfl
/-- A community: eight bytes. -/
structure C8 where
  b0 : Int
  b1 : Int
  b2 : Int
  b3 : Int
  b4 : Int
  b5 : Int
  b6 : Int
  b7 : Int
def enC (x : C8) : List Value := [.int .u8 x.b0, .int .u8 x.b1, .int .u8 x.b2, .int .u8 x.b3, .int .u8 x.b4, .int .u8 x.b5, .int .u8 x.b6, .int .u8 x.b7]
theorem enC_len (x : C8) : (enC x).length = 8 := rfl
theorem enC_one (x : C8) : (enC x).all Value.oneCell' = true := rfl
section
variable {B0 : Nat} {old : Nat → Option (List Value)} {n : Nat} {H : Hp} {Q : Value → Hp → Prop}
set_option maxRecDepth 10000
set_option maxHeartbeats 4000000
theorem clone64_ct {ad : Option Addr} {c : Nat} {L : List Int} (hA : ArrW (cx B0 old) H ad 1 enU L) (hl : L.length ≤ 2000) (hQ : ∀ v G, Own enU 1 L v G → Q v (G ++ H)) : CallT (cx B0 old) (acall (cx B0 old) ansP (n + 1)) 64 [.slice ad L.length c] H Q := by
  refine call_in1 8 rfl Try.func64 rfl rfl ?_
  cases ad with
  | none =>
    cases L with
    | cons x L1 =>
      obtain ⟨b, o, cs, e, _⟩ := hA.els (by simp)
      cases e
    | nil =>
      repeat (refine ZX ?_; try with_reducible intro _)
      exact re_1 rfl rfl (List.Sublist.refl _) (hQ _ [] .nil)
  | some a =>
    repeat (refine ZX ?_; try with_reducible intro _)
    refine rt_step rfl rfl rfl (st_appO (M := L) (c := c) (pre := []) (Hs := [_]) (Own.emp _ _) enU_len enU_one rfl rfl (ap rfl) (hA.weak (List.sublist_cons_self _ _)) (Nat.le_trans (Nat.mul_le_mul_right _ (show 2 * (([] : List Int).length + L.length) + 192 ≤ 6000 by rw [List.length_nil]; omega)) (by decide)) fun v3 H3 ho3 => ?_)
    repeat (refine ZX ?_; try with_reducible intro _)
    exact re_1 rfl rfl (List.Sublist.refl _) (hQ _ _ ho3)
theorem own31_ct {ad : Option Addr} {c : Nat} {L : List Int} (hA : ArrW (cx B0 old) H ad 1 enU L) (hl : L.length ≤ 2000) (hQ : ∀ v G, Own enU 1 L v G → Q v (G ++ H)) : CallT (cx B0 old) (acall (cx B0 old) ansP (n + 1)) 31 [.slice ad L.length c] H Q := by
  refine call_in1 6 rfl Try.func31 rfl rfl ?_
  repeat (refine ZX ?_; try with_reducible intro _)
  refine rt_step rfl rfl rfl (st_appO (M := L) (c := c) (pre := []) (Hs := [_]) (Own.emp _ _) enU_len enU_one rfl rfl (ap rfl) (hA.weak (List.sublist_cons_self _ _)) (Nat.le_trans (Nat.mul_le_mul_right _ (show 2 * (([] : List Int).length + L.length) + 192 ≤ 6000 by rw [List.length_nil]; omega)) (by decide)) fun v3 H3 ho3 => ?_)
  repeat (refine ZX ?_; try with_reducible intro _)
  exact re_1 rfl rfl (List.Sublist.refl _) (hQ _ _ ho3)
theorem clone65_ct {ad : Option Addr} {c : Nat} {L : List Int} (hA : ArrW (cx B0 old) H ad 1 enU L) (hl : L.length ≤ 2000) (hQ : ∀ v G, Own enU 1 L v G → Q v (G ++ H)) : CallT (cx B0 old) (acall (cx B0 old) ansP (n + 1)) 65 [.slice ad L.length c] H Q := by
  refine call_in1 8 rfl Try.func65 rfl rfl ?_
  cases ad with
  | none =>
    cases L with
    | cons x L1 =>
      obtain ⟨b, o, cs, e, _⟩ := hA.els (by simp)
      cases e
    | nil =>
      repeat (refine ZX ?_; try with_reducible intro _)
      exact re_1 rfl rfl (List.Sublist.refl _) (hQ _ [] .nil)
  | some a =>
    repeat (refine ZX ?_; try with_reducible intro _)
    refine rt_step rfl rfl rfl (st_appO (M := L) (c := c) (pre := []) (Hs := [_]) (Own.emp _ _) enU_len enU_one rfl rfl (ap rfl) (hA.weak (List.sublist_cons_self _ _)) (Nat.le_trans (Nat.mul_le_mul_right _ (show 2 * (([] : List Int).length + L.length) + 192 ≤ 6000 by rw [List.length_nil]; omega)) (by decide)) fun v3 H3 ho3 => ?_)
    repeat (refine ZX ?_; try with_reducible intro _)
    exact re_1 rfl rfl (List.Sublist.refl _) (hQ _ _ ho3)
theorem own32_ct {ad : Option Addr} {c : Nat} {L : List Int} (hA : ArrW (cx B0 old) H ad 1 enU L) (hl : L.length ≤ 2000) (hQ : ∀ v G, Own enU 1 L v G → Q v (G ++ H)) : CallT (cx B0 old) (acall (cx B0 old) ansP (n + 1)) 32 [.slice ad L.length c] H Q := by
  refine call_in1 6 rfl Try.func32 rfl rfl ?_
  repeat (refine ZX ?_; try with_reducible intro _)
  refine rt_step rfl rfl rfl (st_appO (M := L) (c := c) (pre := []) (Hs := [_]) (Own.emp _ _) enU_len enU_one rfl rfl (ap rfl) (hA.weak (List.sublist_cons_self _ _)) (Nat.le_trans (Nat.mul_le_mul_right _ (show 2 * (([] : List Int).length + L.length) + 192 ≤ 6000 by rw [List.length_nil]; omega)) (by decide)) fun v3 H3 ho3 => ?_)
  repeat (refine ZX ?_; try with_reducible intro _)
  exact re_1 rfl rfl (List.Sublist.refl _) (hQ _ _ ho3)
theorem clone66_ct {ad : Option Addr} {c : Nat} {L : List C8} (hA : ArrW (cx B0 old) H ad 8 enC L) (hl : L.length ≤ 2000) (hQ : ∀ v G, Own enC 8 L v G → Q v (G ++ H)) : CallT (cx B0 old) (acall (cx B0 old) ansP (n + 1)) 66 [.slice ad L.length c] H Q := by
  refine call_in1 8 rfl Try.func66 rfl rfl ?_
  cases ad with
  | none =>
    cases L with
    | cons x L1 =>
      obtain ⟨b, o, cs, e, _⟩ := hA.els (by simp)
      cases e
    | nil =>
      repeat (refine ZX ?_; try with_reducible intro _)
      exact re_1 rfl rfl (List.Sublist.refl _) (hQ _ [] .nil)
  | some a =>
    repeat (refine ZX ?_; try with_reducible intro _)
    refine rt_step rfl rfl rfl (st_appO (M := L) (c := c) (pre := []) (Hs := [_]) (Own.emp _ _) enC_len enC_one rfl rfl (ap rfl) (hA.weak (List.sublist_cons_self _ _)) (Nat.le_trans (Nat.mul_le_mul_right _ (show 2 * (([] : List C8).length + L.length) + 192 ≤ 6000 by rw [List.length_nil]; omega)) (by decide)) fun v3 H3 ho3 => ?_)
    repeat (refine ZX ?_; try with_reducible intro _)
    exact re_1 rfl rfl (List.Sublist.refl _) (hQ _ _ ho3)
theorem own79_ct {ad : Option Addr} {c : Nat} {L : List C8} (hA : ArrW (cx B0 old) H ad 8 enC L) (hl : L.length ≤ 2000) (hQ : ∀ v G, Own enC 8 L v G → Q v (G ++ H)) : CallT (cx B0 old) (acall (cx B0 old) ansP (n + 1)) 79 [.slice ad L.length c] H Q := by
  refine call_in1 6 rfl Try.func79 rfl rfl ?_
  repeat (refine ZX ?_; try with_reducible intro _)
  refine rt_step rfl rfl rfl (st_appO (M := L) (c := c) (pre := []) (Hs := [_]) (Own.emp _ _) enC_len enC_one rfl rfl (ap rfl) (hA.weak (List.sublist_cons_self _ _)) (Nat.le_trans (Nat.mul_le_mul_right _ (show 2 * (([] : List C8).length + L.length) + 192 ≤ 6000 by rw [List.length_nil]; omega)) (by decide)) fun v3 H3 ho3 => ?_)
  repeat (refine ZX ?_; try with_reducible intro _)
  exact re_1 rfl rfl (List.Sublist.refl _) (hQ _ _ ho3)
end
end Go.Proofs.Ythcohphflhkceaa.Abs

/- Lists of a route's attributes compared (printed by genro1.py). -/
namespace Go.Proofs.Ythcohphflhkceaa.Abs
open Go
set_option linter.unusedVariables false
theorem leafU (a b : Int) : leafsEq (enU a) (enU b) = decide (a = b) := by
  simp only [leafsEq, leafEq, enU]
  by_cases h : a = b <;> simp [h]
theorem C8_ext {a b : C8} (h0 : a.b0 = b.b0) (h1 : a.b1 = b.b1) (h2 : a.b2 = b.b2) (h3 : a.b3 = b.b3) (h4 : a.b4 = b.b4) (h5 : a.b5 = b.b5) (h6 : a.b6 = b.b6) (h7 : a.b7 = b.b7) : a = b := by
  obtain ⟨a0, a1, a2, a3, a4, a5, a6, a7⟩ := a
  obtain ⟨b0, b1, b2, b3, b4, b5, b6, b7⟩ := b
  dsimp only at *
  subst h0 h1 h2 h3 h4 h5 h6 h7
  rfl
theorem leafC_eq (a : C8) : leafsEq (enC a) (enC a) = true := by simp [leafsEq, leafEq, enC]
theorem leafC_ne {a b : C8} (h : a ≠ b) : leafsEq (enC a) (enC b) = false := by
  cases e : leafsEq (enC a) (enC b) with
  | false => rfl
  | true =>
    simp only [leafsEq, leafEq, enC, Bool.and_true, Bool.and_eq_true, beq_iff_eq] at e
    exact absurd (C8_ext (by simp_all) (by simp_all) (by simp_all) (by simp_all) (by simp_all) (by simp_all) (by simp_all) (by simp_all)) h
theorem eq_take {α : Type} {L M : List α} {i : Nat} {x : α} (h : L.take i = M.take i) (hx : L[i]? = some x) (hy : M[i]? = some x) : L.take (i + 1) = M.take (i + 1) := by
  rw [List.take_add_one, List.take_add_one, h, hx, hy]
section
variable {B0 : Nat} {old : Nat → Option (List Value)} {n : Nat} {H : Hp} {Q : Value → Hp → Prop}
set_option maxRecDepth 10000
set_option maxHeartbeats 4000000
theorem same51_ct {ad ad2 : Option Addr} {c c2 : Nat} {L M : List Int} (h1 : Arr (cx B0 old) H ad 1 enU L) (h2 : Arr (cx B0 old) H ad2 1 enU M) (hl : L.length ≤ 100000) (hyes : L = M → Q (.bool true) H) (hno : L ≠ M → Q (.bool false) H) :
    CallT (cx B0 old) (acall (cx B0 old) ansP (n + 1)) 51 [.slice ad L.length c, .slice ad2 M.length c2] H Q := by
  refine call_in2 26 rfl Try.func51 rfl rfl ?_
  repeat (refine ZX ?_; try with_reducible intro _)
  by_cases hlen : L.length = M.length
  rotate_left
  · rw [show ((L.length : Int) != (M.length : Int)) = true from bne_iff_ne.2 (by omega)]
    repeat (refine ZX ?_; try with_reducible intro _)
    exact re_1 rfl rfl (List.Sublist.refl _) (hno fun e => hlen (by rw [e]))
  rw [show ((L.length : Int) != (M.length : Int)) = false by rw [hlen]; exact bne_self_eq_false _]
  repeat (refine ZX ?_; try with_reducible intro _)
  refine loop_ind (ι := Nat) 0 (fun i => L.length - i) (fun i => i ≤ L.length ∧ L.take i = M.take i) (fun i => [(5, .int .i64 (i : Int)), (0, .slice ad L.length c), (1, .slice ad2 M.length c2)]) (fun _ => H) ⟨Nat.zero_le _, rfl⟩ (by repeat (first | exact SubL.nil | refine SubL.cons rfl ?_)) (by exact drop_auto) ?_
  rintro i ⟨hi, htk⟩
  repeat (refine ZX ?_; try with_reducible intro _)
  refine ct_condT te_d rfl (fun hc => ?_) (fun hc => ?_)
  · obtain ⟨x, hx⟩ : ∃ x, L[i]? = some x := ⟨_, List.getElem?_eq_getElem (by omega)⟩
    obtain ⟨y, hy⟩ : ∃ y, M[i]? = some y := ⟨_, List.getElem?_eq_getElem (by omega)⟩
    obtain ⟨b1, o1, e1, hL0⟩ := h1.ldF 25 0 hx rfl rfl rfl (sz rfl)
    obtain ⟨b2, o2, e2, hL1⟩ := h2.ldF 25 0 hy rfl rfl rfl (sz rfl)
    subst e1
    subst e2
    repeat (refine ZX ?_; try with_reducible intro _)
    refine ct_draw (masks := [0, 0, 3, 7, 0, 0, 48, 112, 255]) (plan := [0, 1, 2, 3, 4, 5, 6, 7, 8]) (E := []) (by kernel_rfl) (by kernel_rfl) (by kernel_rfl) (by kernel_rfl) ?_
    repeat (refine YX ?_)
    by_cases hxy : x = y
    · subst hxy
      rw [show (x != x) = false from bne_self_eq_false x]
      repeat (refine YX ?_)
      repeat (refine ZX ?_; try with_reducible intro _)
      exact ⟨i + 1, ⟨by omega, eq_take htk hx hy⟩, by omega, by repeat (first | exact SubL.nil | refine SubL.cons rfl ?_), by exact drop_auto⟩
    · rw [show (x != y) = true from bne_iff_ne.2 hxy]
      repeat (refine YX ?_)
      repeat (refine ZX ?_; try with_reducible intro _)
      exact re_1 rfl rfl (by exact drop_auto) (hno fun e => hxy (by rw [e] at hx; exact Option.some.inj (hx.symm.trans hy)))
  · obtain rfl : i = L.length := by omega
    rw [List.take_length, List.take_of_length_le (by omega)] at htk
    repeat (refine ZX ?_; try with_reducible intro _)
    exact re_1 rfl rfl (by exact drop_auto) (hyes htk)
theorem same52_ct {ad ad2 : Option Addr} {c c2 : Nat} {L M : List Int} (h1 : Arr (cx B0 old) H ad 1 enU L) (h2 : Arr (cx B0 old) H ad2 1 enU M) (hl : L.length ≤ 100000) (hyes : L = M → Q (.bool true) H) (hno : L ≠ M → Q (.bool false) H) :
    CallT (cx B0 old) (acall (cx B0 old) ansP (n + 1)) 52 [.slice ad L.length c, .slice ad2 M.length c2] H Q := by
  refine call_in2 26 rfl Try.func52 rfl rfl ?_
  repeat (refine ZX ?_; try with_reducible intro _)
  by_cases hlen : L.length = M.length
  rotate_left
  · rw [show ((L.length : Int) != (M.length : Int)) = true from bne_iff_ne.2 (by omega)]
    repeat (refine ZX ?_; try with_reducible intro _)
    exact re_1 rfl rfl (List.Sublist.refl _) (hno fun e => hlen (by rw [e]))
  rw [show ((L.length : Int) != (M.length : Int)) = false by rw [hlen]; exact bne_self_eq_false _]
  repeat (refine ZX ?_; try with_reducible intro _)
  refine loop_ind (ι := Nat) 0 (fun i => L.length - i) (fun i => i ≤ L.length ∧ L.take i = M.take i) (fun i => [(5, .int .i64 (i : Int)), (0, .slice ad L.length c), (1, .slice ad2 M.length c2)]) (fun _ => H) ⟨Nat.zero_le _, rfl⟩ (by repeat (first | exact SubL.nil | refine SubL.cons rfl ?_)) (by exact drop_auto) ?_
  rintro i ⟨hi, htk⟩
  repeat (refine ZX ?_; try with_reducible intro _)
  refine ct_condT te_d rfl (fun hc => ?_) (fun hc => ?_)
  · obtain ⟨x, hx⟩ : ∃ x, L[i]? = some x := ⟨_, List.getElem?_eq_getElem (by omega)⟩
    obtain ⟨y, hy⟩ : ∃ y, M[i]? = some y := ⟨_, List.getElem?_eq_getElem (by omega)⟩
    obtain ⟨b1, o1, e1, hL0⟩ := h1.ldF 27 0 hx rfl rfl rfl (sz rfl)
    obtain ⟨b2, o2, e2, hL1⟩ := h2.ldF 27 0 hy rfl rfl rfl (sz rfl)
    subst e1
    subst e2
    repeat (refine ZX ?_; try with_reducible intro _)
    refine ct_draw (masks := [0, 0, 3, 7, 0, 0, 48, 112, 255]) (plan := [0, 1, 2, 3, 4, 5, 6, 7, 8]) (E := []) (by kernel_rfl) (by kernel_rfl) (by kernel_rfl) (by kernel_rfl) ?_
    repeat (refine YX ?_)
    by_cases hxy : x = y
    · subst hxy
      rw [show (x != x) = false from bne_self_eq_false x]
      repeat (refine YX ?_)
      repeat (refine ZX ?_; try with_reducible intro _)
      exact ⟨i + 1, ⟨by omega, eq_take htk hx hy⟩, by omega, by repeat (first | exact SubL.nil | refine SubL.cons rfl ?_), by exact drop_auto⟩
    · rw [show (x != y) = true from bne_iff_ne.2 hxy]
      repeat (refine YX ?_)
      repeat (refine ZX ?_; try with_reducible intro _)
      exact re_1 rfl rfl (by exact drop_auto) (hno fun e => hxy (by rw [e] at hx; exact Option.some.inj (hx.symm.trans hy)))
  · obtain rfl : i = L.length := by omega
    rw [List.take_length, List.take_of_length_le (by omega)] at htk
    repeat (refine ZX ?_; try with_reducible intro _)
    exact re_1 rfl rfl (by exact drop_auto) (hyes htk)
theorem same53_ct {ad ad2 : Option Addr} {c c2 : Nat} {L M : List C8} (h1 : Arr (cx B0 old) H ad 8 enC L) (h2 : Arr (cx B0 old) H ad2 8 enC M) (hl : L.length ≤ 100000) (hyes : L = M → Q (.bool true) H) (hno : L ≠ M → Q (.bool false) H) :
    CallT (cx B0 old) (acall (cx B0 old) ansP (n + 1)) 53 [.slice ad L.length c, .slice ad2 M.length c2] H Q := by
  refine call_in2 26 rfl Try.func53 rfl rfl ?_
  repeat (refine ZX ?_; try with_reducible intro _)
  by_cases hlen : L.length = M.length
  rotate_left
  · rw [show ((L.length : Int) != (M.length : Int)) = true from bne_iff_ne.2 (by omega)]
    repeat (refine ZX ?_; try with_reducible intro _)
    exact re_1 rfl rfl (List.Sublist.refl _) (hno fun e => hlen (by rw [e]))
  rw [show ((L.length : Int) != (M.length : Int)) = false by rw [hlen]; exact bne_self_eq_false _]
  repeat (refine ZX ?_; try with_reducible intro _)
  refine loop_ind (ι := Nat) 0 (fun i => L.length - i) (fun i => i ≤ L.length ∧ L.take i = M.take i) (fun i => [(5, .int .i64 (i : Int)), (0, .slice ad L.length c), (1, .slice ad2 M.length c2)]) (fun _ => H) ⟨Nat.zero_le _, rfl⟩ (by repeat (first | exact SubL.nil | refine SubL.cons rfl ?_)) (by exact drop_auto) ?_
  rintro i ⟨hi, htk⟩
  repeat (refine ZX ?_; try with_reducible intro _)
  refine ct_condT te_d rfl (fun hc => ?_) (fun hc => ?_)
  · obtain ⟨x, hx⟩ : ∃ x, L[i]? = some x := ⟨_, List.getElem?_eq_getElem (by omega)⟩
    obtain ⟨y, hy⟩ : ∃ y, M[i]? = some y := ⟨_, List.getElem?_eq_getElem (by omega)⟩
    obtain ⟨b1, o1, e1, hL0⟩ := h1.ldW 94 hx rfl (sz rfl)
    obtain ⟨b2, o2, e2, hL1⟩ := h2.ldW 94 hy rfl (sz rfl)
    subst e1
    subst e2
    by_cases hxy : x = y
    · subst hxy
      have hs := leafC_eq x
      unfold enC at hL0 hL1 hs
      repeat (refine ZX ?_; try with_reducible intro _)
      refine ct_draw (masks := [0, 0, 3, 7, 0, 0, 48, 112, 255]) (plan := [0, 1, 2, 3, 4, 5, 6, 7, 8]) (E := []) (by kernel_rfl) (by kernel_rfl) (by kernel_rfl) (by kernel_rfl) ?_
      repeat (refine YX ?_)
      rw [hs]
      repeat (refine YX ?_)
      repeat (refine ZX ?_; try with_reducible intro _)
      exact ⟨i + 1, ⟨by omega, eq_take htk hx hy⟩, by omega, by repeat (first | exact SubL.nil | refine SubL.cons rfl ?_), by exact drop_auto⟩
    · have hs := leafC_ne hxy
      unfold enC at hL0 hL1 hs
      repeat (refine ZX ?_; try with_reducible intro _)
      refine ct_draw (masks := [0, 0, 3, 7, 0, 0, 48, 112, 255]) (plan := [0, 1, 2, 3, 4, 5, 6, 7, 8]) (E := []) (by kernel_rfl) (by kernel_rfl) (by kernel_rfl) (by kernel_rfl) ?_
      repeat (refine YX ?_)
      rw [hs]
      repeat (refine YX ?_)
      repeat (refine ZX ?_; try with_reducible intro _)
      exact re_1 rfl rfl (by exact drop_auto) (hno fun e => hxy (by rw [e] at hx; exact Option.some.inj (hx.symm.trans hy)))
  · obtain rfl : i = L.length := by omega
    rw [List.take_length, List.take_of_length_le (by omega)] at htk
    repeat (refine ZX ?_; try with_reducible intro _)
    exact re_1 rfl rfl (by exact drop_auto) (hyes htk)
end
end Go.Proofs.Ythcohphflhkceaa.Abs

/- Routes and their copies (printed by genro2.py). -/
namespace Go.Proofs.Ythcohphflhkceaa.Abs
open Go
set_option linter.unusedVariables false
structure RtA where
  o : Int
  path : List Int
  next : Int
  hm : Bool
  med : Int
  hp : Bool
  pref : Int
  hor : Bool
  orig : Int
  clus : List Int
  comms : List C8
  t0 : Int
  t1 : Int
  t2 : Int
  t3 : Int
structure Rt where
  n : S60
  a : RtA
  peer : Int
  stale : Bool
def enA (a : RtA) (vp vc vm : Value) : List Value := [.int .i64 a.o, vp, .int .u32 a.next, .bool a.hm, .int .u32 a.med, .bool a.hp, .int .u32 a.pref, .bool a.hor, .int .u32 a.orig, vc, vm, .int .i64 a.t0, .int .u32 a.t1, .int .u32 a.t2, .int .u32 a.t3]
def enR (r : Rt) (vp vc vm : Value) : List Value := [.int .i64 r.n.a0, .int .u64 r.n.a1, .int .u8 r.n.a2, .int .u8 r.n.a3, .int .u8 r.n.a4, .int .u8 r.n.a5, .int .u8 r.n.a6, .int .u8 r.n.a7, .int .u8 r.n.a8, .int .u8 r.n.a9, .int .u8 r.n.a10, .int .u8 r.n.a11, .int .u32 r.n.a12, .int .u64 r.n.a13, .int .u32 r.n.a14, .bool r.n.a15, .int .u32 r.n.a16, .int .i64 r.n.a17, .int .u32 r.n.a18, .int .u32 r.n.a19, .int .u32 r.n.a20, .int .i64 r.a.o, vp, .int .u32 r.a.next, .bool r.a.hm, .int .u32 r.a.med, .bool r.a.hp, .int .u32 r.a.pref, .bool r.a.hor, .int .u32 r.a.orig, vc, vm, .int .i64 r.a.t0, .int .u32 r.a.t1, .int .u32 r.a.t2, .int .u32 r.a.t3, .int .u32 r.peer, .bool r.stale]
def RtA.light (a : RtA) : Prop := a.path.length ≤ 2000 ∧ a.clus.length ≤ 2000 ∧ a.comms.length ≤ 2000
section
variable {B0 : Nat} {old : Nat → Option (List Value)} {n : Nat} {H : Hp} {Q : Value → Hp → Prop} {ap ac am : Option Addr} {cp cc cm : Nat}
set_option maxRecDepth 10000
set_option maxHeartbeats 8000000
theorem clone40_ct (r : Rt) (hl : r.a.light) (hp : ArrW (cx B0 old) H ap 1 enU r.a.path) (hc : ArrW (cx B0 old) H ac 1 enU r.a.clus) (hm : ArrW (cx B0 old) H am 8 enC r.a.comms)
    (hQ : ∀ vp G1 vc G2 vm G3, Own enU 1 r.a.path vp G1 → Own enU 1 r.a.clus vc G2 → Own enC 8 r.a.comms vm G3 → Q (.agg ⟨enR r vp vc vm⟩) (G3 ++ (G2 ++ (G1 ++ H)))) :
    CallT (cx B0 old) (acall (cx B0 old) ansP (n + 2)) 40 [.agg ⟨enR r (.slice ap r.a.path.length cp) (.slice ac r.a.clus.length cc) (.slice am r.a.comms.length cm)⟩] H Q := by
  refine call_in1 22 rfl Try.func40 rfl rfl ?_
  obtain ⟨hl1, hl2, hl3⟩ := hl
  unfold enR at *
  repeat (refine ZX ?_; try with_reducible intro _)
  refine rt_step rfl rfl rfl (st_call rfl rfl rfl rfl (clone64_ct (hp.weak (by exact drop_auto)) hl1 fun v1 G1 o1 => ?_))
  obtain ⟨a1, c1, e1, _⟩ := o1.arrW (C := cx B0 old) enU_len
  subst e1
  repeat (refine ZX ?_; try with_reducible intro _)
  refine rt_step rfl rfl rfl (st_call rfl rfl rfl rfl (clone65_ct (hc.weak (by exact drop_auto)) hl2 fun v2 G2 o2 => ?_))
  obtain ⟨a2, c2, e2, _⟩ := o2.arrW (C := cx B0 old) enU_len
  subst e2
  repeat (refine ZX ?_; try with_reducible intro _)
  refine rt_step rfl rfl rfl (st_call rfl rfl rfl rfl (clone66_ct (hm.weak (by exact drop_auto)) hl3 fun v3 G3 o3 => ?_))
  obtain ⟨a3, c3, e3, _⟩ := o3.arrW (C := cx B0 old) enC_len
  subst e3
  repeat (refine ZX ?_; try with_reducible intro _)
  exact re_c1 rfl rfl (.own _ _ (by exact in_auto)) rfl (sz rfl) rfl (by exact drop_auto) (hQ _ G1 _ G2 _ G3 o1 o2 o3)
theorem own67_ct (w : RtA) (hl : w.light) (hp : ArrW (cx B0 old) H ap 1 enU w.path) (hc : ArrW (cx B0 old) H ac 1 enU w.clus) (hm : ArrW (cx B0 old) H am 8 enC w.comms)
    (hQ : ∀ vp G1 vc G2 vm G3, Own enU 1 w.path vp G1 → Own enU 1 w.clus vc G2 → Own enC 8 w.comms vm G3 → Q (.agg ⟨enA w vp vc vm⟩) (G3 ++ (G2 ++ (G1 ++ H)))) :
    CallT (cx B0 old) (acall (cx B0 old) ansP (n + 2)) 67 [.agg ⟨enA w (.slice ap w.path.length cp) (.slice ac w.clus.length cc) (.slice am w.comms.length cm)⟩] H Q := by
  refine call_in1 16 rfl Try.func67 rfl rfl ?_
  obtain ⟨hl1, hl2, hl3⟩ := hl
  unfold enA at *
  repeat (refine ZX ?_; try with_reducible intro _)
  refine ct_draw (masks := [0, 1, 3, 0, 8, 31, 0, 64, 255, 223, 1023, 2047, 4095, 8191, 16383]) (plan := [0, 1, 3, 4, 6, 7, 2, 9, 5, 8, 10, 11, 12, 13, 14]) (E := []) (by kernel_rfl) (by kernel_rfl) (by kernel_rfl) (by kernel_rfl) ?_
  repeat (refine YX ?_)
  refine pl_S rfl rfl rfl rfl rfl rfl (st_call rfl rfl rfl rfl (own31_ct (hp.weak (by exact drop_auto)) hl1 fun v1 G1 o1 => ⟨by exact rec_auto, ?_⟩))
  obtain ⟨a1, c1, e1, _⟩ := o1.arrW (C := cx B0 old) enU_len
  subst e1
  repeat (refine YX ?_)
  refine pl_S rfl rfl rfl rfl rfl rfl (st_call rfl rfl rfl rfl (own32_ct (hc.weak (by exact drop_auto)) hl2 fun v2 G2 o2 => ⟨by exact rec_auto, ?_⟩))
  obtain ⟨a2, c2, e2, _⟩ := o2.arrW (C := cx B0 old) enU_len
  subst e2
  repeat (refine YX ?_)
  refine pl_S rfl rfl rfl rfl rfl rfl (st_call rfl rfl rfl rfl (own79_ct (hm.weak (by exact drop_auto)) hl3 fun v3 G3 o3 => ⟨by exact rec_auto, ?_⟩))
  obtain ⟨a3, c3, e3, _⟩ := o3.arrW (C := cx B0 old) enC_len
  subst e3
  repeat (refine YX ?_)
  refine y3 ?_
  repeat (refine YX ?_)
  refine y3 ?_
  repeat (refine YX ?_)
  refine y3 ?_
  repeat (refine YX ?_)
  repeat (refine ZX ?_; try with_reducible intro _)
  exact re_c1 rfl rfl (.own _ _ (by exact in_auto)) rfl (sz rfl) rfl (by exact drop_auto) (hQ _ G1 _ G2 _ G3 o1 o2 o3)
end
end Go.Proofs.Ythcohphflhkceaa.Abs

/- A route's own copy. -/
namespace Go.Proofs.Ythcohphflhkceaa.Abs
open Go
set_option linter.unusedVariables false
section
variable {B0 : Nat} {old : Nat → Option (List Value)} {n : Nat} {H : Hp} {Q : Value → Hp → Prop} {ap ac am : Option Addr} {cp cc cm : Nat}
set_option maxRecDepth 10000
set_option maxHeartbeats 8000000
theorem own41_ct (r : Rt) (hl : r.a.light) (hp : ArrW (cx B0 old) H ap 1 enU r.a.path) (hc : ArrW (cx B0 old) H ac 1 enU r.a.clus) (hm : ArrW (cx B0 old) H am 8 enC r.a.comms)
    (hQ : ∀ vp G1 vc G2 vm G3, Own enU 1 r.a.path vp G1 → Own enU 1 r.a.clus vc G2 → Own enC 8 r.a.comms vm G3 → Q (.agg ⟨enR r vp vc vm⟩) (G3 ++ (G2 ++ (G1 ++ H)))) :
    CallT (cx B0 old) (acall (cx B0 old) ansP (n + 3)) 41 [.agg ⟨enR r (.slice ap r.a.path.length cp) (.slice ac r.a.clus.length cc) (.slice am r.a.comms.length cm)⟩] H Q := by
  refine call_in1 8 rfl Try.func41 rfl rfl ?_
  unfold enR at *
  repeat (refine ZX ?_; try with_reducible intro _)
  refine rt_step rfl rfl rfl (st_call rfl rfl rfl rfl (own67_ct r.a hl (hp.weak (by exact drop_auto)) (hc.weak (by exact drop_auto)) (hm.weak (by exact drop_auto)) fun v1 G1 v2 G2 v3 G3 o1 o2 o3 => ?_))
  obtain ⟨a1, c1, e1, _⟩ := o1.arrW (C := cx B0 old) enU_len
  subst e1
  obtain ⟨a2, c2, e2, _⟩ := o2.arrW (C := cx B0 old) enU_len
  subst e2
  obtain ⟨a3, c3, e3, _⟩ := o3.arrW (C := cx B0 old) enC_len
  subst e3
  unfold enA
  repeat (refine ZX ?_; try with_reducible intro _)
  exact re_c1 rfl rfl (.own _ _ (by exact in_auto)) rfl (sz rfl) rfl (by exact drop_auto) (hQ _ G1 _ G2 _ G3 o1 o2 o3)
end
end Go.Proofs.Ythcohphflhkceaa.Abs

/- Routes that are read, their copies, and whether two are equal (printed by gensm.py). -/
namespace Go.Proofs.Ythcohphflhkceaa.Abs
open Go
set_option linter.unusedVariables false
/-- A route, and where its lists lie. -/
structure Rw where
  r : Rt
  ap : Option Addr
  cp : Nat
  ac : Option Addr
  cc : Nat
  am : Option Addr
  cm : Nat
def enW (x : Rw) : List Value := enR x.r (.slice x.ap x.r.a.path.length x.cp) (.slice x.ac x.r.a.clus.length x.cc) (.slice x.am x.r.a.comms.length x.cm)
def enWA (x : Rw) : List Value := enA x.r.a (.slice x.ap x.r.a.path.length x.cp) (.slice x.ac x.r.a.clus.length x.cc) (.slice x.am x.r.a.comms.length x.cm)
theorem enW_len (x : Rw) : (enW x).length = 38 := rfl
theorem enW_one (x : Rw) : (enW x).all Value.oneCell' = true := rfl
/-- Its lists are read. -/
structure Rd (C : Ctx) (H : Hp) (x : Rw) : Prop where
  p : ArrW C H x.ap 1 enU x.r.a.path
  c : ArrW C H x.ac 1 enU x.r.a.clus
  m : ArrW C H x.am 8 enC x.r.a.comms
theorem Rd.weak {C : Ctx} {H H' : Hp} {x : Rw} (h : Rd C H x) (hs : H.Sublist H') : Rd C H' x := ⟨h.p.weak hs, h.c.weak hs, h.m.weak hs⟩
theorem rd3 {C : Ctx} {r : Rt} {vp vc vm : Value} {G1 G2 G3 : Hp} (o1 : Own enU 1 r.a.path vp G1) (o2 : Own enU 1 r.a.clus vc G2) (o3 : Own enC 8 r.a.comms vm G3) : ∃ y : Rw, y.r = r ∧ Rd C (G3 ++ (G2 ++ G1)) y ∧ enW y = enR r vp vc vm := by
  obtain ⟨a1, c1, e1, w1⟩ := o1.arrW (C := C) enU_len
  obtain ⟨a2, c2, e2, w2⟩ := o2.arrW (C := C) enU_len
  obtain ⟨a3, c3, e3, w3⟩ := o3.arrW (C := C) enC_len
  subst e1; subst e2; subst e3
  refine ⟨⟨r, a1, c1, a2, c2, a3, c3⟩, rfl, ⟨?_, ?_, ?_⟩, rfl⟩
  · have := w1 (G3 ++ G2) []
    simpa using this
  · exact w2 G3 G1
  · exact w3 [] (G2 ++ G1)
theorem RtA_ext {a b : RtA} (h0 : a.o = b.o) (h1 : a.path = b.path) (h2 : a.next = b.next) (h3 : a.hm = b.hm) (h4 : a.med = b.med) (h5 : a.hp = b.hp) (h6 : a.pref = b.pref) (h7 : a.hor = b.hor) (h8 : a.orig = b.orig) (h9 : a.clus = b.clus) (h10 : a.comms = b.comms) (h11 : a.t0 = b.t0) (h12 : a.t1 = b.t1) (h13 : a.t2 = b.t2) (h14 : a.t3 = b.t3) : a = b := by
  cases a; cases b; simp only at h0 h1 h2 h3 h4 h5 h6 h7 h8 h9 h10 h11 h12 h13 h14; subst h0; subst h1; subst h2; subst h3; subst h4; subst h5; subst h6; subst h7; subst h8; subst h9; subst h10; subst h11; subst h12; subst h13; subst h14; rfl
theorem Rt_ext {a b : Rt} (h0 : a.n = b.n) (h1 : a.a = b.a) (h2 : a.peer = b.peer) (h3 : a.stale = b.stale) : a = b := by
  cases a; cases b; simp only at h0 h1 h2 h3; subst h0; subst h1; subst h2; subst h3; rfl
section
variable {B0 : Nat} {old : Nat → Option (List Value)} {n : Nat} {H : Hp} {Q : Value → Hp → Prop}
theorem clone40W (x : Rw) (hl : x.r.a.light) (hx : Rd (cx B0 old) H x) (hQ : ∀ y G, y.r = x.r → Rd (cx B0 old) G y → Q (.agg ⟨enW y⟩) (G ++ H)) : CallT (cx B0 old) (acall (cx B0 old) ansP (n + 2)) 40 [.agg ⟨enW x⟩] H Q :=
  clone40_ct x.r hl hx.p hx.c hx.m fun vp G1 vc G2 vm G3 o1 o2 o3 => by
    obtain ⟨y, h1, h2, h3⟩ := rd3 (C := cx B0 old) o1 o2 o3
    have := hQ y _ h1 h2
    rw [h3] at this
    simpa using this
theorem own41W (x : Rw) (hl : x.r.a.light) (hx : Rd (cx B0 old) H x) (hQ : ∀ y G, y.r = x.r → Rd (cx B0 old) G y → Q (.agg ⟨enW y⟩) (G ++ H)) : CallT (cx B0 old) (acall (cx B0 old) ansP (n + 3)) 41 [.agg ⟨enW x⟩] H Q :=
  own41_ct x.r hl hx.p hx.c hx.m fun vp G1 vc G2 vm G3 o1 o2 o3 => by
    obtain ⟨y, h1, h2, h3⟩ := rd3 (C := cx B0 old) o1 o2 o3
    have := hQ y _ h1 h2
    rw [h3] at this
    simpa using this
set_option maxRecDepth 10000
set_option maxHeartbeats 8000000
theorem same35_ct (x y : Rw) (hl : x.r.a.path.length ≤ 100000 ∧ x.r.a.clus.length ≤ 100000 ∧ x.r.a.comms.length ≤ 100000) (hx : Rd (cx B0 old) H x) (hy : Rd (cx B0 old) H y) (hQ : ∀ t : Bool, (t = true ↔ x.r.a = y.r.a) → Q (.bool t) H) :
    CallT (cx B0 old) (acall (cx B0 old) ansP (n + 2)) 35 [.agg ⟨enWA x⟩, .agg ⟨enWA y⟩] H Q := by
  have hno : x.r.a ≠ y.r.a → Q (.bool false) H := fun h => hQ false ⟨fun h => (by cases h), fun e => absurd e h⟩
  refine call_in2 87 rfl Try.func35 rfl rfl ?_
  unfold enWA enA
  repeat (refine ZX ?_; try with_reducible intro _)
  refine rt_guard rfl rfl rfl rfl (fun g0 => ?_) (fun g0 => ?_)
  rotate_left
  · repeat (refine ZX ?_; try with_reducible intro _)
    exact re_1 rfl rfl (by exact drop_auto) (hno fun e => by have h := (congrArg RtA.o e); rw [h] at g0; simp at g0)
  repeat (refine ZX ?_; try with_reducible intro _)
  refine rt_step rfl rfl rfl (st_call rfl rfl rfl rfl (same51_ct (hx.p.arr enU_len |>.weak (by exact drop_auto)) (hy.p.arr enU_len |>.weak (by exact drop_auto)) hl.1 (fun e1 => ?_) (fun hc => ?_)))
  rotate_left
  · repeat (refine ZX ?_; try with_reducible intro _)
    exact re_1 rfl rfl (by exact drop_auto) (hno fun e => hc (congrArg RtA.path e))
  repeat (refine ZX ?_; try with_reducible intro _)
  refine rt_guard rfl rfl rfl rfl (fun g2 => ?_) (fun g2 => ?_)
  rotate_left
  · repeat (refine ZX ?_; try with_reducible intro _)
    exact re_1 rfl rfl (by exact drop_auto) (hno fun e => by have h := (congrArg RtA.next e); rw [h] at g2; simp at g2)
  repeat (refine ZX ?_; try with_reducible intro _)
  refine rt_guard rfl rfl rfl rfl (fun g3 => ?_) (fun g3 => ?_)
  rotate_left
  · repeat (refine ZX ?_; try with_reducible intro _)
    exact re_1 rfl rfl (by exact drop_auto) (hno fun e => by have h := (congrArg RtA.hm e); rw [h] at g3; simp at g3)
  repeat (refine ZX ?_; try with_reducible intro _)
  refine rt_guard rfl rfl rfl rfl (fun g4 => ?_) (fun g4 => ?_)
  rotate_left
  · repeat (refine ZX ?_; try with_reducible intro _)
    exact re_1 rfl rfl (by exact drop_auto) (hno fun e => by have h := (congrArg RtA.med e); rw [h] at g4; simp at g4)
  repeat (refine ZX ?_; try with_reducible intro _)
  refine rt_guard rfl rfl rfl rfl (fun g5 => ?_) (fun g5 => ?_)
  rotate_left
  · repeat (refine ZX ?_; try with_reducible intro _)
    exact re_1 rfl rfl (by exact drop_auto) (hno fun e => by have h := (congrArg RtA.hp e); rw [h] at g5; simp at g5)
  repeat (refine ZX ?_; try with_reducible intro _)
  refine rt_guard rfl rfl rfl rfl (fun g6 => ?_) (fun g6 => ?_)
  rotate_left
  · repeat (refine ZX ?_; try with_reducible intro _)
    exact re_1 rfl rfl (by exact drop_auto) (hno fun e => by have h := (congrArg RtA.pref e); rw [h] at g6; simp at g6)
  repeat (refine ZX ?_; try with_reducible intro _)
  refine rt_guard rfl rfl rfl rfl (fun g7 => ?_) (fun g7 => ?_)
  rotate_left
  · repeat (refine ZX ?_; try with_reducible intro _)
    exact re_1 rfl rfl (by exact drop_auto) (hno fun e => by have h := (congrArg RtA.hor e); rw [h] at g7; simp at g7)
  repeat (refine ZX ?_; try with_reducible intro _)
  refine rt_guard rfl rfl rfl rfl (fun g8 => ?_) (fun g8 => ?_)
  rotate_left
  · repeat (refine ZX ?_; try with_reducible intro _)
    exact re_1 rfl rfl (by exact drop_auto) (hno fun e => by have h := (congrArg RtA.orig e); rw [h] at g8; simp at g8)
  repeat (refine ZX ?_; try with_reducible intro _)
  refine rt_step rfl rfl rfl (st_call rfl rfl rfl rfl (same52_ct (hx.c.arr enU_len |>.weak (by exact drop_auto)) (hy.c.arr enU_len |>.weak (by exact drop_auto)) hl.2.1 (fun e9 => ?_) (fun hc => ?_)))
  rotate_left
  · repeat (refine ZX ?_; try with_reducible intro _)
    exact re_1 rfl rfl (by exact drop_auto) (hno fun e => hc (congrArg RtA.clus e))
  repeat (refine ZX ?_; try with_reducible intro _)
  refine rt_step rfl rfl rfl (st_call rfl rfl rfl rfl (same53_ct (hx.m.arr enC_len |>.weak (by exact drop_auto)) (hy.m.arr enC_len |>.weak (by exact drop_auto)) hl.2.2 (fun e10 => ?_) (fun hc => ?_)))
  rotate_left
  · repeat (refine ZX ?_; try with_reducible intro _)
    exact re_1 rfl rfl (by exact drop_auto) (hno fun e => hc (congrArg RtA.comms e))
  repeat (refine ZX ?_; try with_reducible intro _)
  refine re_1 rfl rfl (by exact drop_auto) (hQ _ ?_)
  simp only [List.take, List.drop, leafsEq, leafEq, Bool.and_true, Bool.and_eq_true, beq_iff_eq]
  constructor
  · intro ⟨z1, z2, z3, z4⟩
    exact RtA_ext (by simpa using g0) e1 (by simpa using g2) (by simpa using g3) (by simpa using g4) (by simpa using g5) (by simpa using g6) (by simpa using g7) (by simpa using g8) e9 e10 z1 z2 z3 z4
  · intro e
    exact ⟨congrArg RtA.t0 e, congrArg RtA.t1 e, congrArg RtA.t2 e, congrArg RtA.t3 e⟩
theorem same16_ct (x y : Rw) (hl : x.r.a.path.length ≤ 100000 ∧ x.r.a.clus.length ≤ 100000 ∧ x.r.a.comms.length ≤ 100000) (hx : Rd (cx B0 old) H x) (hy : Rd (cx B0 old) H y) (hQ : ∀ t : Bool, (t = true ↔ x.r = y.r) → Q (.bool t) H) :
    CallT (cx B0 old) (acall (cx B0 old) ansP (n + 3)) 16 [.agg ⟨enW x⟩, .agg ⟨enW y⟩] H Q := by
  have hno : x.r ≠ y.r → Q (.bool false) H := fun h => hQ false ⟨fun h => (by cases h), fun e => absurd e h⟩
  refine call_in2 31 rfl Try.func16 rfl rfl ?_
  unfold enW enR
  repeat (refine ZX ?_; try with_reducible intro _)
  refine rt_guard rfl rfl rfl rfl (fun g0 => ?_) (fun g0 => ?_)
  rotate_left
  · repeat (refine ZX ?_; try with_reducible intro _)
    exact re_1 rfl rfl (by exact drop_auto) (hno fun e => by have h := (congrArg Rt.n e); rw [h] at g0; exact absurd ((leaf60 _).symm.trans g0) (by decide))
  repeat (refine ZX ?_; try with_reducible intro _)
  refine rt_step rfl rfl rfl (st_call rfl rfl rfl rfl (same35_ct x y hl (hx.weak (by exact drop_auto)) (hy.weak (by exact drop_auto)) fun t1 e1 => ?_))
  repeat (refine ZX ?_; try with_reducible intro _)
  refine rt_guard rfl rfl rfl rfl (fun g1 => ?_) (fun g1 => ?_)
  rotate_left
  · repeat (refine ZX ?_; try with_reducible intro _)
    exact re_1 rfl rfl (by exact drop_auto) (hno fun e => by rw [e1.2 (congrArg Rt.a e)] at g1; cases g1)
  repeat (refine ZX ?_; try with_reducible intro _)
  refine rt_guard rfl rfl rfl rfl (fun g2 => ?_) (fun g2 => ?_)
  rotate_left
  · repeat (refine ZX ?_; try with_reducible intro _)
    exact re_1 rfl rfl (by exact drop_auto) (hno fun e => by have h := (congrArg Rt.peer e); rw [h] at g2; simp at g2)
  repeat (refine ZX ?_; try with_reducible intro _)
  refine re_1 rfl rfl (by exact drop_auto) (hQ _ ?_)
  constructor
  · intro z
    exact Rt_ext (leaf60_eq g0) (e1.1 g1) (by simpa using g2) (by simpa using z)
  · intro e
    have h := congrArg Rt.stale e
    rw [h]; simp
end
end Go.Proofs.Ythcohphflhkceaa.Abs
