/- Rows of one-cell elements of a list: loads, stores, making them; tests' two ways in a plan. -/
import Derived.Test.YthcohphflhkceaaSep11
namespace Go.Proofs.Ythcohphflhkceaa.Abs
open Go
set_option linter.unusedVariables false
abbrev vI (x : Int) : Value := .int .i64 x
abbrev vB (b : Bool) : Value := .bool b
section
variable {C : Ctx} {H H' : Hp} {α : Type} {f : α → Value} {L : List α} {t : TypeId} {b es n : Nat} {el : Bool}
/-- Loads from a row of a list's elements, wherever it stands. -/
theorem ldM (d : α) (hg : aggAt C t = some false) (hn : sizeAt C t = some n) : ∀ (H' : Hp) (j : Nat), j < L.length → (b, AObj.row (L.map f) es el) ∈ H' → LdT C t H' b (0 + j * 1) (f (L.getD j d)) := fun H' j hj hm =>
  ld1 (.own _ _ hm) hg hn (by rw [Nat.zero_add, Nat.mul_one, List.getElem?_map, List.getD_eq_getElem?_getD, List.getElem?_eq_getElem hj]; rfl)
/-- Stores into it. -/
theorem sM {x : α} {j : Nat} (hn : sizeAt C t = some 1) (hc : (f x).cells.toList = [f x]) (h1 : Value.oneCell' (f x) = true) (hj : j < L.length) : StP C t b (0 + j * 1) (f x) ((b, .row (L.map f) es el) :: H) ((b, .row ((L.set j x).map f) es el) :: H) := by
  rw [List.map_set, Nat.zero_add, Nat.mul_one]
  exact sF hn hc (Nat.ble_eq_true_of_le (by rw [List.length_map]; exact hj)) h1
end
section
variable {C : Ctx} {hd : HH Prop} {l : Sl} {H : Hp} {x y : Operand} {t e : TypeId} {Θ : Value → Hp → Prop} {α : Type}
theorem st_makeM (f : α → Value) (a : α) {N : Nat} {k k' : IntKind} {i : TypeInfo} (hx : evalL l x = some (.int k (N : Int))) (hy : evalL l y = some (.int k' (N : Int))) (hu : C.P.underlying t = some (.slice e))
    (hi : C.P.info? e = some i) (hz : zeroCellsOf C e = some ⟨[f a]⟩) (h1 : Nat.ble (i.bytes * N) 1099511627776 = true) (h2 : Nat.ble N 1099511627776 = true) (h3 : i.size = 1)
    (h : ∀ b, Θ (.slice (some ⟨b, 0, none⟩) N N) ((b, .row ((List.replicate N a).map f) 1 false) :: H)) : StepT C hd (.makeSlice t x y) l H Θ := by
  refine st_makeS hx hy hu hi hz h1 h2 (by rw [h3]; rfl) (by rw [h3]; rfl) fun b => ?_
  have e1 : (List.replicate N [f a]).flatten = (List.replicate N a).map f := by
    induction N with
    | zero => rfl
    | succ n ih => rw [List.replicate_succ, List.replicate_succ, List.flatten_cons, List.map_cons, List.singleton_append]; congr 1; exact (List.flatten_replicate_singleton).trans List.map_replicate.symm
  rw [e1, h3]
  exact h b
end
/-! ### Numbers that do not wrap; equal tests -/
section
variable {C : Ctx} {l l' : Sl} {x y : Operand} {t yt : TypeId} {a b : Int}
theorem p_addW (h : evalL l x = some (.int .i64 a)) (h2 : evalL l y = some (.int .i64 b)) (hw : -9223372036854775808 ≤ a + b ∧ a + b < 9223372036854775808) : PureT C (.binOp .add t x y yt) l (.int .i64 (a + b)) := by
  have := p_add (C := C) (t := t) (yt := yt) h h2
  rwa [IntWalk.i64_in _ (by omega)] at this
theorem p_subW (h : evalL l x = some (.int .i64 a)) (h2 : evalL l y = some (.int .i64 b)) (hw : -9223372036854775808 ≤ a - b ∧ a - b < 9223372036854775808) : PureT C (.binOp .sub t x y yt) l (.int .i64 (a - b)) := by
  have := p_sub (C := C) (t := t) (yt := yt) h h2
  rwa [IntWalk.i64_in _ (by omega)] at this
theorem p_mulW (h : evalL l x = some (.int .i64 a)) (h2 : evalL l y = some (.int .i64 b)) (hw : -9223372036854775808 ≤ a * b ∧ a * b < 9223372036854775808) : PureT C (.binOp .mul t x y yt) l (.int .i64 (a * b)) := by
  have := p_mul (C := C) (t := t) (yt := yt) h h2
  rwa [IntWalk.i64_in _ (by omega)] at this
theorem SubL.consB {t : Nat} {p q : Bool} (h : getL l t = some (.bool q)) (e : p = q) (hl : SubL l' l) : SubL ((t, .bool p) :: l') l := .cons (by rw [e]; exact h) hl
theorem SubL.consI {t : Nat} {k : IntKind} {p q : Int} (h : getL l t = some (.int k q)) (e : p = q) (hl : SubL l' l) : SubL ((t, .int k p) :: l') l := .cons (by rw [e]; exact h) hl
end
/-! ### Tests -/
/-- What a test says when it is true, and when it is false. -/
def Test (b : Bool) (p q : Prop) : Prop := (b = true → p) ∧ (b = false → q)
theorem te_d {p : Prop} [Decidable p] : Test (decide p) p (¬ p) := ⟨of_decide_eq_true, of_decide_eq_false⟩
theorem te_n {b : Bool} {p q : Prop} (h : Test b p q) : Test (!b) q p := ⟨fun e => h.2 (by cases b with | true => cases e | false => rfl), fun e => h.1 (by cases b with | true => rfl | false => cases e)⟩
theorem te_e {x y : Int} : Test (x == y) (x = y) (x ≠ y) := ⟨fun e => beq_iff_eq.1 e, fun e => beq_eq_false_iff_ne.1 e⟩
theorem te_ne {x y : Int} : Test (x != y) (x ≠ y) (x = y) := ⟨fun e => bne_iff_ne.1 e, fun e => bne_eq_false_iff_eq.1 e⟩
theorem te_nd {p q : Prop} [Decidable p] [Decidable q] : Test (decide p != decide q) (¬ (p ↔ q)) (p ↔ q) := ⟨fun e h => bne_iff_ne.1 e (decide_eq_decide.2 h), fun e => decide_eq_decide.1 (bne_eq_false_iff_eq.1 e)⟩
theorem te_b {b : Bool} : Test b (b = true) (b = false) := ⟨id, id⟩
section
variable {C : Ctx} {hd : HH Prop} {rd : Bool} {nt : Nat} {ops : Array Oper} {o : Oper} {os : List Oper} {l : Sl} {H : Hp} {Ψ : Sl → Hp → Prop} {p q : Prop} {b : Bool}
theorem rt_guardT {j d : Nat} {want : Bool} {g : Oper} (hT : Test b p q) (hg : o.guard = some (j, want)) (hj : ops.toList[j]? = some g) (hgd : g.dst = some d) (hb : getL l d = some (.bool b))
    (h1 : p → RunT C hd nt ops (o :: os) ((d, .bool true) :: l) H Ψ) (h2 : q → RunT C hd nt ops (o :: os) ((d, .bool false) :: l) H Ψ) : RunT C hd nt ops (o :: os) l H Ψ :=
  rt_guard hg hj hgd hb (fun e => h1 (hT.1 e)) (fun e => h2 (hT.2 e))
theorem ct_condT {a c : Code} {Φ : AX → Sl → Hp → Prop} {x : Operand} (hT : Test b p q) (hx : evalL l x = some (.bool b)) (h1 : p → CodeT C hd rd nt a l H Φ) (h2 : q → CodeT C hd rd nt c l H Φ) : CodeT C hd rd nt (.cond x a c) l H Φ :=
  ct_cond hx (fun e => h1 (hT.1 e)) (fun e => h2 (hT.2 e))
theorem pl_guardT {E masks rest : List Nat} {rs : List RdE} {i j d : Nat} {want : Bool} {g : Oper} (hT : Test b p q) (ho : ops.toList[i]? = some o) (hg : o.guard = some (j, want)) (hj : ops.toList[j]? = some g) (hgd : g.dst = some d) (hb : getL l d = some (.bool b))
    (h1 : p → PlanT C hd nt ops E masks (i :: rest) rs ((d, .bool true) :: l) H Ψ) (h2 : q → PlanT C hd nt ops E masks (i :: rest) rs ((d, .bool false) :: l) H Ψ) : PlanT C hd nt ops E masks (i :: rest) rs l H Ψ :=
  pl_guard ho hg hj hgd hb (fun e => h1 (hT.1 e)) (fun e => h2 (hT.2 e))
end
/-! ### Ways meet again behind a region -/
section
variable {C : Ctx} {hd : HH Prop} {rd : Bool} {nt : Nat} {ops : Array Oper} {os : List Oper} {l : Sl} {H : Hp} {b : Code} {Φ : AX → Sl → Hp → Prop} {ι : Type}
theorem rt_midE (P : ι → Prop) (lf : ι → Sl) (Hf : ι → Hp) (h : RunT C hd nt ops os l H (fun l' H' => ∃ i, P i ∧ SubL (lf i) l' ∧ (Hf i).Sublist H')) (h2 : ∀ i, P i → CodeT C hd rd nt b (lf i) (Hf i) Φ) :
    RunT C hd nt ops os l H (seqΦ (fun l' H' => CodeT C hd rd nt b l' H' Φ) Φ .normal) :=
  h.mono fun l' H' ⟨i, h3, h4, h5⟩ => by
    unfold seqΦ
    exact (h2 i h3).weak h4 h5
theorem pl_midE {E masks plan : List Nat} {rs : List RdE} (P : ι → Prop) (lf : ι → Sl) (Hf : ι → Hp) (h : PlanT C hd nt ops E masks plan rs l H (fun l' H' => ∃ i, P i ∧ SubL (lf i) l' ∧ (Hf i).Sublist H')) (h2 : ∀ i, P i → CodeT C hd rd nt b (lf i) (Hf i) Φ) :
    PlanT C hd nt ops E masks plan rs l H (seqΦ (fun l' H' => CodeT C hd rd nt b l' H' Φ) Φ .normal) := by
  unfold PlanT at h ⊢
  refine fun fr s k ns hf hm hr hk => h fr s k ns hf hm hr fun l' H' fr' s' ⟨i, h3, h4, h5⟩ g1 g2 => hk l' H' fr' s' ?_ g1 g2
  unfold seqΦ
  exact (h2 i h3).weak h4 h5
end
attribute [irreducible] Test
end Go.Proofs.Ythcohphflhkceaa.Abs
