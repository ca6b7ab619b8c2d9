/- Slices that a run owns: appending, slicing, storing. -/
import Derived.Test.YthcohphflhkceaaSep6
namespace Go.Proofs.Ythcohphflhkceaa.Abs
open Go
set_option linter.unusedVariables false
section
variable {C : Ctx} {hd : HH Prop} {rd : Bool} {nt id : Nat} {a b : Code} {l : Sl} {H : Hp} {Φ : AX → Sl → Hp → Prop}
/-- Ways meet again, in one of several states. -/
theorem ct_midE {ι : Type} (P : ι → Prop) (lf : ι → Sl) (Hf : ι → Hp) (h : CodeT C hd rd nt a l H (seqΦ (fun l' H' => ∃ i, P i ∧ SubL (lf i) l' ∧ (Hf i).Sublist H') Φ)) (h2 : ∀ i, P i → CodeT C hd rd nt b (lf i) (Hf i) Φ) :
    CodeT C hd rd nt a l H (seqΦ (fun l' H' => CodeT C hd rd nt b l' H' Φ) Φ) :=
  h.mono fun e l' H' he => by
    cases e with
    | normal =>
      unfold seqΦ at he ⊢
      obtain ⟨i, h3, h4, h5⟩ := he
      exact (h2 i h3).weak h4 h5
    | exit i => unfold seqΦ at he ⊢; exact he
    | ret => unfold seqΦ at he ⊢; exact he
theorem ct_midB {ι : Type} (P : ι → Prop) (lf : ι → Sl) (Hf : ι → Hp) (h : CodeT C hd rd nt a l H (blockΦ id (seqΦ (fun l' H' => ∃ i, P i ∧ SubL (lf i) l' ∧ (Hf i).Sublist H') Φ))) (h2 : ∀ i, P i → CodeT C hd rd nt b (lf i) (Hf i) Φ) :
    CodeT C hd rd nt a l H (blockΦ id (seqΦ (fun l' H' => CodeT C hd rd nt b l' H' Φ) Φ)) :=
  h.mono fun e l' H' he => by
    have key : ∀ l' H', seqΦ (fun l' H' => ∃ i, P i ∧ SubL (lf i) l' ∧ (Hf i).Sublist H') Φ .normal l' H' → seqΦ (fun l' H' => CodeT C hd rd nt b l' H' Φ) Φ .normal l' H' := fun l' H' he => by
      unfold seqΦ at he ⊢
      obtain ⟨i, h3, h4, h5⟩ := he
      exact (h2 i h3).weak h4 h5
    cases e with
    | normal => unfold blockΦ at he ⊢; exact key _ _ he
    | ret => unfold blockΦ at he ⊢; unfold seqΦ at he ⊢; exact he
    | exit i =>
      unfold blockΦ at he ⊢
      cases hb : Nat.beq i id with
      | true => simp only [hb] at he ⊢; exact key _ _ he
      | false => simp only [hb] at he ⊢; unfold seqΦ at he ⊢; exact he
end
section
variable {C : Ctx} {hd : HH Prop} {nt : Nat} {ops : Array Oper} {E masks plan : List Nat} {rs : List RdE} {l : Sl} {H H' : Hp} {Ψ : Sl → Hp → Prop}
theorem PlanT.perm (h : PlanT C hd nt ops E masks plan rs l H' Ψ) (hs : H'.Perm H) : PlanT C hd nt ops E masks plan rs l H Ψ := by
  unfold PlanT at *
  exact fun fr s k ns hf hm hr hk => h fr s k ns hf (hm.perm hs) hr hk
theorem pull0 {A R : Hp} {x : Nat × AObj} : (x :: (A ++ R)).Perm (A ++ x :: R) := List.perm_middle.symm
theorem pull1 {A R : Hp} {x y : Nat × AObj} : (y :: (A ++ x :: R)).Perm (A ++ x :: y :: R) := by
  have := (List.perm_middle (l₁ := A ++ [x]) (a := y) (l₂ := R)).symm
  simpa using this
end
/-- Behind other blocks. -/
theorem ldA {C : Ctx} {t : TypeId} {H : Hp} {b off : Nat} {v : Value} {A : Hp} (h : LdT C t H b off v) : LdT C t (A ++ H) b off v := by
  induction A with
  | nil => exact h
  | cons a A ih => exact lds ih
theorem sA {C : Ctx} {t : TypeId} {b off : Nat} {v : Value} {H H' : Hp} : ∀ (A : Hp), StP C t b off v H H' → StP C t b off v (A ++ H) (A ++ H')
  | [], h => h
  | _ :: A, h => .there _ (sA A h)
/-- A slice with the elements L, and the rows that hold it. -/
inductive Own {α : Type} (en : α → List Value) (k : Nat) : List α → Value → Hp → Prop where
  | nil : Own en k [] (.slice none 0 0) []
  | emp (b : Nat) (o : AObj) : Own en k [] (.slice (some ⟨b, 0, none⟩) 0 0) [(b, o)]
  | el (L : List α) (b es : Nat) (junk : List Value) : Own en k L (.slice (some ⟨b, 0, none⟩) L.length (EL + k)) [(b, .row (L.flatMap en ++ junk) es true)]
  | fix (L : List α) (b es : Nat) (hL : L.length < EL) : Own en k L (.slice (some ⟨b, 0, none⟩) L.length L.length) [(b, .row (L.flatMap en) es false)]
section
variable {C : Ctx} {hd : HH Prop} {l : Sl} {H H' H0 pre Hs : Hp} {x y z : Operand} {Θ : Value → Hp → Prop} {α : Type} {en : α → List Value} {k : Nat} {L M : List α} {v : Value} {t e st xt : TypeId}
theorem own_app (L : List α) (b : Nat) : Own en k L (appV k L b) (appH en k L b []) := by
  cases L with
  | nil => exact .nil
  | cons a L =>
    have h := Own.el (en := en) (k := k) (a :: L) b k []
    rw [List.append_nil] at h
    exact h
theorem cut_pre {L : List α} {junk : List Value} (hl : ∀ x, (en x).length = k) : cut (L.flatMap en ++ junk) 0 (L.length * k) = some (L.flatMap en) :=
  cut_of (flat_length hl L) fun j hj => by rw [Nat.zero_add, List.getElem?_append_left (by rw [flat_length hl]; exact hj)]
theorem hm_mid {a : Nat × AObj} : a ∈ pre ++ ([a] ++ H0) := by simp
theorem Own.arrW (h : Own en k L v Hs) (hl : ∀ x, (en x).length = k) : ∃ ad c, v = .slice ad L.length c ∧ ∀ pre H0, ArrW C (pre ++ (Hs ++ H0)) ad k en L := by
  cases h with
  | nil => exact ⟨none, 0, rfl, fun _ _ => .nil⟩
  | emp b o => exact ⟨_, _, rfl, fun _ _ => .nil⟩
  | el _ b es junk => exact ⟨_, _, rfl, fun pre H0 => ⟨fun _ => ⟨b, 0, _, rfl, .own _ _ hm_mid, cut_pre hl⟩⟩⟩
  | fix _ b es hL => exact ⟨_, _, rfl, fun pre H0 => ⟨fun _ => ⟨b, 0, _, rfl, .own _ _ hm_mid, by have := cut_pre (en := en) (L := L) (junk := []) hl; rwa [List.append_nil] at this⟩⟩⟩
theorem ArrW.src {ad : Option Addr} {c : Nat} (h : ArrW C H ad k en M) (hne : M ≠ []) : Src C H k (.slice ad M.length c) M.length (M.flatMap en) := by
  obtain ⟨b, o, cs, rfl, hr, hc⟩ := h.els hne
  exact .slice b o _ c cs _ hr hc
theorem appT_pos {by' : Nat} (ht : appT C st xt = some (k, by')) : 0 < k := by
  unfold appT at ht
  split at ht
  · split at ht
    · split at ht
      · rename_i e6 e7; cases ht; exact Nat.le_of_ble_eq_true e6
      · cases ht
    · cases ht
  · cases ht
theorem del_mid {b : Nat} {o : AObj} : Del (pre ++ ([(b, o)] ++ H0)) b o (pre ++ H0) := del_pre pre
theorem swap_mid {b : Nat} {o o' : AObj} : ∀ {pre : Hp}, Swap (pre ++ ([(b, o)] ++ H0)) b o o' (pre ++ ([(b, o')] ++ H0))
  | [] => .here _ _ _ _
  | _ :: _ => .there _ _ swap_mid
theorem mid_perm : (pre ++ (Hs ++ H0)).Perm (Hs ++ (pre ++ H0)) := by
  rw [← List.append_assoc, ← List.append_assoc]
  exact (List.perm_append_comm).append_right H0
theorem mid_sub : (pre ++ H0).Sublist (pre ++ (Hs ++ H0)) := List.Sublist.append (List.Sublist.refl _) (List.sublist_append_right _ _)
theorem blt_ge {a b : Nat} (h : a ≤ b) : ¬ b < a := Nat.not_lt.2 h
/-- Appending cells. -/
theorem st_appX {by' : Nat} {w : Value} (h : Own en k L v Hs) (hl : ∀ x, (en x).length = k) (hone : ∀ q, (en q).all Value.oneCell' = true)
    (hx : evalL l x = some v) (hy : evalL l y = some w) (ht : appT C st xt = some (k, by')) (hw : lenOf' w = some M.length) (ha : M ≠ [] → Src C (pre ++ (Hs ++ H0)) k w M.length (M.flatMap en))
    (hb : (2 * (L.length + M.length) + 192) * (by' + 1) ≤ 281474976710656) (hk : ∀ v' Hs', Own en k (L ++ M) v' Hs' → Θ v' (Hs' ++ (pre ++ H0))) :
    StepT C hd (.call { callee := .builtin .append, args := #[x, y], argTypes := #[st, xt] }) l (pre ++ (Hs ++ H0)) Θ := by
  have hone' : (M.flatMap en).all Value.oneCell' = true := one_flat hone
  refine st_W (cov2 hx hy) rfl (fun _ => rfl) rfl fun s hm => ?_
  by_cases hM : M = []
  · subst hM
    have hk := hk v Hs (by rw [List.append_nil]; exact h)
    refine ⟨_, _, s, ?_, hm.perm mid_perm.symm, hk⟩
    show aappend C s st xt (rhoL l x) (rhoL l y) = _
    obtain ⟨ad', c', e, _⟩ := h.arrW (C := C) hl
    rw [rhoL_eq hx, rhoL_eq hy, e, aappend_none ht hw]
  have hn : M.length ≠ 0 := fun h => hM (List.eq_nil_of_length_eq_zero h)
  have hsrc := ha hM
  have hkpos := appT_pos ht
  have hnew : ∀ b' : Nat, Own en k (L ++ M) (.slice (some ⟨b', 0, none⟩) (L.length + M.length) (EL + k)) [(b', .row (L.flatMap en ++ M.flatMap en) k true)] := fun b' => by
    have := Own.el (en := en) (k := k) (L ++ M) b' k []
    rwa [List.append_nil, List.flatMap_append, List.length_append] at this
  have hlM : (M.flatMap en).length = M.length * k := flat_length hl M
  have hlL : (L.flatMap en).length = L.length * k := flat_length hl L
  have run : aappend C s st xt (rhoL l x) (rhoL l y) = appendTo C s k by' M.length (M.flatMap en) v := by
    rw [rhoL_eq hx, rhoL_eq hy, aappend_is ht hsrc hm hn hone']
  show ∃ v' H' s', aappend C s st xt (rhoL l x) (rhoL l y) = some (v', s') ∧ MS C H' s' ∧ Θ v' H'
  rw [run]
  cases h with
  | nil =>
    refine ⟨.slice (some ⟨s.next, 0, none⟩) M.length (EL + k), _, _, ?_, (hm.sub mid_sub).alloc (.row (M.flatMap en) k true), hk _ [(s.next, .row (M.flatMap en) k true)] ?_⟩
    · simp only [appendTo]
      rw [if_pos (by simpa using hb)]
    · have := hnew s.next
      simpa using this
  | emp b o =>
    refine ⟨.slice (some ⟨s.next, 0, none⟩) M.length (EL + k), _, _, ?_, (hm.sub mid_sub).alloc (.row (M.flatMap en) k true), hk _ [(s.next, .row (M.flatMap en) k true)] ?_⟩
    · simp only [appendTo]
      rw [if_pos (by simpa using hb), if_neg (by unfold EL; omega), if_neg (by decide), if_neg (by omega)]
      simp [oldCells]
    · have := hnew s.next
      simpa using this
  | el _ b es junk =>
    obtain ⟨g1, g2, g3⟩ := hm.has b _ hm_mid
    have hcs : (L.flatMap en ++ junk).length = L.length * k + junk.length := by rw [List.length_append, hlL]
    by_cases hroom : 0 + (L.length + M.length) * k ≤ (L.flatMap en ++ junk).length
    · have hj : M.length * k ≤ junk.length := by rw [hcs, Nat.add_mul] at hroom; omega
      have hst : storeRow (L.flatMap en ++ junk) (0 + L.length * k) (M.flatMap en) = some ((L ++ M).flatMap en ++ junk.drop (M.length * k)) := by
        have e1 : Nat.ble (0 + L.length * k + (M.flatMap en).length) (L.flatMap en ++ junk).length = true := Nat.ble_eq_true_of_le (by rw [hlM, hcs]; omega)
        simp only [storeRow, e1, hone']
        rw [Nat.zero_add, hlM, ← hlL, List.take_left' rfl, List.flatMap_append, List.append_assoc, ← List.drop_drop, List.drop_left' rfl]
      refine ⟨_, _, _, ?_, (hm.swap swap_mid).perm mid_perm.symm, hk _ _ (.el (L ++ M) b es (junk.drop (M.length * k)))⟩
      simp only [appendTo]
      rw [if_pos hb, if_pos trivial]
      simp only [appendEl, g3]
      rw [if_neg (Nat.not_lt.2 g1), if_pos hroom]
      simp only [putCells, Nat.ble_eq_true_of_le g1, g3, hst, Option.map_some, List.length_append]
    · refine ⟨_, _, _, ?_, (hm.kill del_mid).alloc (.row (L.flatMap en ++ M.flatMap en) k true), hk _ _ (hnew s.next)⟩
      simp only [appendTo]
      rw [if_pos hb, if_pos trivial]
      simp only [appendEl, g3]
      rw [if_neg (Nat.not_lt.2 g1), if_neg hroom, if_pos ⟨trivial, by rw [hcs]; omega⟩, ← hlL, List.take_left' rfl]
  | fix _ b es hL =>
    obtain ⟨g1, g2, g3⟩ := hm.has b _ hm_mid
    refine ⟨_, _, _, ?_, (hm.sub mid_sub).alloc (.row (L.flatMap en ++ M.flatMap en) k true), hk _ _ (hnew s.next)⟩
    have ho : oldCells C s b 0 (L.length * k) = some (L.flatMap en) := by
      unfold oldCells
      split
      · rename_i e
        rw [← hlL] at e
        rw [List.eq_nil_of_length_eq_zero e]
      · have hr : RowIs C (pre ++ ([(b, AObj.row (L.flatMap en) es false)] ++ H0)) b (L.flatMap en) := .own _ _ hm_mid
        have hc := cut_pre (en := en) (L := L) (junk := []) hl
        rw [List.append_nil] at hc
        simp only [hr.rowOf hm, Option.bind_some, hc]
    simp only [appendTo]
    rw [if_pos hb, if_neg (by omega), if_neg (by omega), if_neg (by omega), ho]
    rfl
/-- Appending a slice's elements. -/
theorem st_appO {by' c : Nat} {ad : Option Addr} (h : Own en k L v Hs) (hl : ∀ x, (en x).length = k) (hone : ∀ q, (en q).all Value.oneCell' = true)
    (hx : evalL l x = some v) (hy : evalL l y = some (.slice ad M.length c)) (ht : appT C st xt = some (k, by')) (ha : ArrW C (pre ++ (Hs ++ H0)) ad k en M)
    (hb : (2 * (L.length + M.length) + 192) * (by' + 1) ≤ 281474976710656) (hk : ∀ v' Hs', Own en k (L ++ M) v' Hs' → Θ v' (Hs' ++ (pre ++ H0))) :
    StepT C hd (.call { callee := .builtin .append, args := #[x, y], argTypes := #[st, xt] }) l (pre ++ (Hs ++ H0)) Θ :=
  st_appX h hl hone hx hy ht rfl (fun hM => ha.src hM) hb hk
/-! ### Elements -/
theorem Arr.fld {w : Nat} {ad : Option Addr} {i : Nat} {a : α} (h : Arr C H ad w en L) (hi : L[i]? = some a) : ∃ b o, ad = some ⟨b, o, none⟩ ∧ ∀ (f n : Nat) (u : Value) (t : TypeId) (H' : Hp) (l : Sl) (y : Operand), H.Sublist H' → (en a)[f]? = some u → f < w → aggAt C t = some false → sizeAt C t = some n →
    evalL l y = some (.pointer (some ⟨b, o + i * w + f, none⟩)) → ReadT C (.load t y) l H' u := by
  obtain ⟨b, o, cs, h1, h2, h3⟩ := h.els i a hi
  refine ⟨b, o, h1, fun f n u t H' l y hs hf hw hg hn hy => rd_load1 hy (h2.weak hs) hg hn ?_⟩
  haveI : Tok := ⟨fun _ => none⟩
  rw [← cut_get h3 hw]
  exact hf
theorem Arr.at1 {ad : Option Addr} {i : Nat} {a : α} {u : Value} (h : Arr C H ad 1 en L) (hi : L[i]? = some a) (he : en a = [u]) : ∃ b o, ad = some ⟨b, o, none⟩ ∧ ∀ (n : Nat) (t : TypeId) (H' : Hp) (l : Sl) (y : Operand), H.Sublist H' → aggAt C t = some false → sizeAt C t = some n →
    evalL l y = some (.pointer (some ⟨b, o + i * 1, none⟩)) → ReadT C (.load t y) l H' u := by
  obtain ⟨b, o, h1, h2⟩ := h.fld hi
  exact ⟨b, o, h1, fun n t H' l y hs hg hn hy => h2 0 n u t H' l y hs (by rw [he]; rfl) (by decide) hg hn hy⟩
theorem storeRow_in {X Y cs cs' vs : List Value} {f : Nat} (h : storeRow cs f vs = some cs') : storeRow (X ++ (cs ++ Y)) (X.length + f) vs = some (X ++ (cs' ++ Y)) := by
  unfold storeRow at *
  split at h
  · rename_i h1 h2
    have h1 := Nat.le_of_ble_eq_true h1
    cases h
    have e1 : Nat.ble (X.length + f + vs.length) (X ++ (cs ++ Y)).length = true := Nat.ble_eq_true_of_le (by rw [List.length_append, List.length_append]; omega)
    simp only [e1, h2]
    congr 1
    rw [List.take_length_add_append, List.take_append_of_le_length (by omega), Nat.add_assoc, ← List.drop_drop, List.drop_left' rfl, List.drop_append_of_le_length (by omega)]
    simp [List.append_assoc]
  · cases h
theorem flat_at {i : Nat} {a : α} (hi : L[i]? = some a) : L.flatMap en = (L.take i).flatMap en ++ (en a ++ (L.drop (i + 1)).flatMap en) := by
  obtain ⟨h1, h2⟩ := List.getElem?_eq_some_iff.1 hi
  conv => lhs; rw [← List.take_append_drop i L]
  rw [List.drop_eq_getElem_cons h1, h2, List.flatMap_append, List.flatMap_cons]
theorem flat_set {i : Nat} {a a' : α} {junk vs : List Value} {f : Nat} (hl : ∀ x, (en x).length = k) (hi : L[i]? = some a) (h : storeRow (en a) f vs = some (en a')) : storeRow (L.flatMap en ++ junk) (0 + i * k + f) vs = some ((L.set i a').flatMap en ++ junk) := by
  obtain ⟨h1, h2⟩ := List.getElem?_eq_some_iff.1 hi
  have e : (L.set i a').flatMap en = (L.take i).flatMap en ++ (en a' ++ (L.drop (i + 1)).flatMap en) := by
    rw [List.set_eq_take_append_cons_drop, if_pos h1, List.flatMap_append, List.flatMap_cons]
  have hlen : ((L.take i).flatMap en).length = i * k := by rw [flat_length hl, List.length_take, Nat.min_eq_left (by omega)]
  rw [e, flat_at hi, List.append_assoc, List.append_assoc, List.append_assoc, List.append_assoc, Nat.zero_add, ← hlen]
  exact storeRow_in h
theorem stP_mid {b off n es : Nat} {el : Bool} {cs cs' : List Value} {u : Value} (hn : sizeAt C t = some n) (hz : Nat.beq u.cells.size n = true) (hst : storeRow cs off u.cells.toList = some cs') : ∀ pre : Hp, StP C t b off u (pre ++ ([(b, .row cs es el)] ++ H0)) (pre ++ ([(b, .row cs' es el)] ++ H0))
  | [] => .here es n el cs cs' H0 hn hz hst
  | _ :: pre => .there _ (stP_mid hn hz hst pre)
/-- An element, or a part of it, is set. -/
theorem Own.set (h : Own en k L v Hs) (hl : ∀ x, (en x).length = k) {i f n : Nat} {a a' : α} {u : Value} (hi : L[i]? = some a) (hn : sizeAt C t = some n) (hz : Nat.beq u.cells.size n = true) (hst : storeRow (en a) f u.cells.toList = some (en a')) :
    ∃ Hs', Own en k (L.set i a') v Hs' ∧ ∃ b c, v = .slice (some ⟨b, 0, none⟩) L.length c ∧ ∀ pre H0, StP C t b (0 + i * k + f) u (pre ++ (Hs ++ H0)) (pre ++ (Hs' ++ H0)) := by
  have hlt := (List.getElem?_eq_some_iff.1 hi).1
  cases h with
  | nil => exact absurd hlt (by simp)
  | emp b o => exact absurd hlt (by simp)
  | el _ b es junk =>
    refine ⟨[(b, .row ((L.set i a').flatMap en ++ junk) es true)], ?_, b, _, rfl, fun pre H0 => stP_mid hn hz (flat_set hl hi hst) pre⟩
    have := Own.el (en := en) (k := k) (L.set i a') b es junk
    rwa [List.length_set] at this
  | fix _ b es hL =>
    refine ⟨[(b, .row ((L.set i a').flatMap en) es false)], ?_, b, _, rfl, fun pre H0 => stP_mid hn hz ?_ pre⟩
    · have := Own.fix (en := en) (k := k) (L.set i a') b es (by rwa [List.length_set])
      rwa [List.length_set] at this
    · have := flat_set (junk := []) hl hi hst
      rwa [List.append_nil, List.append_nil] at this
/-! ### Parts of slices -/
/-- A slice whose parts can be taken. -/
structure Cuts (C : Ctx) (H : Hp) (en : α → List Value) (k : Nat) (L : List α) (v : Value) : Prop where
  self : ∃ ad c, v = .slice ad L.length c ∧ ArrW C H ad k en L
  part : ∀ (t e : TypeId) (lo hi : Option Value) (m q : Nat), C.P.underlying t = some (.slice e) → sizeAt C e = some k → m ≤ q → q ≤ L.length → (lo.bind natOf = some m ∨ lo = none ∧ m = 0) → (hi.bind natOf = some q ∨ hi = none ∧ q = L.length) →
    ∃ ad c, aslice C t v lo hi none = some (.slice ad (q - m) c) ∧ ArrW C H ad k en ((L.drop m).take (q - m))
theorem Cuts.weak (h : Cuts C H en k L v) (hs : H.Sublist H') : Cuts C H' en k L v where
  self := let ⟨ad, c, h1, h2⟩ := h.self; ⟨ad, c, h1, h2.weak hs⟩
  part := fun t e lo hi m q h1 h2 h3 h4 h5 h6 => let ⟨ad, c, g1, g2⟩ := h.part t e lo hi m q h1 h2 h3 h4 h5 h6; ⟨ad, c, g1, g2.weak hs⟩
theorem bnds_is {len top m q : Nat} {lo hi : Option Value} (h1 : m ≤ q) (h2 : q ≤ top) (h5 : lo.bind natOf = some m ∨ lo = none ∧ m = 0) (h6 : hi.bind natOf = some q ∨ hi = none ∧ q = len) : bnds len top lo hi none = some (m, q, top) := by
  have a1 : Nat.ble q top = true := Nat.ble_eq_true_of_le h2
  have a2 : Nat.ble m q = true := Nat.ble_eq_true_of_le h1
  unfold bnds
  rw [if_neg (by simp)]
  have e1 : boundOr len top hi = some q := by
    rcases h6 with h6 | ⟨rfl, rfl⟩
    · cases hi with
      | none => cases h6
      | some w =>
        have h6 : natOf w = some q := h6
        simp only [boundOr, h6, a1]
    · rfl
  have e2 : boundOr 0 q lo = some m := by
    rcases h5 with h5 | ⟨rfl, rfl⟩
    · cases lo with
      | none => cases h5
      | some w =>
        have h5 : natOf w = some m := h5
        simp only [boundOr, h5, a2]
    · rfl
  simp only [show boundOr top top none = some top from rfl, Option.bind_some, e1, e2, Option.map_some]
theorem Own.cuts (h : Own en k L v Hs) (hl : ∀ x, (en x).length = k) : Cuts C (pre ++ (Hs ++ H0)) en k L v := by
  obtain ⟨ad0, c0, e0, hw0⟩ := h.arrW (C := C) hl
  refine ⟨⟨ad0, c0, e0, hw0 pre H0⟩, fun t e lo hi m q hu hn h1 h2 h5 h6 => ?_⟩
  cases h with
  | nil =>
    have hq : q = 0 := by simpa using h2
    subst hq
    have hm0 : m = 0 := by omega
    subst hm0
    refine ⟨none, 0, ?_, .nil⟩
    simp only [aslice, hu, hn]
    rw [if_neg (by decide), bnds_is (len := 0) (Nat.le_refl _) (Nat.le_refl _) h5 h6]
    simp [cutSlice]
  | emp b o =>
    have hq : q = 0 := by simpa using h2
    subst hq
    have hm0 : m = 0 := by omega
    subst hm0
    refine ⟨some ⟨b, 0, none⟩, 0, ?_, .nil⟩
    simp only [aslice, hu, hn]
    rw [if_neg (by decide), bnds_is (len := 0) (Nat.le_refl _) (Nat.le_refl _) h5 h6]
    simp only [Option.bind_some, cutSlice]
    rw [if_pos (by decide), if_pos trivial]
  | el _ b es junk =>
    have hw := hw0 pre H0
    cases e0
    have e : aslice C t (.slice (some ⟨b, 0, none⟩) L.length (EL + k)) lo hi none = cutSlice C k (EL + k) true (some ⟨b, 0, none⟩) (m, q, L.length) := by
      simp only [aslice, hu, hn]
      rw [if_pos (Nat.le_add_right _ _), if_pos trivial, bnds_is h1 h2 h5 h6]
      rfl
    rw [e]
    by_cases c1 : m = 0
    · subst c1
      refine ⟨some ⟨b, 0, none⟩, EL + k, by simp [cutSlice], ?_⟩
      have := hw.part hl 0 q (by omega)
      simpa using this
    · by_cases c2 : m = q
      · subst c2
        refine ⟨some ⟨C.B0, 0, none⟩, EL + k, by simp [cutSlice, c1], ?_⟩
        rw [Nat.sub_self, List.take_zero]
        exact ArrW.nil
      · refine ⟨some ⟨b, 0 + m * k, none⟩, EL + k, by simp [cutSlice, c1, c2], ?_⟩
        exact hw.part hl m (q - m) (by omega)
  | fix _ b es hL =>
    have hw := hw0 pre H0
    cases e0
    have e : aslice C t (.slice (some ⟨b, 0, none⟩) L.length L.length) lo hi none = cutSlice C k L.length false (some ⟨b, 0, none⟩) (m, q, L.length) := by
      simp only [aslice, hu, hn]
      rw [if_neg (Nat.not_le.2 hL), bnds_is h1 h2 h5 h6]
      rfl
    rw [e]
    by_cases c1 : L.length = m
    · refine ⟨some ⟨b, 0, none⟩, L.length - m, by simp only [cutSlice]; rw [if_pos (by omega), if_pos c1], ?_⟩
      have hq : q - m = 0 := by omega
      rw [hq, List.take_zero]
      exact ArrW.nil
    · refine ⟨some ⟨b, 0 + m * k, none⟩, L.length - m, by simp only [cutSlice]; rw [if_pos (by omega), if_neg c1], ?_⟩
      exact hw.part hl m (q - m) (by omega)
theorem Cuts.arr (h : Cuts C H en k L v) : ∃ ad c, v = .slice ad L.length c ∧ ArrW C H ad k en L := h.self
def optL (l : Sl) : Option Operand → Option (Option Value)
  | none => some none
  | some x => (evalL l x).map some
theorem p_slc {lo hi : Option Operand} {vl vh : Option Value} {r : Value} (hx : evalL l x = some v) (hlo : optL l lo = some vl) (hhi : optL l hi = some vh) (h : aslice C t v vl vh none = some r) : PureT C (.slice t x lo hi none) l r := by
  unfold PureT
  have e1 : ∀ (o : Option Operand) (w : Option Value), optL l o = some w → o.map (rhoL l) = w ∧ covL l o.toList = true := fun o w ho => by
    cases o with
    | none => cases ho; exact ⟨rfl, rfl⟩
    | some y =>
      obtain ⟨u, h1, h2⟩ := Option.map_eq_some_iff.1 ho
      subst h2
      exact ⟨by rw [Option.map_some, rhoL_eq h1], cov1 h1⟩
  obtain ⟨a1, a2⟩ := e1 lo vl hlo
  obtain ⟨b1, b2⟩ := e1 hi vh hhi
  refine ⟨?_, ?_⟩
  · have : (Op.operands (.slice t x lo hi none)).toList = [x] ++ (lo.toList ++ hi.toList) := by cases lo <;> cases hi <;> rfl
    rw [this]
    exact covL_append (cov1 hx) (covL_append a2 b2)
  · simp only [aP, rhoL_eq hx, a1, b1, Option.map_none, h]
end
end Go.Proofs.Ythcohphflhkceaa.Abs
