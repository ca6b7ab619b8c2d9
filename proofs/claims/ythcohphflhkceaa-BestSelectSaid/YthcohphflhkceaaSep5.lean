/- Appending a whole list; contracts that swap one row. -/
import Derived.Test.YthcohphflhkceaaSep4
namespace Go.Proofs.Ythcohphflhkceaa.Abs
open Go
section
variable {C : Ctx} {hd : HH Prop} {l : Sl} {H H' : Hp} {x y : Operand} {Θ : Value → Hp → Prop}
theorem del_pre {b : Nat} {o : AObj} {H0 : Hp} : ∀ pre : Hp, Del (pre ++ (b, o) :: H0) b o (pre ++ H0)
  | [] => .here _ _ _
  | _ :: pre => .there _ _ (del_pre pre)
theorem appV_app {α : Type} {k : Nat} {L : List α} {a : α} {M : List α} {b : Nat} : appV k (L ++ a :: M) b = .slice (some ⟨b, 0, none⟩) (L.length + (M.length + 1)) (EL + k) := by
  cases L with
  | nil => simp [appV]
  | cons d L => simp [appV]; omega
theorem appH_app {α : Type} (en : α → List Value) {k : Nat} {L : List α} {a : α} {M : List α} {b : Nat} {H : Hp} : appH en k (L ++ a :: M) b H = (b, .row ((L ++ a :: M).flatMap en) k true) :: H := by
  cases L <;> simp [appH]
theorem perm_appH {α : Type} {en : α → List Value} {k : Nat} {L : List α} {b : Nat} {pre H0 : Hp} : (appH en k L b (pre ++ H0)).Perm (pre ++ appH en k L b H0) := by
  cases L with
  | nil => exact List.Perm.refl _
  | cons a L => exact List.perm_middle.symm
theorem one_flat {α : Type} {en : α → List Value} {M : List α} (hone : ∀ q, (en q).all Value.oneCell' = true) : (M.flatMap en).all Value.oneCell' = true := by
  rw [List.all_eq_true]
  intro v hv
  obtain ⟨q, _, hq⟩ := List.mem_flatMap.1 hv
  exact List.all_eq_true.1 (hone q) v hq
/-- A whole slice is appended to one that appends have made. -/
theorem st_appM {α : Type} {en : α → List Value} {st xt : TypeId} {k by' b c : Nat} {ad : Option Addr} {L M : List α} {pre H0 : Hp} (hl : ∀ x, (en x).length = k) (hone : ∀ q, (en q).all Value.oneCell' = true)
    (hx : evalL l x = some (appV k L b)) (hy : evalL l y = some (.slice ad M.length c)) (ht : appT C st xt = some (k, by')) (ha : ArrW C (pre ++ appH en k L b H0) ad k en M)
    (hb : (2 * (L.length + M.length) + 192) * (by' + 1) ≤ 281474976710656) (hk : ∀ b', Θ (appV k (L ++ M) b') (appH en k (L ++ M) b' (pre ++ H0))) :
    StepT C hd (.call { callee := .builtin .append, args := #[x, y], argTypes := #[st, xt] }) l (pre ++ appH en k L b H0) Θ := by
  cases M with
  | nil =>
    have hk := hk b
    rw [List.append_nil] at hk
    refine st_W (cov2 hx hy) rfl (fun _ => rfl) rfl fun s hm => ?_
    refine ⟨_, _, s, ?_, hm.perm perm_appH, hk⟩
    show aappend C s st xt (rhoL l x) (rhoL l y) = _
    obtain ⟨ad', c', e⟩ := appV_len k L b
    rw [rhoL_eq hx, rhoL_eq hy, e, aappend_none ht rfl]
  | cons a M =>
    obtain ⟨bM, o, cs, rfl, hrow, hc⟩ := ha.els (by simp)
    have hk : ∀ b', Θ (.slice (some ⟨b', 0, none⟩) (L.length + (a :: M).length) (EL + k)) ((b', .row (L.flatMap en ++ (a :: M).flatMap en) k true) :: (pre ++ H0)) := fun b' => by
      have h := hk b'
      rw [appV_app, appH_app, List.flatMap_append] at h
      exact h
    cases L with
    | nil =>
      refine st_appNil hx hy ht (.slice bM o _ c cs _ hrow hc) (by simp) (one_flat hone) (by rw [List.length_nil, Nat.zero_add] at hb; exact hb) fun b' => ?_
      have h := hk b'
      rw [List.length_nil, Nat.zero_add] at h
      exact h
    | cons d L => exact st_appEl hx hy ht (.slice bM o _ c cs _ hrow hc) (by simp) (one_flat hone) (del_pre pre) (flat_length hl _) hb hk
/-- A slice is copied. -/
theorem st_appC {α : Type} {en : α → List Value} {st xt : TypeId} {k by' c : Nat} {ad : Option Addr} {M : List α} (hl : ∀ x, (en x).length = k) (hone : ∀ q, (en q).all Value.oneCell' = true)
    (hx : evalL l x = some (.slice none 0 0)) (hy : evalL l y = some (.slice ad M.length c)) (ht : appT C st xt = some (k, by')) (ha : ArrW C H ad k en M)
    (hb : (2 * M.length + 192) * (by' + 1) ≤ 281474976710656) (hk : ∀ b', Θ (appV k M b') (appH en k M b' H)) :
    StepT C hd (.call { callee := .builtin .append, args := #[x, y], argTypes := #[st, xt] }) l H Θ :=
  st_appM (L := []) (b := 0) (pre := []) (H0 := H) hl hone hx hy ht ha (by rw [List.length_nil, Nat.zero_add]; exact hb) hk
theorem appV_arrW {α : Type} {en : α → List Value} {k : Nat} (hl : ∀ x, (en x).length = k) (L : List α) (b : Nat) : ∃ ad c, appV k L b = .slice ad L.length c ∧ ∀ H, ArrW C (appH en k L b H) ad k en L := by
  cases L with
  | nil => exact ⟨none, 0, rfl, fun H => .nil⟩
  | cons a L => exact ⟨some ⟨b, 0, none⟩, EL + k, rfl, fun H => arrW_flat hl (a :: L) (es := k) (el := true) hm0⟩
/-- A part of a slice. -/
theorem ArrW.part {α : Type} {en : α → List Value} {k : Nat} (hl : ∀ x, (en x).length = k) {b o : Nat} {L : List α} (h : ArrW C H (some ⟨b, o, none⟩) k en L) (i n : Nat) (hn : i + n ≤ L.length) :
    ArrW C H (some ⟨b, o + i * k, none⟩) k en ((L.drop i).take n) := ⟨fun hne => by
  have hL : L ≠ [] := by rintro rfl; simp at hne
  obtain ⟨b', o', cs, e, h2, h3⟩ := h.els hL
  cases e
  refine ⟨b, _, cs, rfl, h2, ?_⟩
  have hlen : ((L.drop i).take n).length = n := by rw [List.length_take, List.length_drop]; omega
  have hs : L = L.take i ++ ((L.drop i).take n ++ L.drop (i + n)) := by
    rw [← List.drop_drop, List.take_append_drop, List.take_append_drop]
  have hti : ((L.take i).flatMap en).length = i * k := by rw [flat_length hl, List.length_take, Nat.min_eq_left (by omega)]
  have hmi : (((L.drop i).take n).flatMap en).length = n * k := by rw [flat_length hl, hlen]
  rw [hlen]
  refine cut_of hmi fun j hj => ?_
  have h4 : ∀ q, q < L.length * k → cs[o + q]? = (L.flatMap en)[q]? := fun q hq => by
    unfold cut at h3
    simp only at h3
    split at h3
    · have := Option.some.inj h3
      rw [← this, List.getElem?_take, if_pos hq, List.getElem?_drop]
    · cases h3
  have hq : i * k + j < L.length * k := by
    have : (i + n) * k ≤ L.length * k := Nat.mul_le_mul_right k hn
    rw [Nat.add_mul] at this
    omega
  rw [Nat.add_assoc, h4 _ hq]
  conv => lhs; rw [hs]
  rw [List.flatMap_append, List.flatMap_append, List.getElem?_append_right (by rw [hti]; omega), hti, Nat.add_sub_cancel_left, List.getElem?_append_left (by rw [hmi]; exact hj)]⟩
theorem ArrW.arr {α : Type} {en : α → List Value} {k : Nat} (hl : ∀ x, (en x).length = k) {ad : Option Addr} {L : List α} (h : ArrW C H ad k en L) : Arr C H ad k en L := ⟨fun i x hx => by
  have hi : i < L.length := (List.getElem?_eq_some_iff.1 hx).1
  have hne : L ≠ [] := by rintro rfl; simp at hi
  obtain ⟨b, o, cs, rfl, h2, h3⟩ := h.els hne
  have e : (L.drop i).take 1 = [x] := by
    rw [List.drop_eq_getElem_cons hi, List.take_succ_cons, List.take_zero]
    rw [List.getElem?_eq_getElem hi] at hx
    rw [Option.some.inj hx]
  have hp := h.part hl i 1 (by omega)
  rw [e] at hp
  obtain ⟨b', o', cs', e2, h4, h5⟩ := hp.els (by simp)
  cases e2
  refine ⟨b, o, cs', rfl, h4, ?_⟩
  simpa using h5⟩
/-! ### A part of a slice that appends have made -/
theorem p_sliceV {α : Type} {en : α → List Value} {k : Nat} (b : Nat) {t e : TypeId} {i j : IntKind} {lo hi : Int} {L : List α} (hl : ∀ x, (en x).length = k)
    (h0 : 0 ≤ lo) (h1 : lo ≤ hi) (h2 : hi ≤ L.length) (hu : C.P.underlying t = some (.slice e)) (hn : sizeAt C e = some k) :
    ∃ ad c, (∀ (l : Sl) (x y z : Operand), evalL l x = some (appV k L b) → evalL l y = some (.int i lo) → evalL l z = some (.int j hi) → PureT C (.slice t x (some y) (some z) none) l (.slice ad ((L.drop lo.toNat).take (hi - lo).toNat).length c)) ∧ ∀ H0, ArrW C (appH en k L b H0) ad k en ((L.drop lo.toNat).take (hi - lo).toNat) := by
  obtain ⟨m, rfl⟩ := Int.eq_ofNat_of_zero_le h0
  obtain ⟨q, rfl⟩ := Int.eq_ofNat_of_zero_le (Int.le_trans h0 h1)
  have h1 : m ≤ q := by omega
  have h2 : q ≤ L.length := by omega
  have e1 : ((q : Int) - (m : Int)).toNat = q - m := by omega
  have e2 : ((L.drop m).take (q - m)).length = q - m := by rw [List.length_take, List.length_drop]; omega
  rw [e1, Int.toNat_natCast, e2]
  have bq : ∀ top, q ≤ top → bnds L.length top (some (.int i (m : Int))) (some (.int j (q : Int))) none = some (m, q, top) := fun top ht => by
    have a1 : Nat.ble q top = true := Nat.ble_eq_true_of_le ht
    have a2 : Nat.ble m q = true := Nat.ble_eq_true_of_le h1
    simp [bnds, boundOr, natOf, a1, a2]
  cases L with
  | nil =>
    have : q = 0 := by simpa using h2
    subst this
    have : m = 0 := by omega
    subst this
    refine ⟨none, 0, fun l x y z hx hy hz => ?_, fun _ => by simpa using ArrW.nil⟩
    have cv : covL l (Op.operands (.slice t x (some y) (some z) none)).toList = true := by simp [Op.operands, covL, hx, hy, hz]
    unfold PureT
    refine ⟨cv, ?_⟩
    have := bq 0 (Nat.le_refl _)
    simp only [List.length_nil] at this
    simp only [aP, rhoL_eq hx, rhoL_eq hy, rhoL_eq hz, Option.map_some, Option.map_none, appV, aslice, hu, hn, this, Option.bind_some]
    rw [if_neg (by decide)]
    simp [cutSlice]
  | cons a L =>
    have hb := bq (a :: L).length h2
    have hv : appV k (a :: L) b = .slice (some ⟨b, 0, none⟩) (a :: L).length (EL + k) := rfl
    have hw : ∀ H0, ArrW C (appH en k (a :: L) b H0) (some ⟨b, 0, none⟩) k en (a :: L) := fun H0 => arrW_flat hl (a :: L) (es := k) (el := true) hm0
    have hp : ∀ r, cutSlice C k (EL + k) true (some ⟨b, 0, none⟩) (m, q, (a :: L).length) = some r → ∀ (l : Sl) (x y z : Operand), evalL l x = some (appV k (a :: L) b) → evalL l y = some (.int i (m : Int)) → evalL l z = some (.int j (q : Int)) → PureT C (.slice t x (some y) (some z) none) l r := fun r hr l x y z hx hy hz => by
      have cv : covL l (Op.operands (.slice t x (some y) (some z) none)).toList = true := by simp [Op.operands, covL, hx, hy, hz]
      unfold PureT
      refine ⟨cv, ?_⟩
      simp only [aP, rhoL_eq hx, rhoL_eq hy, rhoL_eq hz, Option.map_some, Option.map_none, hv, aslice, hu, hn]
      rw [if_pos (Nat.le_add_right _ _), if_pos trivial, hb]
      exact hr
    by_cases c1 : m = 0
    · subst c1
      refine ⟨some ⟨b, 0, none⟩, EL + k, hp _ (by simp [cutSlice]), fun H0 => ?_⟩
      have := (hw H0).part hl 0 q (by omega)
      simpa using this
    · by_cases c2 : m = q
      · subst c2
        refine ⟨some ⟨C.B0, 0, none⟩, EL + k, hp _ (by simp [cutSlice, c1]), fun H0 => ?_⟩
        rw [Nat.sub_self, List.take_zero]
        exact ArrW.nil
      · refine ⟨some ⟨b, 0 + m * k, none⟩, EL + k, hp _ (by simp [cutSlice, c1, c2]), fun H0 => ?_⟩
        exact (hw H0).part hl m (q - m) (by omega)
/-! ### No results -/
theorem re_0 {Q : Value → Hp → Prop} {rs : List ResultVar} (hr : rs = []) (hs : H'.Sublist H) (hq : ∀ v, Q v H') : retΦ C rs Q .normal l H := by
  subst hr; exact re_n hs (res_nil (hq _))
theorem re_0r {Q : Value → Hp → Prop} {rs : List ResultVar} (hr : rs = []) (hs : H'.Sublist H) (hq : ∀ v, Q v H') : retΦ C rs Q .ret l H := by
  subst hr; exact re_r hs (res_nil (hq _))
/-! ### Pointers -/
section
variable {t yt u : TypeId} {a : Addr} {v : Value}
theorem p_nilCheck (h : evalL l x = some (.pointer (some a))) : PureT C (.nilCheck x) l (.pointer (some a)) := by
  unfold PureT
  exact ⟨cov1 h, by simp only [aP, rhoL_eq h]⟩
theorem p_eqPS (h : evalL l x = some (.pointer (some a))) (h2 : evalL l y = some (.pointer none)) (hu : C.P.underlying t = some (.pointer u)) : PureT C (.binOp .eql t x y yt) l (.bool false) := by
  unfold PureT
  refine ⟨cov2 h h2, ?_⟩
  have e : aequal C Op.maxDepth t (.pointer (some a)) (.pointer none) = some false := by show aequal C (9999 + 1) _ _ _ = _; simp only [aequal, hu]
  simp only [aP, rhoL_eq h, rhoL_eq h2, abin, eqIdle, e, Option.map_some]
theorem p_nePS (h : evalL l x = some (.pointer (some a))) (h2 : evalL l y = some (.pointer none)) (hu : C.P.underlying t = some (.pointer u)) : PureT C (.binOp .neq t x y yt) l (.bool true) := by
  unfold PureT
  refine ⟨cov2 h h2, ?_⟩
  have e : aequal C Op.maxDepth t (.pointer (some a)) (.pointer none) = some false := by show aequal C (9999 + 1) _ _ _ = _; simp only [aequal, hu]
  simp only [aP, rhoL_eq h, rhoL_eq h2, abin, eqIdle, e, Option.map_some, Bool.not_false]
theorem p_eqPN (h : evalL l x = some (.pointer none)) (h2 : evalL l y = some (.pointer none)) (hu : C.P.underlying t = some (.pointer u)) : PureT C (.binOp .eql t x y yt) l (.bool true) := by
  unfold PureT
  refine ⟨cov2 h h2, ?_⟩
  have e : aequal C Op.maxDepth t (.pointer none) (.pointer none) = some true := by show aequal C (9999 + 1) _ _ _ = _; simp only [aequal, hu, Option.isNone]
  simp only [aP, rhoL_eq h, rhoL_eq h2, abin, eqIdle, e, Option.map_some]
end
/-! ### The heap in another order -/
theorem CallT.perm {hc : Abs.H Prop} {g : FuncId} {args : List Value} {Q : Value → Hp → Prop} (h : CallT C hc g args H' Q) (hs : H'.Perm H) : CallT C hc g args H Q := by
  unfold CallT at *
  exact fun s k h1 h2 => h s k (h1.perm hs) h2
theorem CodeT.perm {rd : Bool} {nt : Nat} {b : Code} {Φ : AX → Sl → Hp → Prop} (h : CodeT C hd rd nt b l H' Φ) (hs : H'.Perm H) : CodeT C hd rd nt b l H Φ := by
  unfold CodeT at *
  exact fun fr s k hf hm hk => h fr s k hf (hm.perm hs) hk
theorem RunT.perm {nt : Nat} {ops : Array Oper} {os : List Oper} {Ψ : Sl → Hp → Prop} (h : RunT C hd nt ops os l H' Ψ) (hs : H'.Perm H) : RunT C hd nt ops os l H Ψ := by
  unfold RunT at *
  exact fun fr s k hf hm hk => h fr s k hf (hm.perm hs) hk
theorem pm1 {a b : Nat × AObj} : (b :: a :: H).Perm (a :: b :: H) := List.Perm.swap _ _ _
theorem pm2 {a b c : Nat × AObj} : (c :: a :: b :: H).Perm (a :: b :: c :: H) := pm1.trans (.cons _ pm1)
theorem pm3 {a b c d : Nat × AObj} : (d :: a :: b :: c :: H).Perm (a :: b :: c :: d :: H) := pm1.trans (.cons _ pm2)
end
end Go.Proofs.Ythcohphflhkceaa.Abs
