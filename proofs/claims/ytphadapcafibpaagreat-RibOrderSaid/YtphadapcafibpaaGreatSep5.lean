/- Appending a whole list; contracts that swap one row. -/
import Derived.Test.YtphadapcafibpaaGreatSep4
namespace Go.Proofs.YtphadapcafibpaaGreat.Abs
open Go
section
variable {C : Ctx} {hd : HH Prop} {l : Sl} {H H' : Hp} {x y : Operand} {Θ : Value → Hp → Prop}
theorem del_pre {b : Nat} {o : AObj} {H0 : Hp} : ∀ pre : Hp, Del (pre ++ (b, o) :: H0) b o (pre ++ H0)
  | [] => .here _ _ _
  | _ :: pre => .there _ _ (del_pre pre)
theorem one_flat {α : Type} {en : α → List Value} {M : List α} (hone : ∀ q, (en q).all Value.oneCell' = true) : (M.flatMap en).all Value.oneCell' = true := by
  rw [List.all_eq_true]
  intro v hv
  obtain ⟨q, _, hq⟩ := List.mem_flatMap.1 hv
  exact List.all_eq_true.1 (hone q) v hq
/-- A part of a slice. -/
theorem ArrW.part {α : Type} {en : α → List Value} {k : Nat} (hl : ∀ x, (en x).length = k) {b o : Nat} {L : List α} (h : ArrW C H (some ⟨b, o, none⟩) k en L) (i n : Nat) (hn : i + n ≤ L.length) :
    ArrW C H (some ⟨b, o + i * k, none⟩) k en ((L.drop i).take n) := ⟨fun hne => by
  have hL : L ≠ [] := by rintro rfl; simp at hne
  obtain ⟨b', o', cs, e, h2, h3⟩ := h.els hL
  cases e
  refine ⟨b, _, cs, rfl, h2, ?_⟩
  have hlen : ((L.drop i).take n).length = n := by rw [List.length_take, List.length_drop]; omega
  have hs : L = L.take i ++ ((L.drop i).take n ++ L.drop (i + n)) := by
    rw [← List.drop_drop, List.take_append_drop, List.take_append_drop]
  have hti : ((L.take i).flatMap en).length = i * k := by rw [flat_length hl, List.length_take, Nat.min_eq_left (by omega)]
  have hmi : (((L.drop i).take n).flatMap en).length = n * k := by rw [flat_length hl, hlen]
  rw [hlen]
  refine cut_of hmi fun j hj => ?_
  have h4 : ∀ q, q < L.length * k → cs[o + q]? = (L.flatMap en)[q]? := fun q hq => by
    unfold cut at h3
    simp only at h3
    split at h3
    · have := Option.some.inj h3
      rw [← this, List.getElem?_take, if_pos hq, List.getElem?_drop]
    · cases h3
  have hq : i * k + j < L.length * k := by
    have : (i + n) * k ≤ L.length * k := Nat.mul_le_mul_right k hn
    rw [Nat.add_mul] at this
    omega
  rw [Nat.add_assoc, h4 _ hq]
  conv => lhs; rw [hs]
  rw [List.flatMap_append, List.flatMap_append, List.getElem?_append_right (by rw [hti]; omega), hti, Nat.add_sub_cancel_left, List.getElem?_append_left (by rw [hmi]; exact hj)]⟩
theorem ArrW.arr {α : Type} {en : α → List Value} {k : Nat} (hl : ∀ x, (en x).length = k) {ad : Option Addr} {L : List α} (h : ArrW C H ad k en L) : Arr C H ad k en L := ⟨fun i x hx => by
  have hi : i < L.length := (List.getElem?_eq_some_iff.1 hx).1
  have hne : L ≠ [] := by rintro rfl; simp at hi
  obtain ⟨b, o, cs, rfl, h2, h3⟩ := h.els hne
  have e : (L.drop i).take 1 = [x] := by
    rw [List.drop_eq_getElem_cons hi, List.take_succ_cons, List.take_zero]
    rw [List.getElem?_eq_getElem hi] at hx
    rw [Option.some.inj hx]
  have hp := h.part hl i 1 (by omega)
  rw [e] at hp
  obtain ⟨b', o', cs', e2, h4, h5⟩ := hp.els (by simp)
  cases e2
  refine ⟨b, o, cs', rfl, h4, ?_⟩
  simpa using h5⟩
/-! ### A part of a slice that appends have made -/
/-! ### No results -/
theorem re_0 {Q : Value → Hp → Prop} {rs : List ResultVar} (hr : rs = []) (hs : H'.Sublist H) (hq : ∀ v, Q v H') : retΦ C rs Q .normal l H := by
  subst hr; exact re_n hs (res_nil (hq _))
theorem re_0r {Q : Value → Hp → Prop} {rs : List ResultVar} (hr : rs = []) (hs : H'.Sublist H) (hq : ∀ v, Q v H') : retΦ C rs Q .ret l H := by
  subst hr; exact re_r hs (res_nil (hq _))
/-! ### Pointers -/
section
variable {t yt u : TypeId} {a : Addr} {v : Value}
theorem p_nilCheck (h : evalL l x = some (.pointer (some a))) : PureT C (.nilCheck x) l (.pointer (some a)) := by
  unfold PureT
  exact ⟨cov1 h, by simp only [aP, rhoL_eq h]⟩
theorem p_eqPS (h : evalL l x = some (.pointer (some a))) (h2 : evalL l y = some (.pointer none)) (hu : C.P.underlying t = some (.pointer u)) : PureT C (.binOp .eql t x y yt) l (.bool false) := by
  unfold PureT
  refine ⟨cov2 h h2, ?_⟩
  have e : aequal C Op.maxDepth t (.pointer (some a)) (.pointer none) = some false := by show aequal C (9999 + 1) _ _ _ = _; simp only [aequal, hu]
  simp only [aP, rhoL_eq h, rhoL_eq h2, abin, eqIdle, e, Option.map_some]
theorem p_nePS (h : evalL l x = some (.pointer (some a))) (h2 : evalL l y = some (.pointer none)) (hu : C.P.underlying t = some (.pointer u)) : PureT C (.binOp .neq t x y yt) l (.bool true) := by
  unfold PureT
  refine ⟨cov2 h h2, ?_⟩
  have e : aequal C Op.maxDepth t (.pointer (some a)) (.pointer none) = some false := by show aequal C (9999 + 1) _ _ _ = _; simp only [aequal, hu]
  simp only [aP, rhoL_eq h, rhoL_eq h2, abin, eqIdle, e, Option.map_some, Bool.not_false]
theorem p_eqPN (h : evalL l x = some (.pointer none)) (h2 : evalL l y = some (.pointer none)) (hu : C.P.underlying t = some (.pointer u)) : PureT C (.binOp .eql t x y yt) l (.bool true) := by
  unfold PureT
  refine ⟨cov2 h h2, ?_⟩
  have e : aequal C Op.maxDepth t (.pointer none) (.pointer none) = some true := by show aequal C (9999 + 1) _ _ _ = _; simp only [aequal, hu, Option.isNone]
  simp only [aP, rhoL_eq h, rhoL_eq h2, abin, eqIdle, e, Option.map_some]
end
/-! ### The heap in another order -/
theorem CallT.perm {hc : Abs.H Prop} {g : FuncId} {args : List Value} {Q : Value → Hp → Prop} (h : CallT C hc g args H' Q) (hs : H'.Perm H) : CallT C hc g args H Q := by
  unfold CallT at *
  exact fun s k h1 h2 => h s k (h1.perm hs) h2
theorem CodeT.perm {rd : Bool} {nt : Nat} {b : Code} {Φ : AX → Sl → Hp → Prop} (h : CodeT C hd rd nt b l H' Φ) (hs : H'.Perm H) : CodeT C hd rd nt b l H Φ := by
  unfold CodeT at *
  exact fun fr s k hf hm hk => h fr s k hf (hm.perm hs) hk
theorem RunT.perm {nt : Nat} {ops : Array Oper} {os : List Oper} {Ψ : Sl → Hp → Prop} (h : RunT C hd nt ops os l H' Ψ) (hs : H'.Perm H) : RunT C hd nt ops os l H Ψ := by
  unfold RunT at *
  exact fun fr s k hf hm hk => h fr s k hf (hm.perm hs) hk
theorem pm1 {a b : Nat × AObj} : (b :: a :: H).Perm (a :: b :: H) := List.Perm.swap _ _ _
theorem pm2 {a b c : Nat × AObj} : (c :: a :: b :: H).Perm (a :: b :: c :: H) := pm1.trans (.cons _ pm1)
end
end Go.Proofs.YtphadapcafibpaaGreat.Abs
