/- Slices that a run owns, with room behind them: a queue that is cut at its end and appended to. -/
import Derived.Test.YthcohphflhkceaaSep13
namespace Go.Proofs.Ythcohphflhkceaa.Abs
open Go
set_option linter.unusedVariables false
/-- A slice with the elements L, at the begin of its row. -/
inductive Qs {α : Type} (en : α → List Value) (k : Nat) : List α → Value → Hp → Prop where
  | el (L : List α) (b ez : Nat) (junk : List Value) : Qs en k L (.slice (some ⟨b, 0, none⟩) L.length (EL + k)) [(b, .row (L.flatMap en ++ junk) ez true)]
  | fx (L : List α) (b ez cap : Nat) (junk : List Value) (h1 : L.length ≤ cap) (h2 : cap < EL) (h3 : junk.length = (cap - L.length) * k) : Qs en k L (.slice (some ⟨b, 0, none⟩) L.length cap) [(b, .row (L.flatMap en ++ junk) ez false)]
section
variable {C : Ctx} {hd : HH Prop} {l : Sl} {H H' H0 pre Hs : Hp} {x y z : Operand} {Θ : Value → Hp → Prop} {α : Type} {en : α → List Value} {k : Nat} {L M : List α} {v : Value} {t e st xt : TypeId}
theorem Qs.arr (h : Qs en k L v Hs) (hl : ∀ x, (en x).length = k) : ∃ b c, v = .slice (some ⟨b, 0, none⟩) L.length c ∧ ∀ pre H0, Arr C (pre ++ (Hs ++ H0)) (some ⟨b, 0, none⟩) k en L := by
  cases h with
  | el b ez junk => exact ⟨b, _, rfl, fun pre H0 => ArrW.arr hl ⟨fun _ => ⟨b, 0, _, rfl, .own _ _ hm_mid, cut_pre hl⟩⟩⟩
  | fx b ez cap junk h1 h2 h3 => exact ⟨b, _, rfl, fun pre H0 => ArrW.arr hl ⟨fun _ => ⟨b, 0, _, rfl, .own _ _ hm_mid, cut_pre hl⟩⟩⟩
theorem Qs.set (h : Qs en k L v Hs) (hl : ∀ x, (en x).length = k) {i f n : Nat} {a a' : α} {u : Value} (hi : L[i]? = some a) (hn : sizeAt C t = some n) (hz : Nat.beq u.cells.size n = true) (hst : storeRow (en a) f u.cells.toList = some (en a')) :
    ∃ Hs', Qs en k (L.set i a') v Hs' ∧ ∃ b c, v = .slice (some ⟨b, 0, none⟩) L.length c ∧ ∀ pre H0, StP C t b (0 + i * k + f) u (pre ++ (Hs ++ H0)) (pre ++ (Hs' ++ H0)) := by
  cases h with
  | el b ez junk =>
    refine ⟨[(b, .row ((L.set i a').flatMap en ++ junk) ez true)], ?_, b, _, rfl, fun pre H0 => stP_mid hn hz (flat_set hl hi hst) pre⟩
    have := Qs.el (en := en) (k := k) (L := L.set i a') b ez junk
    rwa [List.length_set] at this
  | fx b ez cap junk h1 h2 h3 =>
    refine ⟨[(b, .row ((L.set i a').flatMap en ++ junk) ez false)], ?_, b, _, rfl, fun pre H0 => stP_mid hn hz (flat_set hl hi hst) pre⟩
    have := Qs.fx (en := en) (k := k) (L := L.set i a') b ez cap junk (by rw [List.length_set]; exact h1) h2 (by rw [List.length_set]; exact h3)
    rwa [List.length_set] at this
/-- The last element is cut off. -/
theorem Qs.cut (h : Qs en k L v Hs) (hl : ∀ x, (en x).length = k) {m : Nat} (hm : m ≤ L.length) (hu : C.P.underlying t = some (.slice e)) (hn : sizeAt C e = some k) (kk : IntKind) :
    ∃ v', aslice C t v none (some (.int kk (m : Int))) none = some v' ∧ Qs en k (L.take m) v' Hs := by
  have hb : ∀ len top, m ≤ top → bnds len top none (some (.int kk (m : Int))) none = some (0, m, top) := fun len top ht =>
    bnds_is (Nat.zero_le _) ht (.inr ⟨rfl, rfl⟩) (.inl (natOf_nat kk m))
  have hlen : (L.take m).length = m := by rw [List.length_take]; omega
  have hsp : L.flatMap en = (L.take m).flatMap en ++ (L.drop m).flatMap en := by rw [← List.flatMap_append, List.take_append_drop]
  cases h with
  | el b ez junk =>
    refine ⟨.slice (some ⟨b, 0, none⟩) m (EL + k), ?_, ?_⟩
    · simp only [aslice, hu, hn]
      rw [if_pos (Nat.le_add_right _ _), if_pos trivial, hb _ _ hm]
      simp [cutSlice]
    · have := Qs.el (en := en) (k := k) (L := L.take m) b ez ((L.drop m).flatMap en ++ junk)
      rw [hlen, ← List.append_assoc, ← hsp] at this
      exact this
  | fx b ez cap junk h1 h2 h3 =>
    refine ⟨.slice (some ⟨b, 0, none⟩) m cap, ?_, ?_⟩
    · simp only [aslice, hu, hn]
      rw [if_neg (Nat.not_le.2 h2), hb _ _ (by omega)]
      simp only [Option.bind_some, cutSlice]
      rw [if_pos (by omega)]
      simp
    · have hd : ((L.drop m).flatMap en).length = (L.length - m) * k := by rw [flat_length hl, List.length_drop]
      have := Qs.fx (en := en) (k := k) (L := L.take m) b ez cap ((L.drop m).flatMap en ++ junk) (by omega) h2 (by rw [List.length_append, hd, h3, hlen, ← Nat.add_mul]; congr 1; omega)
      rw [hlen, ← List.append_assoc, ← hsp] at this
      exact this
/-- One element more. -/
theorem st_appQ {by' c : Nat} {a : α} {bs : Nat} (h : Qs en k L v Hs) (hl : ∀ x, (en x).length = k) (hone : ∀ q, (en q).all Value.oneCell' = true)
    (hx : evalL l x = some v) (hy : evalL l y = some (.slice (some ⟨bs, 0, none⟩) 1 c)) (ht : appT C st xt = some (k, by')) (ha : ArrW C (pre ++ (Hs ++ H0)) (some ⟨bs, 0, none⟩) k en [a])
    (hb : (2 * (L.length + 1) + 192) * (by' + 1) ≤ 281474976710656) (hk : ∀ v' Hs', Qs en k (L ++ [a]) v' Hs' → Θ v' (pre ++ (Hs' ++ H0))) :
    StepT C hd (.call { callee := .builtin .append, args := #[x, y], argTypes := #[st, xt] }) l (pre ++ (Hs ++ H0)) Θ := by
  cases h with
  | el b ez junk =>
    refine st_appP (M := [a]) (Own.el L b ez junk) hl hone hx hy ht ha (by simpa using hb) fun v' Hs' ho => hk v' Hs' ?_
    generalize hLL : L ++ [a] = LL at ho
    cases ho with
    | nil => simp at hLL
    | emp b o => simp at hLL
    | el _ b' ez' junk' => exact .el _ _ _ _
    | fix _ b' ez' hL' => 
      have := Qs.fx (en := en) (k := k) (L := LL) b' ez' LL.length [] (Nat.le_refl _) hL' (by simp)
      rwa [List.append_nil] at this
  | fx b ez cap junk h1 h2 h3 =>
    refine st_W (cov2 hx hy) rfl (fun _ => rfl) rfl fun s hm => ?_
    have hsrc := ha.src (M := [a]) (c := c) (by simp)
    have hone' : ([a].flatMap en).all Value.oneCell' = true := one_flat hone
    have hlM : ([a].flatMap en).length = k := by rw [flat_length hl]; simp
    have hlL : (L.flatMap en).length = L.length * k := flat_length hl L
    have run : aappend C s st xt (rhoL l x) (rhoL l y) = appendTo C s k by' 1 ([a].flatMap en) (.slice (some ⟨b, 0, none⟩) L.length cap) := by
      rw [rhoL_eq hx, rhoL_eq hy]
      exact aappend_is (n := 1) ht hsrc hm (by decide) hone'
    show ∃ v' H' s', aappend C s st xt (rhoL l x) (rhoL l y) = some (v', s') ∧ MS C H' s' ∧ Θ v' H'
    rw [run]
    obtain ⟨g1, g2, g3⟩ := hm.has b _ hm_mid
    have hcs : (L.flatMap en ++ junk).length = cap * k := by rw [List.length_append, hlL, h3, ← Nat.add_mul]; congr 1; omega
    simp only [appendTo]
    rw [if_pos hb, if_neg (by omega), if_neg (by omega)]
    by_cases hroom : L.length + 1 ≤ cap
    · rw [if_pos hroom]
      have hj : k ≤ junk.length := by
        rw [h3]
        have : 1 * k ≤ (cap - L.length) * k := Nat.mul_le_mul_right k (by omega)
        omega
      have hst : storeRow (L.flatMap en ++ junk) (0 + L.length * k) ([a].flatMap en) = some ((L ++ [a]).flatMap en ++ junk.drop k) := by
        have e1 : Nat.ble (0 + L.length * k + ([a].flatMap en).length) (L.flatMap en ++ junk).length = true := Nat.ble_eq_true_of_le (by
          rw [hlM, List.length_append, hlL]; omega)
        simp only [storeRow, e1, hone']
        rw [Nat.zero_add, hlM, ← hlL, List.take_left' rfl, List.flatMap_append, List.append_assoc, ← List.drop_drop, List.drop_left' rfl]
      refine ⟨_, _, _, ?_, hm.swap swap_mid, hk _ _ (.fx (L ++ [a]) b ez cap (junk.drop k) (by rw [List.length_append]; exact hroom) h2 ?_)⟩
      · simp only [putCells, Nat.ble_eq_true_of_le g1, g3, hst, Option.map_some, List.length_append]
        rfl
      · rw [List.length_drop, h3, List.length_append, List.length_singleton, show cap - L.length = (cap - (L.length + 1)) + 1 from by omega, Nat.succ_mul]
        omega
    · rw [if_neg hroom]
      have ho : oldCells C s b 0 (L.length * k) = some (L.flatMap en) := by
        unfold oldCells
        split
        · rename_i e
          rw [← hlL] at e
          rw [List.eq_nil_of_length_eq_zero e]
        · have hr : RowIs C (pre ++ ([(b, AObj.row (L.flatMap en ++ junk) ez false)] ++ H0)) b (L.flatMap en ++ junk) := .own _ _ hm_mid
          simp only [hr.rowOf hm, Option.bind_some, cut_pre hl]
      rw [ho]
      have hnew := Qs.el (en := en) (k := k) (L := L ++ [a]) s.next k []
      rw [List.append_nil, List.flatMap_append, List.length_append] at hnew
      exact ⟨_, _, _, rfl, ((hm.sub mid_sub).alloc _).perm (List.perm_middle (l₁ := pre) (a := (s.next, AObj.row (L.flatMap en ++ [a].flatMap en) k true)) (l₂ := H0)), hk _ _ hnew⟩
end
end Go.Proofs.Ythcohphflhkceaa.Abs
