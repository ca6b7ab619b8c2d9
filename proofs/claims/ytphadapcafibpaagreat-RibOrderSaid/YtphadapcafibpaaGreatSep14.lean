/- Slices that a run owns, with room behind them: a queue that is cut at its end and appended to. -/
import Derived.Test.YtphadapcafibpaaGreatSep13
namespace Go.Proofs.YtphadapcafibpaaGreat.Abs
open Go
set_option linter.unusedVariables false
/-- A slice with the elements L, at the begin of its row. -/
inductive Qs {α : Type} (en : α → List Value) (k : Nat) : List α → Value → Hp → Prop where
  | el (L : List α) (b ez : Nat) (junk : List Value) : Qs en k L (.slice (some ⟨b, 0, none⟩) L.length (EL + k)) [(b, .row (L.flatMap en ++ junk) ez true)]
  | fx (L : List α) (b ez cap : Nat) (junk : List Value) (h1 : L.length ≤ cap) (h2 : cap < EL) (h3 : junk.length = (cap - L.length) * k) : Qs en k L (.slice (some ⟨b, 0, none⟩) L.length cap) [(b, .row (L.flatMap en ++ junk) ez false)]
section
variable {C : Ctx} {hd : HH Prop} {l : Sl} {H H' H0 pre Hs : Hp} {x y z : Operand} {Θ : Value → Hp → Prop} {α : Type} {en : α → List Value} {k : Nat} {L M : List α} {v : Value} {t e st xt : TypeId}
theorem Qs.arr (h : Qs en k L v Hs) (hl : ∀ x, (en x).length = k) : ∃ b c, v = .slice (some ⟨b, 0, none⟩) L.length c ∧ ∀ pre H0, Arr C (pre ++ (Hs ++ H0)) (some ⟨b, 0, none⟩) k en L := by
  cases h with
  | el b ez junk => exact ⟨b, _, rfl, fun pre H0 => ArrW.arr hl ⟨fun _ => ⟨b, 0, _, rfl, .own _ _ hm_mid, cut_pre hl⟩⟩⟩
  | fx b ez cap junk h1 h2 h3 => exact ⟨b, _, rfl, fun pre H0 => ArrW.arr hl ⟨fun _ => ⟨b, 0, _, rfl, .own _ _ hm_mid, cut_pre hl⟩⟩⟩
theorem Qs.set (h : Qs en k L v Hs) (hl : ∀ x, (en x).length = k) {i f n : Nat} {a a' : α} {u : Value} (hi : L[i]? = some a) (hn : sizeAt C t = some n) (hz : Nat.beq u.cells.size n = true) (hst : storeRow (en a) f u.cells.toList = some (en a')) :
    ∃ Hs', Qs en k (L.set i a') v Hs' ∧ ∃ b c, v = .slice (some ⟨b, 0, none⟩) L.length c ∧ ∀ pre H0, StP C t b (0 + i * k + f) u (pre ++ (Hs ++ H0)) (pre ++ (Hs' ++ H0)) := by
  cases h with
  | el b ez junk =>
    refine ⟨[(b, .row ((L.set i a').flatMap en ++ junk) ez true)], ?_, b, _, rfl, fun pre H0 => stP_mid hn hz (flat_set hl hi hst) pre⟩
    have := Qs.el (en := en) (k := k) (L := L.set i a') b ez junk
    rwa [List.length_set] at this
  | fx b ez cap junk h1 h2 h3 =>
    refine ⟨[(b, .row ((L.set i a').flatMap en ++ junk) ez false)], ?_, b, _, rfl, fun pre H0 => stP_mid hn hz (flat_set hl hi hst) pre⟩
    have := Qs.fx (en := en) (k := k) (L := L.set i a') b ez cap junk (by rw [List.length_set]; exact h1) h2 (by rw [List.length_set]; exact h3)
    rwa [List.length_set] at this
/-- The last element is cut off. -/
theorem Qs.cut (h : Qs en k L v Hs) (hl : ∀ x, (en x).length = k) {m : Nat} (hm : m ≤ L.length) (hu : C.P.underlying t = some (.slice e)) (hn : sizeAt C e = some k) (kk : IntKind) :
    ∃ v', aslice C t v none (some (.int kk (m : Int))) none = some v' ∧ Qs en k (L.take m) v' Hs := by
  have hb : ∀ len top, m ≤ top → bnds len top none (some (.int kk (m : Int))) none = some (0, m, top) := fun len top ht =>
    bnds_is (Nat.zero_le _) ht (.inr ⟨rfl, rfl⟩) (.inl (natOf_nat kk m))
  have hlen : (L.take m).length = m := by rw [List.length_take]; omega
  have hsp : L.flatMap en = (L.take m).flatMap en ++ (L.drop m).flatMap en := by rw [← List.flatMap_append, List.take_append_drop]
  cases h with
  | el b ez junk =>
    refine ⟨.slice (some ⟨b, 0, none⟩) m (EL + k), ?_, ?_⟩
    · simp only [aslice, hu, hn]
      rw [if_pos (Nat.le_add_right _ _), if_pos trivial, hb _ _ hm]
      simp [cutSlice]
    · have := Qs.el (en := en) (k := k) (L := L.take m) b ez ((L.drop m).flatMap en ++ junk)
      rw [hlen, ← List.append_assoc, ← hsp] at this
      exact this
  | fx b ez cap junk h1 h2 h3 =>
    refine ⟨.slice (some ⟨b, 0, none⟩) m cap, ?_, ?_⟩
    · simp only [aslice, hu, hn]
      rw [if_neg (Nat.not_le.2 h2), hb _ _ (by omega)]
      simp only [Option.bind_some, cutSlice]
      rw [if_pos (by omega)]
      simp
    · have hd : ((L.drop m).flatMap en).length = (L.length - m) * k := by rw [flat_length hl, List.length_drop]
      have := Qs.fx (en := en) (k := k) (L := L.take m) b ez cap ((L.drop m).flatMap en ++ junk) (by omega) h2 (by rw [List.length_append, hd, h3, hlen, ← Nat.add_mul]; congr 1; omega)
      rw [hlen, ← List.append_assoc, ← hsp] at this
      exact this
end
end Go.Proofs.YtphadapcafibpaaGreat.Abs
