/- Arguments: elements in one row. -/
import Derived.Test.YthcohphflhkceaaSep5
namespace Go.Proofs.Ythcohphflhkceaa.Abs
open Go
theorem cut_add {cs r1 r2 : List Value} {o n m : Nat} (h1 : cut cs o n = some r1) (h2 : cut cs (o + n) m = some r2) : cut cs o (n + m) = some (r1 ++ r2) := by
  unfold cut at *
  simp only at *
  split at h1
  · rename_i e1
    split at h2
    · rename_i e2
      have h1 := Option.some.inj h1
      have h2 := Option.some.inj h2
      have e1 := Nat.eq_of_beq_eq_true e1
      have e2 := Nat.eq_of_beq_eq_true e2
      have e : (cs.drop o).take (n + m) = r1 ++ r2 := by
        rw [List.take_add, h1, List.drop_drop, h2]
      rw [e, ← h1, ← h2, List.length_append, e1, e2, Nat.beq_refl]
    · cases h2
  · cases h1
theorem cut_flatMap {α : Type} {en : α → List Value} {cs : List Value} {k : Nat} : ∀ (L : List α) (o : Nat), (∀ i x, L[i]? = some x → cut cs (o + i * k) k = some (en x)) → cut cs o (L.length * k) = some (L.flatMap en)
  | [], o, _ => by simp [cut]
  | a :: L, o, h => by
    have h0 := h 0 a (by simp)
    rw [Nat.zero_mul, Nat.add_zero] at h0
    have ih := cut_flatMap L (o + k) fun i x hi => by
      have := h (i + 1) x (by simpa using hi)
      rwa [Nat.succ_mul, Nat.add_comm (i * k) k, ← Nat.add_assoc] at this
    have := cut_add h0 ih
    rwa [List.length_cons, Nat.succ_mul, Nat.add_comm (L.length * k) k, List.flatMap_cons]
theorem Arr.toW {α : Type} {C : Ctx} {en : α → List Value} {k : Nat} {ad : Option Addr} {L : List α} (h : Arr C [] ad k en L) : ArrW C [] ad k en L := ⟨fun hne => by
  obtain ⟨a, M, rfl⟩ := List.exists_cons_of_ne_nil hne
  obtain ⟨b, o, cs, rfl, hr, hc⟩ := h.els 0 a (by simp)
  cases hr with
  | own _ _ h0 => cases h0
  | old hb ho =>
    refine ⟨b, o, cs, rfl, .old hb ho, cut_flatMap _ o fun i x hi => ?_⟩
    obtain ⟨b', o', cs', e, hr', hc'⟩ := h.els i x hi
    cases e
    cases hr' with
    | own _ _ h0 => cases h0
    | old hb' ho' =>
      rw [ho] at ho'
      cases ho'
      exact hc'⟩
theorem appH_app' {α : Type} (en : α → List Value) (k : Nat) (L : List α) (b : Nat) (H : Hp) : appH en k L b H = appH en k L b [] ++ H := by cases L <;> rfl
theorem appH_mono {α : Type} (en : α → List Value) (k : Nat) (L : List α) (b : Nat) {H H' : Hp} (h : H.Sublist H') : (appH en k L b H).Sublist (appH en k L b H') := by
  cases L with
  | nil => exact h
  | cons a L => exact h.cons_cons _
end Go.Proofs.Ythcohphflhkceaa.Abs
