/- Sorting: what a comparison is, and how two elements of a slice change places. -/
import Derived.Test.YthcohphflhkceaaAuto
import Derived.Test.YthcohphflhkceaaSep8
import Derived.Test.YthcohphflhkceaaSep13
import Derived.Test.YthcohphflhkceaaSort0
namespace Go.Proofs.Ythcohphflhkceaa.Abs
open Go
set_option linter.unusedVariables false
/-- A function value that compares elements by their ranks. -/
def CmpT {α : Type} (C : Ctx) (en : α → List Value) (r : α → Int) (P : α → Prop) (f : Value) : Prop :=
  ∃ g first cap, f = .func (.func g) first cap ∧ callable C g = true ∧ ∀ (n : Nat) (x y : α) (H : Hp) (Q : Value → Hp → Prop), P x → P y → (∀ z : Int, (z < 0 ↔ r x < r y) → Q (.int .i64 z) H) →
    CallT C (acall C ansP (n + 10)) g (first.toList ++ ([.agg ⟨en x⟩, .agg ⟨en y⟩] ++ cap.toList)) H Q
section
variable {α : Type} {C : Ctx} {H : Hp} {et w : Nat} {en : α → List Value} {L : List α} {b c N i j : Nat} {Hs : Hp} {r : α → Int}
theorem Own.ldE (ho : Own en w L (.slice (some ⟨b, 0, none⟩) N c) Hs) (hl : ∀ x, (en x).length = w) (hg : aggAt C et = some true) (hn : sizeAt C et = some w) (hi : i < N) (H : Hp) :
    ∃ x, L[i]? = some x ∧ x ∈ L ∧ ∀ H', (Hs ++ H).Sublist H' → ∀ {off : Nat} (h : off = 0 + i * w := by omega), LdT C et H' b off (.agg ⟨en x⟩) := by
  obtain ⟨ad, c', e, ha⟩ := ho.arrW (C := C) hl
  have hN := (Value.slice.inj e).2.1
  have hi' : i < L.length := by omega
  refine ⟨L[i], List.getElem?_eq_getElem hi', List.getElem_mem hi', ?_⟩
  obtain ⟨b1, o1, e1, h1⟩ := ((ha [] H).arr hl).ldW et (List.getElem?_eq_getElem hi') hg hn
  rw [e1] at e
  obtain ⟨e, _⟩ := Value.slice.inj e
  cases e
  exact fun H' hs off h => by rw [h]; exact h1 H' hs
theorem Own.swp (ho : Own en w L (.slice (some ⟨b, 0, none⟩) N c) Hs) (hl : ∀ x, (en x).length = w) (hone : ∀ x, (en x).all Value.oneCell' = true) (hn : sizeAt C et = some w) {x y : α} (hx : L[i]? = some x) (hy : L[j]? = some y) :
    ∃ H1 H2, Own en w (sw L i j) (.slice (some ⟨b, 0, none⟩) N c) H2 ∧ (∀ pre H0, StP C et b (0 + i * w) (.agg ⟨en y⟩) (pre ++ (Hs ++ H0)) (pre ++ (H1 ++ H0))) ∧ (∀ pre H0, StP C et b (0 + j * w) (.agg ⟨en x⟩) (pre ++ (H1 ++ H0)) (pre ++ (H2 ++ H0))) := by
  have hst : ∀ a a' : α, storeRow (en a) 0 (en a') = some (en a') := fun a a' => by
    unfold storeRow
    rw [hone a', Nat.zero_add, hl, hl, Nat.ble_eq_true_of_le (Nat.le_refl _)]
    simp [List.drop_of_length_le, hl]
  have hz : ∀ a : α, Nat.beq (Value.agg ⟨en a⟩).cells.size w = true := fun a => beq_of (show (en a).length = w from hl a)
  obtain ⟨H1, o1, b1, c1, e1, s1⟩ := ho.set (C := C) (t := et) (f := 0) (a' := y) (u := .agg ⟨en y⟩) hl hx hn (hz y) (hst x y)
  obtain ⟨e1, _, _⟩ := Value.slice.inj e1
  cases e1
  have hj : j < (L.set i y).length := by rw [List.length_set]; exact (List.getElem?_eq_some_iff.1 hy).1
  obtain ⟨H2, o2, b2, c2, e2, s2⟩ := o1.set (C := C) (t := et) (f := 0) (a' := x) (u := .agg ⟨en x⟩) hl (List.getElem?_eq_getElem hj) hn (hz x) (hst _ x)
  obtain ⟨e2, _, _⟩ := Value.slice.inj e2
  cases e2
  rw [← sw_of hx hy] at o2
  exact ⟨H1, H2, o2, s1, s2⟩
theorem rk_at {x : α} (h : L[i]? = some x) : r x = rk r L i := (rk_of h).symm
end
end Go.Proofs.Ythcohphflhkceaa.Abs
