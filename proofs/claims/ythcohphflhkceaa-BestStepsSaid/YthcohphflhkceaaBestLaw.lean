/- The order of lists of numbers by the first place where they differ: antisymmetric, transitive. -/
import Derived.Test.YthcohphflhkceaaBest3
namespace Go.Proofs.Ythcohphflhkceaa.Abs
open Go

theorem lexc_val : ∀ (x y : List Int), lexc x y = -1 ∨ lexc x y = 0 ∨ lexc x y = 1
  | [], _ => .inr (.inl rfl)
  | _ :: _, [] => .inr (.inl rfl)
  | a :: x, b :: y => by
    unfold lexc
    split
    · exact .inl rfl
    · split
      · exact .inr (.inr rfl)
      · exact lexc_val x y
theorem lexc_anti : ∀ (x y : List Int), lexc y x = - lexc x y
  | [], [] => rfl
  | [], _ :: _ => rfl
  | _ :: _, [] => rfl
  | a :: x, b :: y => by
    rw [lexc, lexc]
    rcases Int.lt_trichotomy a b with h | h | h
    · rw [if_neg (by omega), if_pos (by omega), if_pos h]; rfl
    · rw [if_neg (by omega), if_neg (by omega), if_neg (by omega), if_neg (by omega)]; exact lexc_anti x y
    · rw [if_pos (by omega), if_neg (by omega), if_pos (by omega)]
theorem lexc_refl : ∀ (x : List Int), lexc x x = 0
  | [] => rfl
  | a :: x => by rw [lexc, if_neg (by omega), if_neg (by omega)]; exact lexc_refl x
theorem lexc_eq : ∀ (x y : List Int), x.length = y.length → lexc x y = 0 → x = y
  | [], [], _, _ => rfl
  | [], _ :: _, h, _ => by simp at h
  | _ :: _, [], h, _ => by simp at h
  | a :: x, b :: y, h, h0 => by
    rw [lexc] at h0
    split at h0
    · cases h0
    · split at h0
      · cases h0
      · rw [show a = b from by omega, lexc_eq x y (by simpa using h) h0]
theorem lexc_le : ∀ (x y z : List Int), x.length = y.length → y.length = z.length → lexc x y ≤ 0 → lexc y z ≤ 0 → lexc x z = if lexc y z < lexc x y then lexc y z else lexc x y
  | [], [], [], _, _, _, _ => rfl
  | [], _ :: _, _, h, _, _, _ => by simp at h
  | _ :: _, [], _, h, _, _, _ => by simp at h
  | [], [], _ :: _, _, h, _, _ => by simp at h
  | _ :: _, _ :: _, [], _, h, _, _ => by simp at h
  | a :: x, b :: y, c :: z, h1, h2, h3, h4 => by
    have ih := lexc_le x y z (by simpa using h1) (by simpa using h2)
    have v1 := lexc_val x y
    have v2 := lexc_val y z
    rw [lexc] at h3 h4 ⊢
    rw [lexc, lexc]
    rcases Int.lt_trichotomy a b with h | h | h
    · rw [if_pos h]
      rcases Int.lt_trichotomy b c with g | g | g
      · rw [if_pos (by omega), if_pos g]; rfl
      · have n1 : ¬ b < c := by omega
        have n2 : ¬ b > c := by omega
        rw [if_neg n1, if_neg n2] at h4
        rw [if_pos (by omega : a < c), if_neg n1, if_neg n2]
        split <;> omega
      · rw [if_neg (by omega), if_pos (by omega)] at h4; omega
    · subst h
      rw [if_neg (by omega), if_neg (by omega)] at h3
      rw [if_neg (Int.lt_irrefl a), if_neg (by omega : ¬ a > a)]
      rcases Int.lt_trichotomy a c with g | g | g
      · rw [if_pos g]
        split <;> omega
      · have n1 : ¬ a < c := by omega
        have n2 : ¬ a > c := by omega
        rw [if_neg n1, if_neg n2] at h4
        simp only [if_neg n1, if_neg n2]
        exact ih h3 h4
      · rw [if_neg (by omega), if_pos (by omega)] at h4; omega
    · rw [if_neg (by omega), if_pos (by omega)] at h3; omega
theorem lexc_ge (x y z : List Int) (h1 : x.length = y.length) (h2 : y.length = z.length) (h3 : 0 ≤ lexc x y) (h4 : 0 ≤ lexc y z) : lexc x z = if lexc y z > lexc x y then lexc y z else lexc x y := by
  have e := lexc_le z y x h2.symm h1.symm (by rw [lexc_anti y z]; omega) (by rw [lexc_anti x y]; omega)
  rw [lexc_anti x z, lexc_anti x y, lexc_anti y z] at e
  split at e <;> split <;> omega
end Go.Proofs.Ythcohphflhkceaa.Abs
