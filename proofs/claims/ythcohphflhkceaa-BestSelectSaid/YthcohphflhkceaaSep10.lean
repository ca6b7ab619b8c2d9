/- makeSlice with a length that is not a number. -/
import Derived.Test.YthcohphflhkceaaSep9
namespace Go.Proofs.Ythcohphflhkceaa.Abs
open Go
set_option linter.unusedVariables false
section
variable {C : Ctx} {hd : HH Prop} {l : Sl} {H : Hp} {x y : Operand} {t e : TypeId} {Θ : Value → Hp → Prop}
theorem natOf_nat (k : IntKind) (n : Nat) : natOf (.int k (n : Int)) = some n := by simp [natOf]
theorem st_makeS {N : Nat} {k k' : IntKind} {i : TypeInfo} {z : List Value} (hx : evalL l x = some (.int k (N : Int))) (hy : evalL l y = some (.int k' (N : Int))) (hu : C.P.underlying t = some (.slice e))
    (hi : C.P.info? e = some i) (hz : zeroCellsOf C e = some ⟨z⟩) (h1 : Nat.ble (i.bytes * N) 1099511627776 = true) (h2 : Nat.ble N 1099511627776 = true) (h3 : Nat.beq (Array.size ⟨z⟩ : Nat) i.size = true) (h4 : Nat.blt 0 i.size = true)
    (h : ∀ b, Θ (.slice (some ⟨b, 0, none⟩) N N) ((b, .row (List.replicate N z).flatten i.size false) :: H)) : StepT C hd (.makeSlice t x y) l H Θ := by
  refine st_A (ob := .row (List.replicate N z).flatten i.size false) (mk := fun b => .slice (some ⟨b, 0, none⟩) N N) (cov2 hx hy) ?_ (fun s => ?_) ?_ h
  · rfl
  · rfl
  · simp only [aA, rhoL_eq hx, rhoL_eq hy, natOf_nat, hu, hi, hz, Nat.ble_eq_true_of_le (Nat.le_refl N), h1, h2, h3, h4]
end
end Go.Proofs.Ythcohphflhkceaa.Abs
