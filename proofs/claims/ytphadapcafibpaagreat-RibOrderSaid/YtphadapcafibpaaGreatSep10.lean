/- makeSlice with a length that is not a number. -/
import Derived.Test.YtphadapcafibpaaGreatSep9
namespace Go.Proofs.YtphadapcafibpaaGreat.Abs
open Go
set_option linter.unusedVariables false
section
variable {C : Ctx} {hd : HH Prop} {l : Sl} {H : Hp} {x y : Operand} {t e : TypeId} {Θ : Value → Hp → Prop}
theorem natOf_nat (k : IntKind) (n : Nat) : natOf (.int k (n : Int)) = some n := by simp [natOf]
end
end Go.Proofs.YtphadapcafibpaaGreat.Abs
