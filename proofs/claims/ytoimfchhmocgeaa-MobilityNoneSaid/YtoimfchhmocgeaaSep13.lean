/- Empty maps compared; calls entered in place. -/
import Derived.Test.YtoimfchhmocgeaaSep12
namespace Go.Proofs.Ytoimfchhmocgeaa.Abs
open Go
set_option linter.unusedVariables false
section
variable {C : Ctx} {l : Sl} {x y : Operand} {t yt kt et : TypeId}
theorem p_eqMN (h : evalL l x = some (.map none)) (h2 : evalL l y = some (.map none)) (hu : C.P.underlying t = some (.map kt et)) : PureT C (.binOp .eql t x y yt) l (.bool true) := by
  unfold PureT
  refine ⟨cov2 h h2, ?_⟩
  have e : aequal C Op.maxDepth t (.map none) (.map none) = some true := by unfold Op.maxDepth; simp only [aequal, hu]; rfl
  simp only [aP, rhoL_eq h, rhoL_eq h2, abin, eqIdle, e, Option.map_some]
theorem p_neMN (h : evalL l x = some (.map none)) (h2 : evalL l y = some (.map none)) (hu : C.P.underlying t = some (.map kt et)) : PureT C (.binOp .neq t x y yt) l (.bool false) := by
  unfold PureT
  refine ⟨cov2 h h2, ?_⟩
  have e : aequal C Op.maxDepth t (.map none) (.map none) = some true := by unfold Op.maxDepth; simp only [aequal, hu]; rfl
  simp only [aP, rhoL_eq h, rhoL_eq h2, abin, eqIdle, e, Option.map_some]
  rfl
end
end Go.Proofs.Ytoimfchhmocgeaa.Abs
