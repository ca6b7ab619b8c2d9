/- Empty maps compared; calls entered in place. -/
import Derived.Test.YthcohphflhkceaaSep12
namespace Go.Proofs.Ythcohphflhkceaa.Abs
open Go
set_option linter.unusedVariables false
section
variable {C : Ctx} {l : Sl} {x y : Operand} {t yt kt et : TypeId}
theorem p_eqMN (h : evalL l x = some (.map none)) (h2 : evalL l y = some (.map none)) (hu : C.P.underlying t = some (.map kt et)) : PureT C (.binOp .eql t x y yt) l (.bool true) := by
  unfold PureT
  refine ⟨cov2 h h2, ?_⟩
  have e : aequal C Op.maxDepth t (.map none) (.map none) = some true := by unfold Op.maxDepth; simp only [aequal, hu]; rfl
  simp only [aP, rhoL_eq h, rhoL_eq h2, abin, eqIdle, e, Option.map_some]
theorem p_neMN (h : evalL l x = some (.map none)) (h2 : evalL l y = some (.map none)) (hu : C.P.underlying t = some (.map kt et)) : PureT C (.binOp .neq t x y yt) l (.bool false) := by
  unfold PureT
  refine ⟨cov2 h h2, ?_⟩
  have e : aequal C Op.maxDepth t (.map none) (.map none) = some true := by unfold Op.maxDepth; simp only [aequal, hu]; rfl
  simp only [aP, rhoL_eq h, rhoL_eq h2, abin, eqIdle, e, Option.map_some]
  rfl
end
section
variable {C : Ctx} {l : Sl} {H H' : Hp} {v : Value}
/-- A whole variable and a slot as results. -/
theorem re_c2 {Q : Value → Hp → Prop} {rs : List ResultVar} {a t t2 b n : Nat} {cs : List Value} (hr : rs = [.cell a t, .tmp t2]) (ha : getL l a = some (.pointer (some ⟨b, 0, none⟩))) (hrow : RowIs C H b cs) (hg : aggAt C t = some true) (hn : sizeAt C t = some n) (hl : Nat.beq cs.length n = true)
    (h2 : getL l t2 = some v) (hs : H'.Sublist H) (hq : Q (.tuple #[.agg ⟨cs⟩, v]) H') : retΦ C rs Q .ret l H := by
  subst hr
  refine re_r hs (res_cell ha hrow hg hn (r := cs) ?_ rfl (res_tmp h2 (res_nil hq)))
  rw [if_pos rfl]
  have e := Nat.eq_of_beq_eq_true hl
  unfold cut
  simp only [List.drop_zero, ← e, List.take_length]
  simp
theorem re_c1 {Q : Value → Hp → Prop} {rs : List ResultVar} {a t b n : Nat} {cs : List Value} (hr : rs = [.cell a t]) (ha : getL l a = some (.pointer (some ⟨b, 0, none⟩))) (hrow : RowIs C H b cs) (hg : aggAt C t = some true) (hn : sizeAt C t = some n) (hl : Nat.beq cs.length n = true)
    (hs : H'.Sublist H) (hq : Q (.agg ⟨cs⟩) H') : retΦ C rs Q .ret l H := by
  subst hr
  refine re_r hs (res_cell ha hrow hg hn (r := cs) ?_ rfl (res_nil hq))
  rw [if_pos rfl]
  have e := Nat.eq_of_beq_eq_true hl
  unfold cut
  simp only [List.drop_zero, ← e, List.take_length]
  simp
end
end Go.Proofs.Ythcohphflhkceaa.Abs
