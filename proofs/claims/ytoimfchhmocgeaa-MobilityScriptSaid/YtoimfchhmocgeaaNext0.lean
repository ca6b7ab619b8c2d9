/- Contracts of Next, the program's and the reference's, and of the statement MobilityNext. -/
import Derived.Test.YtoimfchhmocgeaaStr
import Derived.Test.YtoimfchhmocgeaaAuto
import Derived.Test.YtoimfchhmocgeaaSep12
namespace Go.Proofs.Ytoimfchhmocgeaa.Abs
open Go
set_option linter.unusedVariables false
/-- What Next returns. -/
def nextM (o : Int) (known : Bool) (self : Int) (r : S27) : Int × Bool :=
  if r.a3 = 0 then (o, true)
  else if r.a4 = true then (if r.a2 > o then r.a2 else o, true)
  else if known = false then (if r.a2 = 4294967295 then r.a2 else IntKind.u32.wrap (r.a2 + 1), true)
  else if o > r.a2 ∨ (o = r.a2 ∧ self < r.a3) then (o, true) else (0, false)
section
variable {B0 : Nat} {old : Nat → Option (List Value)} {n : Nat} {H : Hp} {Q : Value → Hp → Prop}
set_option maxRecDepth 10000
set_option maxHeartbeats 4000000
theorem after_ct (x : Int) (h : Q (.int .u32 (if x = 4294967295 then x else IntKind.u32.wrap (x + 1))) H) : CallT (cx B0 old) (acall (cx B0 old) ansP (n + 1)) 41 [.int .u32 x] H Q := by
  refine call_in1 8 rfl Try.func41 rfl rfl ?_
  repeat' (first | refine Z0 ?_ | (refine ZR ?_; first | refine x1 ?_ | refine x2 ?_ | refine x8 ?_ | refine Z1 ?_ | refine Z2 ?_ | refine x3 fun _ => ?_ | refine x4 fun _ => ?_ | refine x5 fun _ => ?_ | refine Z3 fun _ => ?_ | refine Z4 fun _ => ?_) | refine Za ?_ | refine Zb ?_ | refine Zl ?_ | refine Zc ?_ | refine Ze ?_ | refine Zi ?_ | refine Zj ?_ | refine Zf ?_ | refine Zg ?_ | refine Zm ?_ | refine Zn ?_ | refine Zo ?_ | refine Zp ?_ | refine Zq ?_ | refine Zr ?_ | refine Zk ?_ | refine Y0 ?_ | (refine YP ?_; first | refine y1 ?_ | refine y2 ?_ | refine Y1 ?_ | refine Y2 ?_) | (refine isPlan ?_; refine y3 ?_) | (first | (refine isRun ?_; refine z1 (fun hc => ?_) (fun hc => ?_)) | refine z2 (fun hc => ?_) (fun hc => ?_) | (refine isPlan ?_; refine z3 (fun hc => ?_) (fun hc => ?_))))
  · rw [if_pos hc] at h
    exact re_1 rfl rfl (by exact drop_auto) h
  · rw [if_neg hc] at h
    exact re_1 rfl rfl (by exact drop_auto) h
theorem after2_ct (x : Int) (h : Q (.int .u32 (if x = 4294967295 then x else IntKind.u32.wrap (x + 1))) H) : CallT (cx B0 old) (acall (cx B0 old) ansP (n + 1)) 42 [.int .u32 x] H Q := by
  refine call_in1 8 rfl Try.func42 rfl rfl ?_
  repeat' (first | refine Z0 ?_ | (refine ZR ?_; first | refine x1 ?_ | refine x2 ?_ | refine x8 ?_ | refine Z1 ?_ | refine Z2 ?_ | refine x3 fun _ => ?_ | refine x4 fun _ => ?_ | refine x5 fun _ => ?_ | refine Z3 fun _ => ?_ | refine Z4 fun _ => ?_) | refine Za ?_ | refine Zb ?_ | refine Zl ?_ | refine Zc ?_ | refine Ze ?_ | refine Zi ?_ | refine Zj ?_ | refine Zf ?_ | refine Zg ?_ | refine Zm ?_ | refine Zn ?_ | refine Zo ?_ | refine Zp ?_ | refine Zq ?_ | refine Zr ?_ | refine Zk ?_ | refine Y0 ?_ | (refine YP ?_; first | refine y1 ?_ | refine y2 ?_ | refine Y1 ?_ | refine Y2 ?_) | (refine isPlan ?_; refine y3 ?_) | (first | (refine isRun ?_; refine z1 (fun hc => ?_) (fun hc => ?_)) | refine z2 (fun hc => ?_) (fun hc => ?_) | (refine isPlan ?_; refine z3 (fun hc => ?_) (fun hc => ?_))))
  · rw [if_pos hc] at h
    exact re_1 rfl rfl (by exact drop_auto) h
  · rw [if_neg hc] at h
    exact re_1 rfl rfl (by exact drop_auto) h
theorem next_ct (known : Bool) (own self : Int) (r : S27) (o : Int) (ho : o = if known = true then own else 0) (h : ∀ v b, (v, b) = nextM o known self r → Q (.tuple #[.int .u32 v, .bool b]) H) :
    CallT (cx B0 old) (acall (cx B0 old) ansP (n + 2)) 11 [.bool known, .int .u32 own, .int .u32 self, .agg ⟨en27 r⟩] H Q := by
  refine call_in4 48 rfl Try.func11 rfl rfl ?_
  repeat (first | refine Z0 ?_ | (refine ZR ?_; first | refine x1 ?_ | refine x2 ?_ | refine x8 ?_ | refine Z1 ?_ | refine Z2 ?_ | refine x3 fun _ => ?_ | refine x4 fun _ => ?_ | refine x5 fun _ => ?_ | refine Z3 fun _ => ?_ | refine Z4 fun _ => ?_) | refine ZC ?_)
  rename_i bx
  refine ct_mid ([(1, .int .u32 o), (0, .bool known), (2, .int .u32 self), (7, .pointer (some ⟨bx, 0, none⟩)), (8, .int .u32 0), (9, .bool false)]) ((bx, .row (en27 r) 5 false) :: H) ?_ ?_
  · repeat' (first | refine Z0 ?_ | (refine ZR ?_; first | refine x1 ?_ | refine x2 ?_ | refine x8 ?_ | refine Z1 ?_ | refine Z2 ?_ | refine x3 fun _ => ?_ | refine x4 fun _ => ?_ | refine x5 fun _ => ?_ | refine Z3 fun _ => ?_ | refine Z4 fun _ => ?_) | refine Za ?_ | refine Zb ?_ | refine Zl ?_ | refine Zc ?_ | refine Ze ?_ | refine Zi ?_ | refine Zj ?_ | refine Zf ?_ | refine Zg ?_ | refine Zm ?_ | refine Zn ?_ | refine Zo ?_ | refine Zp ?_ | refine Zq ?_ | refine Zr ?_ | refine Zk ?_ | refine Y0 ?_ | (refine YP ?_; first | refine y1 ?_ | refine y2 ?_ | refine Y1 ?_ | refine Y2 ?_) | (refine isPlan ?_; refine y3 ?_) | (first | (refine isRun ?_; refine z1 (fun hc => ?_) (fun hc => ?_)) | refine z2 (fun hc => ?_) (fun hc => ?_) | (refine isPlan ?_; refine z3 (fun hc => ?_) (fun hc => ?_))))
    all_goals refine ⟨SubL.consI rfl ?_ (by repeat (first | exact SubL.nil | refine SubL.cons rfl ?_)), by exact drop_auto⟩
    all_goals simp_all
  repeat' (first | refine Z0 ?_ | (refine ZR ?_; first | refine x1 ?_ | refine x2 ?_ | refine x8 ?_ | refine Z1 ?_ | refine Z2 ?_ | refine x3 fun _ => ?_ | refine x4 fun _ => ?_ | refine x5 fun _ => ?_ | refine Z3 fun _ => ?_ | refine Z4 fun _ => ?_) | refine Za ?_ | refine Zb ?_ | refine Zl ?_ | refine Zc ?_ | refine Ze ?_ | refine Zi ?_ | refine Zj ?_ | refine Zf ?_ | refine Zg ?_ | refine Zm ?_ | refine Zn ?_ | refine Zo ?_ | refine Zp ?_ | refine Zq ?_ | refine Zr ?_ | refine Zk ?_ | refine Y0 ?_ | (refine YP ?_; first | refine y1 ?_ | refine y2 ?_ | refine Y1 ?_ | refine Y2 ?_) | (refine isPlan ?_; refine y3 ?_) | (first | (refine isRun ?_; refine z1 (fun hc => ?_) (fun hc => ?_)) | refine z2 (fun hc => ?_) (fun hc => ?_) | (refine isPlan ?_; refine z3 (fun hc => ?_) (fun hc => ?_))))
  all_goals try (refine rt_step rfl rfl rfl (st_call rfl rfl rfl rfl (after_ct _ ?_)))
  all_goals repeat (first | refine Z0 ?_ | (refine ZR ?_; first | refine x1 ?_ | refine x2 ?_ | refine x8 ?_ | refine Z1 ?_ | refine Z2 ?_ | refine x3 fun _ => ?_ | refine x4 fun _ => ?_ | refine x5 fun _ => ?_ | refine Z3 fun _ => ?_ | refine Z4 fun _ => ?_) | refine ZC ?_)
  all_goals refine re_2 rfl rfl rfl (by exact drop_auto) (h _ _ ?_)
  all_goals clear h ho
  all_goals unfold nextM
  all_goals repeat' split
  all_goals first | (with_reducible rfl) | contradiction | (exfalso; omega) | exact absurd ((‹r.a4 = true›).symm.trans ‹r.a4 = false›) (by decide) | exact absurd ((‹known = true›).symm.trans ‹known = false›) (by decide) | (exact absurd ‹known = true› (Bool.not_eq_true _ ▸ ‹known = false›))
theorem next2_ct (known : Bool) (own self : Int) (r : S27) (o : Int) (ho : o = if known = true then own else 0) (h : ∀ v b, (v, b) = nextM o known self r → Q (.tuple #[.int .u32 v, .bool b]) H) :
    CallT (cx B0 old) (acall (cx B0 old) ansP (n + 2)) 12 [.bool known, .int .u32 own, .int .u32 self, .agg ⟨en27 r⟩] H Q := by
  refine call_in4 48 rfl Try.func12 rfl rfl ?_
  repeat (first | refine Z0 ?_ | (refine ZR ?_; first | refine x1 ?_ | refine x2 ?_ | refine x8 ?_ | refine Z1 ?_ | refine Z2 ?_ | refine x3 fun _ => ?_ | refine x4 fun _ => ?_ | refine x5 fun _ => ?_ | refine Z3 fun _ => ?_ | refine Z4 fun _ => ?_) | refine ZC ?_)
  rename_i bx
  refine ct_mid ([(1, .int .u32 o), (0, .bool known), (2, .int .u32 self), (7, .pointer (some ⟨bx, 0, none⟩)), (8, .int .u32 0), (9, .bool false)]) ((bx, .row (en27 r) 5 false) :: H) ?_ ?_
  · repeat' (first | refine Z0 ?_ | (refine ZR ?_; first | refine x1 ?_ | refine x2 ?_ | refine x8 ?_ | refine Z1 ?_ | refine Z2 ?_ | refine x3 fun _ => ?_ | refine x4 fun _ => ?_ | refine x5 fun _ => ?_ | refine Z3 fun _ => ?_ | refine Z4 fun _ => ?_) | refine Za ?_ | refine Zb ?_ | refine Zl ?_ | refine Zc ?_ | refine Ze ?_ | refine Zi ?_ | refine Zj ?_ | refine Zf ?_ | refine Zg ?_ | refine Zm ?_ | refine Zn ?_ | refine Zo ?_ | refine Zp ?_ | refine Zq ?_ | refine Zr ?_ | refine Zk ?_ | refine Y0 ?_ | (refine YP ?_; first | refine y1 ?_ | refine y2 ?_ | refine Y1 ?_ | refine Y2 ?_) | (refine isPlan ?_; refine y3 ?_) | (first | (refine isRun ?_; refine z1 (fun hc => ?_) (fun hc => ?_)) | refine z2 (fun hc => ?_) (fun hc => ?_) | (refine isPlan ?_; refine z3 (fun hc => ?_) (fun hc => ?_))))
    all_goals refine ⟨SubL.consI rfl ?_ (by repeat (first | exact SubL.nil | refine SubL.cons rfl ?_)), by exact drop_auto⟩
    all_goals simp_all
  repeat' (first | refine Z0 ?_ | (refine ZR ?_; first | refine x1 ?_ | refine x2 ?_ | refine x8 ?_ | refine Z1 ?_ | refine Z2 ?_ | refine x3 fun _ => ?_ | refine x4 fun _ => ?_ | refine x5 fun _ => ?_ | refine Z3 fun _ => ?_ | refine Z4 fun _ => ?_) | refine Za ?_ | refine Zb ?_ | refine Zl ?_ | refine Zc ?_ | refine Ze ?_ | refine Zi ?_ | refine Zj ?_ | refine Zf ?_ | refine Zg ?_ | refine Zm ?_ | refine Zn ?_ | refine Zo ?_ | refine Zp ?_ | refine Zq ?_ | refine Zr ?_ | refine Zk ?_ | refine Y0 ?_ | (refine YP ?_; first | refine y1 ?_ | refine y2 ?_ | refine Y1 ?_ | refine Y2 ?_) | (refine isPlan ?_; refine y3 ?_) | (first | (refine isRun ?_; refine z1 (fun hc => ?_) (fun hc => ?_)) | refine z2 (fun hc => ?_) (fun hc => ?_) | (refine isPlan ?_; refine z3 (fun hc => ?_) (fun hc => ?_))))
  all_goals try (refine rt_step rfl rfl rfl (st_call rfl rfl rfl rfl (after2_ct _ ?_)))
  all_goals repeat (first | refine Z0 ?_ | (refine ZR ?_; first | refine x1 ?_ | refine x2 ?_ | refine x8 ?_ | refine Z1 ?_ | refine Z2 ?_ | refine x3 fun _ => ?_ | refine x4 fun _ => ?_ | refine x5 fun _ => ?_ | refine Z3 fun _ => ?_ | refine Z4 fun _ => ?_) | refine ZC ?_)
  all_goals refine re_2 rfl rfl rfl (by exact drop_auto) (h _ _ ?_)
  all_goals clear h ho
  all_goals unfold nextM
  all_goals repeat' split
  all_goals first | (with_reducible rfl) | contradiction | (exfalso; omega) | exact absurd ((‹r.a4 = true›).symm.trans ‹r.a4 = false›) (by decide) | exact absurd ((‹known = true›).symm.trans ‹known = false›) (by decide) | (exact absurd ‹known = true› (Bool.not_eq_true _ ▸ ‹known = false›))
end
end Go.Proofs.Ytoimfchhmocgeaa.Abs
