/- Ten bytes (of rP/Nb0). -/
import Derived.Test.YtphadapcafibpaaGreatBy
import Derived.Test.YtphadapcafibpaaGreatYa
import Derived.Test.YtphadapcafibpaaGreatYg
import Derived.Test.YtphadapcafibpaaGreatSep15
namespace Go.Proofs.YtphadapcafibpaaGreat.Abs
open Go
set_option linter.unusedVariables false
abbrev vY (x : Int) : Value := .int .u8 x
theorem map_at {E : List Int} {i : Nat} {x : Int} (hx : E[i]? = some x) : (E.map vY)[i]? = some (vY x) := by rw [List.getElem?_map, hx]; rfl
theorem ten {E : List Int} (h : E.length = 10) : ∃ a b c d e f g i j k, E = [a, b, c, d, e, f, g, i, j, k] := by
  match E, h with
  | [a, b, c, d, e, f, g, i, j, k], _ => exact ⟨a, b, c, d, e, f, g, i, j, k, rfl⟩
end Go.Proofs.YtphadapcafibpaaGreat.Abs

/- Contracts: comparisons of numbers; keys of routes. -/
namespace Go.Proofs.YtphadapcafibpaaGreat.Abs
open Go
set_option linter.unusedVariables false
section
variable {B0 : Nat} {old : Nat → Option (List Value)} {n : Nat} {H : Hp} {Q : Value → Hp → Prop} {L : List Int} {ad : Option Addr} {c : Nat}
set_option maxRecDepth 10000
set_option maxHeartbeats 4000000
theorem nan122_ct (a : Int) (hQ : Q (.bool false) H) : CallT (cx B0 old) (acall (cx B0 old) ansP (n + 1)) 122 [.int .i64 a] H Q := by
  refine call_in1 6 rfl Tryz.func122 rfl rfl ?_
  repeat (first | refine Z0 ?_ | (refine ZR ?_; first | refine x1 ?_ | refine x2 ?_ | refine x8 ?_ | refine Z1 ?_ | refine Z2 ?_ | refine x3 fun _ => ?_ | refine x4 fun _ => ?_ | refine x5 fun _ => ?_ | refine Z3 fun _ => ?_ | refine Z4 fun _ => ?_) | refine ZC ?_)
  exact re_1 rfl rfl (by exact drop_auto) (by rw [bne_self_eq_false]; exact hQ)
theorem cmp97_ct (a b : Int) (hQ : Q (.int .i64 (sgn a b)) H) : CallT (cx B0 old) (acall (cx B0 old) ansP (n + 2)) 97 [.int .i64 a, .int .i64 b] H Q := by
  unfold sgn at hQ
  refine call_in2 20 rfl Tryz.func97 rfl rfl ?_
  repeat (first | refine Z0 ?_ | (refine ZR ?_; first | refine x1 ?_ | refine x2 ?_ | refine x8 ?_ | refine Z1 ?_ | refine Z2 ?_ | refine x3 fun _ => ?_ | refine x4 fun _ => ?_ | refine x5 fun _ => ?_ | refine Z3 fun _ => ?_ | refine Z4 fun _ => ?_) | refine ZC ?_)
  refine rt_step rfl rfl rfl (st_call rfl rfl rfl rfl (nan122_ct a ?_))
  repeat (first | refine Z0 ?_ | (refine ZR ?_; first | refine x1 ?_ | refine x2 ?_ | refine x8 ?_ | refine Z1 ?_ | refine Z2 ?_ | refine x3 fun _ => ?_ | refine x4 fun _ => ?_ | refine x5 fun _ => ?_ | refine Z3 fun _ => ?_ | refine Z4 fun _ => ?_) | refine ZC ?_)
  refine rt_step rfl rfl rfl (st_call rfl rfl rfl rfl (nan122_ct b ?_))
  repeat' (first | refine Z0 ?_ | (refine ZR ?_; first | refine x1 ?_ | refine x2 ?_ | refine x8 ?_ | refine Z1 ?_ | refine Z2 ?_ | refine x3 fun _ => ?_ | refine x4 fun _ => ?_ | refine x5 fun _ => ?_ | refine Z3 fun _ => ?_ | refine Z4 fun _ => ?_) | refine Za ?_ | refine Zb ?_ | refine Zl ?_ | refine Zc ?_ | refine Ze ?_ | refine Zi ?_ | refine Zj ?_ | refine Zf ?_ | refine Zg ?_ | refine Zm ?_ | refine Zn ?_ | refine Zo ?_ | refine Zp ?_ | refine Zq ?_ | refine Zr ?_ | refine Zk ?_ | refine Y0 ?_ | (refine YP ?_; first | refine y1 ?_ | refine y2 ?_ | refine Y1 ?_ | refine Y2 ?_) | (refine isPlan ?_; refine y3 ?_) | (first | (refine isRun ?_; refine z1 (fun hc => ?_) (fun hc => ?_)) | refine z2 (fun hc => ?_) (fun hc => ?_) | (refine isPlan ?_; refine z3 (fun hc => ?_) (fun hc => ?_))))
  all_goals first | exact re_1 rfl rfl (by exact drop_auto) (by rwa [if_pos (by omega)] at hQ) | exact re_1 rfl rfl (by exact drop_auto) (by rwa [if_neg (by omega), if_pos (by omega)] at hQ) | exact re_1 rfl rfl (by exact drop_auto) (by rwa [if_neg (by omega), if_neg (by omega)] at hQ)
theorem nan123_ct (a : Int) (hQ : Q (.bool false) H) : CallT (cx B0 old) (acall (cx B0 old) ansP (n + 1)) 123 [.int .u64 a] H Q := by
  refine call_in1 6 rfl Tryz.func123 rfl rfl ?_
  repeat (first | refine Z0 ?_ | (refine ZR ?_; first | refine x1 ?_ | refine x2 ?_ | refine x8 ?_ | refine Z1 ?_ | refine Z2 ?_ | refine x3 fun _ => ?_ | refine x4 fun _ => ?_ | refine x5 fun _ => ?_ | refine Z3 fun _ => ?_ | refine Z4 fun _ => ?_) | refine ZC ?_)
  exact re_1 rfl rfl (by exact drop_auto) (by rw [bne_self_eq_false]; exact hQ)
theorem cmp98_ct (a b : Int) (hQ : Q (.int .i64 (sgn a b)) H) : CallT (cx B0 old) (acall (cx B0 old) ansP (n + 2)) 98 [.int .u64 a, .int .u64 b] H Q := by
  unfold sgn at hQ
  refine call_in2 20 rfl Tryz.func98 rfl rfl ?_
  repeat (first | refine Z0 ?_ | (refine ZR ?_; first | refine x1 ?_ | refine x2 ?_ | refine x8 ?_ | refine Z1 ?_ | refine Z2 ?_ | refine x3 fun _ => ?_ | refine x4 fun _ => ?_ | refine x5 fun _ => ?_ | refine Z3 fun _ => ?_ | refine Z4 fun _ => ?_) | refine ZC ?_)
  refine rt_step rfl rfl rfl (st_call rfl rfl rfl rfl (nan123_ct a ?_))
  repeat (first | refine Z0 ?_ | (refine ZR ?_; first | refine x1 ?_ | refine x2 ?_ | refine x8 ?_ | refine Z1 ?_ | refine Z2 ?_ | refine x3 fun _ => ?_ | refine x4 fun _ => ?_ | refine x5 fun _ => ?_ | refine Z3 fun _ => ?_ | refine Z4 fun _ => ?_) | refine ZC ?_)
  refine rt_step rfl rfl rfl (st_call rfl rfl rfl rfl (nan123_ct b ?_))
  repeat' (first | refine Z0 ?_ | (refine ZR ?_; first | refine x1 ?_ | refine x2 ?_ | refine x8 ?_ | refine Z1 ?_ | refine Z2 ?_ | refine x3 fun _ => ?_ | refine x4 fun _ => ?_ | refine x5 fun _ => ?_ | refine Z3 fun _ => ?_ | refine Z4 fun _ => ?_) | refine Za ?_ | refine Zb ?_ | refine Zl ?_ | refine Zc ?_ | refine Ze ?_ | refine Zi ?_ | refine Zj ?_ | refine Zf ?_ | refine Zg ?_ | refine Zm ?_ | refine Zn ?_ | refine Zo ?_ | refine Zp ?_ | refine Zq ?_ | refine Zr ?_ | refine Zk ?_ | refine Y0 ?_ | (refine YP ?_; first | refine y1 ?_ | refine y2 ?_ | refine Y1 ?_ | refine Y2 ?_) | (refine isPlan ?_; refine y3 ?_) | (first | (refine isRun ?_; refine z1 (fun hc => ?_) (fun hc => ?_)) | refine z2 (fun hc => ?_) (fun hc => ?_) | (refine isPlan ?_; refine z3 (fun hc => ?_) (fun hc => ?_))))
  all_goals first | exact re_1 rfl rfl (by exact drop_auto) (by rwa [if_pos (by omega)] at hQ) | exact re_1 rfl rfl (by exact drop_auto) (by rwa [if_neg (by omega), if_pos (by omega)] at hQ) | exact re_1 rfl rfl (by exact drop_auto) (by rwa [if_neg (by omega), if_neg (by omega)] at hQ)
theorem nan126_ct (a : Int) (hQ : Q (.bool false) H) : CallT (cx B0 old) (acall (cx B0 old) ansP (n + 1)) 126 [.int .u32 a] H Q := by
  refine call_in1 6 rfl Tryz.func126 rfl rfl ?_
  repeat (first | refine Z0 ?_ | (refine ZR ?_; first | refine x1 ?_ | refine x2 ?_ | refine x8 ?_ | refine Z1 ?_ | refine Z2 ?_ | refine x3 fun _ => ?_ | refine x4 fun _ => ?_ | refine x5 fun _ => ?_ | refine Z3 fun _ => ?_ | refine Z4 fun _ => ?_) | refine ZC ?_)
  exact re_1 rfl rfl (by exact drop_auto) (by rw [bne_self_eq_false]; exact hQ)
theorem cmp100_ct (a b : Int) (hQ : Q (.int .i64 (sgn a b)) H) : CallT (cx B0 old) (acall (cx B0 old) ansP (n + 2)) 100 [.int .u32 a, .int .u32 b] H Q := by
  unfold sgn at hQ
  refine call_in2 20 rfl Tryz.func100 rfl rfl ?_
  repeat (first | refine Z0 ?_ | (refine ZR ?_; first | refine x1 ?_ | refine x2 ?_ | refine x8 ?_ | refine Z1 ?_ | refine Z2 ?_ | refine x3 fun _ => ?_ | refine x4 fun _ => ?_ | refine x5 fun _ => ?_ | refine Z3 fun _ => ?_ | refine Z4 fun _ => ?_) | refine ZC ?_)
  refine rt_step rfl rfl rfl (st_call rfl rfl rfl rfl (nan126_ct a ?_))
  repeat (first | refine Z0 ?_ | (refine ZR ?_; first | refine x1 ?_ | refine x2 ?_ | refine x8 ?_ | refine Z1 ?_ | refine Z2 ?_ | refine x3 fun _ => ?_ | refine x4 fun _ => ?_ | refine x5 fun _ => ?_ | refine Z3 fun _ => ?_ | refine Z4 fun _ => ?_) | refine ZC ?_)
  refine rt_step rfl rfl rfl (st_call rfl rfl rfl rfl (nan126_ct b ?_))
  repeat' (first | refine Z0 ?_ | (refine ZR ?_; first | refine x1 ?_ | refine x2 ?_ | refine x8 ?_ | refine Z1 ?_ | refine Z2 ?_ | refine x3 fun _ => ?_ | refine x4 fun _ => ?_ | refine x5 fun _ => ?_ | refine Z3 fun _ => ?_ | refine Z4 fun _ => ?_) | refine Za ?_ | refine Zb ?_ | refine Zl ?_ | refine Zc ?_ | refine Ze ?_ | refine Zi ?_ | refine Zj ?_ | refine Zf ?_ | refine Zg ?_ | refine Zm ?_ | refine Zn ?_ | refine Zo ?_ | refine Zp ?_ | refine Zq ?_ | refine Zr ?_ | refine Zk ?_ | refine Y0 ?_ | (refine YP ?_; first | refine y1 ?_ | refine y2 ?_ | refine Y1 ?_ | refine Y2 ?_) | (refine isPlan ?_; refine y3 ?_) | (first | (refine isRun ?_; refine z1 (fun hc => ?_) (fun hc => ?_)) | refine z2 (fun hc => ?_) (fun hc => ?_) | (refine isPlan ?_; refine z3 (fun hc => ?_) (fun hc => ?_))))
  all_goals first | exact re_1 rfl rfl (by exact drop_auto) (by rwa [if_pos (by omega)] at hQ) | exact re_1 rfl rfl (by exact drop_auto) (by rwa [if_neg (by omega), if_pos (by omega)] at hQ) | exact re_1 rfl rfl (by exact drop_auto) (by rwa [if_neg (by omega), if_neg (by omega)] at hQ)
theorem nan127_ct (a : Int) (hQ : Q (.bool false) H) : CallT (cx B0 old) (acall (cx B0 old) ansP (n + 1)) 127 [.int .u64 a] H Q := by
  refine call_in1 6 rfl Tryz.func127 rfl rfl ?_
  repeat (first | refine Z0 ?_ | (refine ZR ?_; first | refine x1 ?_ | refine x2 ?_ | refine x8 ?_ | refine Z1 ?_ | refine Z2 ?_ | refine x3 fun _ => ?_ | refine x4 fun _ => ?_ | refine x5 fun _ => ?_ | refine Z3 fun _ => ?_ | refine Z4 fun _ => ?_) | refine ZC ?_)
  exact re_1 rfl rfl (by exact drop_auto) (by rw [bne_self_eq_false]; exact hQ)
theorem cmp101_ct (a b : Int) (hQ : Q (.int .i64 (sgn a b)) H) : CallT (cx B0 old) (acall (cx B0 old) ansP (n + 2)) 101 [.int .u64 a, .int .u64 b] H Q := by
  unfold sgn at hQ
  refine call_in2 20 rfl Tryz.func101 rfl rfl ?_
  repeat (first | refine Z0 ?_ | (refine ZR ?_; first | refine x1 ?_ | refine x2 ?_ | refine x8 ?_ | refine Z1 ?_ | refine Z2 ?_ | refine x3 fun _ => ?_ | refine x4 fun _ => ?_ | refine x5 fun _ => ?_ | refine Z3 fun _ => ?_ | refine Z4 fun _ => ?_) | refine ZC ?_)
  refine rt_step rfl rfl rfl (st_call rfl rfl rfl rfl (nan127_ct a ?_))
  repeat (first | refine Z0 ?_ | (refine ZR ?_; first | refine x1 ?_ | refine x2 ?_ | refine x8 ?_ | refine Z1 ?_ | refine Z2 ?_ | refine x3 fun _ => ?_ | refine x4 fun _ => ?_ | refine x5 fun _ => ?_ | refine Z3 fun _ => ?_ | refine Z4 fun _ => ?_) | refine ZC ?_)
  refine rt_step rfl rfl rfl (st_call rfl rfl rfl rfl (nan127_ct b ?_))
  repeat' (first | refine Z0 ?_ | (refine ZR ?_; first | refine x1 ?_ | refine x2 ?_ | refine x8 ?_ | refine Z1 ?_ | refine Z2 ?_ | refine x3 fun _ => ?_ | refine x4 fun _ => ?_ | refine x5 fun _ => ?_ | refine Z3 fun _ => ?_ | refine Z4 fun _ => ?_) | refine Za ?_ | refine Zb ?_ | refine Zl ?_ | refine Zc ?_ | refine Ze ?_ | refine Zi ?_ | refine Zj ?_ | refine Zf ?_ | refine Zg ?_ | refine Zm ?_ | refine Zn ?_ | refine Zo ?_ | refine Zp ?_ | refine Zq ?_ | refine Zr ?_ | refine Zk ?_ | refine Y0 ?_ | (refine YP ?_; first | refine y1 ?_ | refine y2 ?_ | refine Y1 ?_ | refine Y2 ?_) | (refine isPlan ?_; refine y3 ?_) | (first | (refine isRun ?_; refine z1 (fun hc => ?_) (fun hc => ?_)) | refine z2 (fun hc => ?_) (fun hc => ?_) | (refine isPlan ?_; refine z3 (fun hc => ?_) (fun hc => ?_))))
  all_goals first | exact re_1 rfl rfl (by exact drop_auto) (by rwa [if_pos (by omega)] at hQ) | exact re_1 rfl rfl (by exact drop_auto) (by rwa [if_neg (by omega), if_pos (by omega)] at hQ) | exact re_1 rfl rfl (by exact drop_auto) (by rwa [if_neg (by omega), if_neg (by omega)] at hQ)
theorem nan128_ct (a : Int) (hQ : Q (.bool false) H) : CallT (cx B0 old) (acall (cx B0 old) ansP (n + 1)) 128 [.int .u32 a] H Q := by
  refine call_in1 6 rfl Tryz.func128 rfl rfl ?_
  repeat (first | refine Z0 ?_ | (refine ZR ?_; first | refine x1 ?_ | refine x2 ?_ | refine x8 ?_ | refine Z1 ?_ | refine Z2 ?_ | refine x3 fun _ => ?_ | refine x4 fun _ => ?_ | refine x5 fun _ => ?_ | refine Z3 fun _ => ?_ | refine Z4 fun _ => ?_) | refine ZC ?_)
  exact re_1 rfl rfl (by exact drop_auto) (by rw [bne_self_eq_false]; exact hQ)
theorem cmp103_ct (a b : Int) (hQ : Q (.int .i64 (sgn a b)) H) : CallT (cx B0 old) (acall (cx B0 old) ansP (n + 2)) 103 [.int .u32 a, .int .u32 b] H Q := by
  unfold sgn at hQ
  refine call_in2 20 rfl Tryz.func103 rfl rfl ?_
  repeat (first | refine Z0 ?_ | (refine ZR ?_; first | refine x1 ?_ | refine x2 ?_ | refine x8 ?_ | refine Z1 ?_ | refine Z2 ?_ | refine x3 fun _ => ?_ | refine x4 fun _ => ?_ | refine x5 fun _ => ?_ | refine Z3 fun _ => ?_ | refine Z4 fun _ => ?_) | refine ZC ?_)
  refine rt_step rfl rfl rfl (st_call rfl rfl rfl rfl (nan128_ct a ?_))
  repeat (first | refine Z0 ?_ | (refine ZR ?_; first | refine x1 ?_ | refine x2 ?_ | refine x8 ?_ | refine Z1 ?_ | refine Z2 ?_ | refine x3 fun _ => ?_ | refine x4 fun _ => ?_ | refine x5 fun _ => ?_ | refine Z3 fun _ => ?_ | refine Z4 fun _ => ?_) | refine ZC ?_)
  refine rt_step rfl rfl rfl (st_call rfl rfl rfl rfl (nan128_ct b ?_))
  repeat' (first | refine Z0 ?_ | (refine ZR ?_; first | refine x1 ?_ | refine x2 ?_ | refine x8 ?_ | refine Z1 ?_ | refine Z2 ?_ | refine x3 fun _ => ?_ | refine x4 fun _ => ?_ | refine x5 fun _ => ?_ | refine Z3 fun _ => ?_ | refine Z4 fun _ => ?_) | refine Za ?_ | refine Zb ?_ | refine Zl ?_ | refine Zc ?_ | refine Ze ?_ | refine Zi ?_ | refine Zj ?_ | refine Zf ?_ | refine Zg ?_ | refine Zm ?_ | refine Zn ?_ | refine Zo ?_ | refine Zp ?_ | refine Zq ?_ | refine Zr ?_ | refine Zk ?_ | refine Y0 ?_ | (refine YP ?_; first | refine y1 ?_ | refine y2 ?_ | refine Y1 ?_ | refine Y2 ?_) | (refine isPlan ?_; refine y3 ?_) | (first | (refine isRun ?_; refine z1 (fun hc => ?_) (fun hc => ?_)) | refine z2 (fun hc => ?_) (fun hc => ?_) | (refine isPlan ?_; refine z3 (fun hc => ?_) (fun hc => ?_))))
  all_goals first | exact re_1 rfl rfl (by exact drop_auto) (by rwa [if_pos (by omega)] at hQ) | exact re_1 rfl rfl (by exact drop_auto) (by rwa [if_neg (by omega), if_pos (by omega)] at hQ) | exact re_1 rfl rfl (by exact drop_auto) (by rwa [if_neg (by omega), if_neg (by omega)] at hQ)
theorem nan139_ct (a : Int) (hQ : Q (.bool false) H) : CallT (cx B0 old) (acall (cx B0 old) ansP (n + 1)) 139 [.int .u8 a] H Q := by
  refine call_in1 6 rfl Tryz.func139 rfl rfl ?_
  repeat (first | refine Z0 ?_ | (refine ZR ?_; first | refine x1 ?_ | refine x2 ?_ | refine x8 ?_ | refine Z1 ?_ | refine Z2 ?_ | refine x3 fun _ => ?_ | refine x4 fun _ => ?_ | refine x5 fun _ => ?_ | refine Z3 fun _ => ?_ | refine Z4 fun _ => ?_) | refine ZC ?_)
  exact re_1 rfl rfl (by exact drop_auto) (by rw [bne_self_eq_false]; exact hQ)
theorem cmp125_ct (a b : Int) (hQ : Q (.int .i64 (sgn a b)) H) : CallT (cx B0 old) (acall (cx B0 old) ansP (n + 2)) 125 [.int .u8 a, .int .u8 b] H Q := by
  unfold sgn at hQ
  refine call_in2 20 rfl Tryz.func125 rfl rfl ?_
  repeat (first | refine Z0 ?_ | (refine ZR ?_; first | refine x1 ?_ | refine x2 ?_ | refine x8 ?_ | refine Z1 ?_ | refine Z2 ?_ | refine x3 fun _ => ?_ | refine x4 fun _ => ?_ | refine x5 fun _ => ?_ | refine Z3 fun _ => ?_ | refine Z4 fun _ => ?_) | refine ZC ?_)
  refine rt_step rfl rfl rfl (st_call rfl rfl rfl rfl (nan139_ct a ?_))
  repeat (first | refine Z0 ?_ | (refine ZR ?_; first | refine x1 ?_ | refine x2 ?_ | refine x8 ?_ | refine Z1 ?_ | refine Z2 ?_ | refine x3 fun _ => ?_ | refine x4 fun _ => ?_ | refine x5 fun _ => ?_ | refine Z3 fun _ => ?_ | refine Z4 fun _ => ?_) | refine ZC ?_)
  refine rt_step rfl rfl rfl (st_call rfl rfl rfl rfl (nan139_ct b ?_))
  repeat' (first | refine Z0 ?_ | (refine ZR ?_; first | refine x1 ?_ | refine x2 ?_ | refine x8 ?_ | refine Z1 ?_ | refine Z2 ?_ | refine x3 fun _ => ?_ | refine x4 fun _ => ?_ | refine x5 fun _ => ?_ | refine Z3 fun _ => ?_ | refine Z4 fun _ => ?_) | refine Za ?_ | refine Zb ?_ | refine Zl ?_ | refine Zc ?_ | refine Ze ?_ | refine Zi ?_ | refine Zj ?_ | refine Zf ?_ | refine Zg ?_ | refine Zm ?_ | refine Zn ?_ | refine Zo ?_ | refine Zp ?_ | refine Zq ?_ | refine Zr ?_ | refine Zk ?_ | refine Y0 ?_ | (refine YP ?_; first | refine y1 ?_ | refine y2 ?_ | refine Y1 ?_ | refine Y2 ?_) | (refine isPlan ?_; refine y3 ?_) | (first | (refine isRun ?_; refine z1 (fun hc => ?_) (fun hc => ?_)) | refine z2 (fun hc => ?_) (fun hc => ?_) | (refine isPlan ?_; refine z3 (fun hc => ?_) (fun hc => ?_))))
  all_goals first | exact re_1 rfl rfl (by exact drop_auto) (by rwa [if_pos (by omega)] at hQ) | exact re_1 rfl rfl (by exact drop_auto) (by rwa [if_neg (by omega), if_pos (by omega)] at hQ) | exact re_1 rfl rfl (by exact drop_auto) (by rwa [if_neg (by omega), if_neg (by omega)] at hQ)
theorem cmp58_ct (a b : Int) (hQ : Q (.int .i64 (sgn a b)) H) : CallT (cx B0 old) (acall (cx B0 old) ansP (n + 1)) 58 [.int .u64 a, .int .u64 b] H Q := by
  unfold sgn at hQ
  refine call_in2 13 rfl Tryz.func58 rfl rfl ?_
  repeat' (first | refine Z0 ?_ | (refine ZR ?_; first | refine x1 ?_ | refine x2 ?_ | refine x8 ?_ | refine Z1 ?_ | refine Z2 ?_ | refine x3 fun _ => ?_ | refine x4 fun _ => ?_ | refine x5 fun _ => ?_ | refine Z3 fun _ => ?_ | refine Z4 fun _ => ?_) | refine Za ?_ | refine Zb ?_ | refine Zl ?_ | refine Zc ?_ | refine Ze ?_ | refine Zi ?_ | refine Zj ?_ | refine Zf ?_ | refine Zg ?_ | refine Zm ?_ | refine Zn ?_ | refine Zo ?_ | refine Zp ?_ | refine Zq ?_ | refine Zr ?_ | refine Zk ?_ | refine Y0 ?_ | (refine YP ?_; first | refine y1 ?_ | refine y2 ?_ | refine Y1 ?_ | refine Y2 ?_) | (refine isPlan ?_; refine y3 ?_) | (first | (refine isRun ?_; refine z1 (fun hc => ?_) (fun hc => ?_)) | refine z2 (fun hc => ?_) (fun hc => ?_) | (refine isPlan ?_; refine z3 (fun hc => ?_) (fun hc => ?_))))
  all_goals first | exact re_1 rfl rfl (by exact drop_auto) (by rwa [if_pos (by omega)] at hQ) | exact re_1 rfl rfl (by exact drop_auto) (by rwa [if_neg (by omega), if_pos (by omega)] at hQ) | exact re_1 rfl rfl (by exact drop_auto) (by rwa [if_neg (by omega), if_neg (by omega)] at hQ)
theorem cmp89_ct (a b : Int) (hQ : Q (.int .i64 (sgn a b)) H) : CallT (cx B0 old) (acall (cx B0 old) ansP (n + 1)) 89 [.int .i64 a, .int .i64 b] H Q := by
  unfold sgn at hQ
  refine call_in2 13 rfl Tryz.func89 rfl rfl ?_
  repeat' (first | refine Z0 ?_ | (refine ZR ?_; first | refine x1 ?_ | refine x2 ?_ | refine x8 ?_ | refine Z1 ?_ | refine Z2 ?_ | refine x3 fun _ => ?_ | refine x4 fun _ => ?_ | refine x5 fun _ => ?_ | refine Z3 fun _ => ?_ | refine Z4 fun _ => ?_) | refine Za ?_ | refine Zb ?_ | refine Zl ?_ | refine Zc ?_ | refine Ze ?_ | refine Zi ?_ | refine Zj ?_ | refine Zf ?_ | refine Zg ?_ | refine Zm ?_ | refine Zn ?_ | refine Zo ?_ | refine Zp ?_ | refine Zq ?_ | refine Zr ?_ | refine Zk ?_ | refine Y0 ?_ | (refine YP ?_; first | refine y1 ?_ | refine y2 ?_ | refine Y1 ?_ | refine Y2 ?_) | (refine isPlan ?_; refine y3 ?_) | (first | (refine isRun ?_; refine z1 (fun hc => ?_) (fun hc => ?_)) | refine z2 (fun hc => ?_) (fun hc => ?_) | (refine isPlan ?_; refine z3 (fun hc => ?_) (fun hc => ?_))))
  all_goals first | exact re_1 rfl rfl (by exact drop_auto) (by rwa [if_pos (by omega)] at hQ) | exact re_1 rfl rfl (by exact drop_auto) (by rwa [if_neg (by omega), if_pos (by omega)] at hQ) | exact re_1 rfl rfl (by exact drop_auto) (by rwa [if_neg (by omega), if_neg (by omega)] at hQ)
theorem order102_ct (a b : Bool) (hQ : Q (.int .i64 (sgn (b2i a) (b2i b))) H) : CallT (cx B0 old) (acall (cx B0 old) ansP (n + 1)) 102 [.bool a, .bool b] H Q := by
  refine call_in2 11 rfl Tryz.func102 rfl rfl ?_
  cases a <;> cases b
  all_goals
    repeat (first | refine Z0 ?_ | (refine ZR ?_; first | refine x1 ?_ | refine x2 ?_ | refine x8 ?_ | refine Z1 ?_ | refine Z2 ?_ | refine x3 fun _ => ?_ | refine x4 fun _ => ?_ | refine x5 fun _ => ?_ | refine Z3 fun _ => ?_ | refine Z4 fun _ => ?_) | refine ZC ?_)
    exact re_1 rfl rfl (by exact drop_auto) hQ
theorem number60_ct (a : Bool) (hQ : Q (.int .u64 (b2i a)) H) : CallT (cx B0 old) (acall (cx B0 old) ansP (n + 1)) 60 [.bool a] H Q := by
  refine call_in1 4 rfl Tryz.func60 rfl rfl ?_
  cases a
  all_goals
    repeat (first | refine Z0 ?_ | (refine ZR ?_; first | refine x1 ?_ | refine x2 ?_ | refine x8 ?_ | refine Z1 ?_ | refine Z2 ?_ | refine x3 fun _ => ?_ | refine x4 fun _ => ?_ | refine x5 fun _ => ?_ | refine Z3 fun _ => ?_ | refine Z4 fun _ => ?_) | refine ZC ?_)
    exact re_1 rfl rfl (by exact drop_auto) hQ
def encI (x : Int) : List Value := [.int .i64 x]
theorem encI_len (x : Int) : (encI x).length = 1 := rfl
theorem or96_ct (h1 : Arr (cx B0 old) H ad 1 encI L) (hl : L.length ≤ 100000) (hQ : Q (.int .i64 (orL L)) H) : CallT (cx B0 old) (acall (cx B0 old) ansP (n + 1)) 96 [.slice ad L.length c] H Q := by
  refine call_in1 18 rfl Tryz.func96 rfl rfl ?_
  repeat (first | refine Z0 ?_ | (refine ZR ?_; first | refine x1 ?_ | refine x2 ?_ | refine x8 ?_ | refine Z1 ?_ | refine Z2 ?_ | refine x3 fun _ => ?_ | refine x4 fun _ => ?_ | refine x5 fun _ => ?_ | refine Z3 fun _ => ?_ | refine Z4 fun _ => ?_) | refine ZC ?_)
  refine loop_ind (ι := Nat) 0 (fun i => L.length - i) (fun i => i ≤ L.length ∧ orL (L.drop i) = orL L) (fun i => [(8, .int .i64 (i : Int)), (7, .int .i64 L.length), (6, .slice ad L.length c), (3, .int .i64 0)]) (fun _ => H) ⟨Nat.zero_le _, rfl⟩ (by repeat (first | exact SubL.nil | refine SubL.cons rfl ?_)) (by exact drop_auto) ?_
  rintro i ⟨hi, ho⟩
  repeat (first | refine Z0 ?_ | (refine ZR ?_; first | refine x1 ?_ | refine x2 ?_ | refine x8 ?_ | refine Z1 ?_ | refine Z2 ?_ | refine x3 fun _ => ?_ | refine x4 fun _ => ?_ | refine x5 fun _ => ?_ | refine Z3 fun _ => ?_ | refine Z4 fun _ => ?_) | refine ZC ?_)
  refine ct_condT te_d rfl (fun hc => ?_) (fun hc => ?_)
  · have hlt : i < L.length := by omega
    obtain ⟨x, hx⟩ : ∃ x, L[i]? = some x := ⟨_, List.getElem?_eq_getElem hlt⟩
    obtain ⟨b1, o1, rfl, hL0⟩ := h1.ld1 3 hx rfl rfl (sz rfl)
    have hd : L.drop i = x :: L.drop (i + 1) := by
      rw [List.drop_eq_getElem_cons hlt]
      rw [List.getElem?_eq_getElem hlt] at hx
      rw [Option.some.inj hx]
    rw [hd, orL] at ho
    repeat (first | refine Z0 ?_ | (refine ZR ?_; first | refine x1 ?_ | refine x2 ?_ | refine x8 ?_ | refine Z1 ?_ | refine Z2 ?_ | refine x3 fun _ => ?_ | refine x4 fun _ => ?_ | refine x5 fun _ => ?_ | refine Z3 fun _ => ?_ | refine Z4 fun _ => ?_) | refine ZC ?_)
    refine ct_condT te_ne rfl (fun hd => ?_) (fun hd => ?_)
    · rw [if_neg hd] at ho
      repeat (first | refine Z0 ?_ | (refine ZR ?_; first | refine x1 ?_ | refine x2 ?_ | refine x8 ?_ | refine Z1 ?_ | refine Z2 ?_ | refine x3 fun _ => ?_ | refine x4 fun _ => ?_ | refine x5 fun _ => ?_ | refine Z3 fun _ => ?_ | refine Z4 fun _ => ?_) | refine ZC ?_)
      exact re_1 rfl rfl (by exact drop_auto) (by rw [ho]; exact hQ)
    · rw [if_pos hd] at ho
      repeat (first | refine Z0 ?_ | (refine ZR ?_; first | refine x1 ?_ | refine x2 ?_ | refine x8 ?_ | refine Z1 ?_ | refine Z2 ?_ | refine x3 fun _ => ?_ | refine x4 fun _ => ?_ | refine x5 fun _ => ?_ | refine Z3 fun _ => ?_ | refine Z4 fun _ => ?_) | refine ZC ?_)
      exact ⟨i + 1, ⟨by omega, ho⟩, by omega, by repeat (first | exact SubL.nil | refine SubL.cons rfl ?_), by exact drop_auto⟩
  · have : i = L.length := by omega
    subst this
    rw [List.drop_length] at ho
    repeat (first | refine Z0 ?_ | (refine ZR ?_; first | refine x1 ?_ | refine x2 ?_ | refine x8 ?_ | refine Z1 ?_ | refine Z2 ?_ | refine x3 fun _ => ?_ | refine x4 fun _ => ?_ | refine x5 fun _ => ?_ | refine Z3 fun _ => ?_ | refine Z4 fun _ => ?_) | refine ZC ?_)
    exact re_1 rfl rfl (by exact drop_auto) (by rw [← ho] at hQ; exact hQ)
theorem key56_ct (x : S60) (hQ : Q (.agg ⟨en60 (keyS x)⟩) H) : CallT (cx B0 old) (acall (cx B0 old) ansP (n + 1)) 56 [.agg ⟨en60 x⟩] H Q := by
  unfold keyS at hQ
  refine call_in1 15 rfl Tryz.func56 rfl rfl ?_
  unfold en60 at hQ ⊢
  repeat' (first | refine Z0 ?_ | (refine ZR ?_; first | refine x1 ?_ | refine x2 ?_ | refine x8 ?_ | refine Z1 ?_ | refine Z2 ?_ | refine x3 fun _ => ?_ | refine x4 fun _ => ?_ | refine x5 fun _ => ?_ | refine Z3 fun _ => ?_ | refine Z4 fun _ => ?_) | refine Za ?_ | refine Zb ?_ | refine Zl ?_ | refine Zc ?_ | refine Ze ?_ | refine Zi ?_ | refine Zj ?_ | refine Zf ?_ | refine Zg ?_ | refine Zm ?_ | refine Zn ?_ | refine Zo ?_ | refine Zp ?_ | refine Zq ?_ | refine Zr ?_ | refine Zk ?_ | refine Y0 ?_ | (refine YP ?_; first | refine y1 ?_ | refine y2 ?_ | refine Y1 ?_ | refine Y2 ?_) | (refine isPlan ?_; refine y3 ?_) | (first | (refine isRun ?_; refine z1 (fun hc => ?_) (fun hc => ?_)) | refine z2 (fun hc => ?_) (fun hc => ?_) | (refine isPlan ?_; refine z3 (fun hc => ?_) (fun hc => ?_))))
  all_goals first | exact re_c1 (H' := H) rfl rfl (.own _ _ hm0) rfl (sz rfl) rfl (by exact drop_auto) (by first | (rw [if_pos (by omega)] at hQ; exact hQ) | (rw [if_neg (by omega), if_pos (by omega)] at hQ; exact hQ) | (rw [if_neg (by omega), if_neg (by omega)] at hQ; exact hQ))
theorem key28_ct (x : S60) (hQ : Q (.agg ⟨en60 (keyS x)⟩) H) : CallT (cx B0 old) (acall (cx B0 old) ansP (n + 1)) 28 [.agg ⟨en60 x⟩] H Q := by
  unfold keyS at hQ
  refine call_in1 20 rfl Tryz.func28 rfl rfl ?_
  unfold en60 at hQ ⊢
  repeat' (first | refine Z0 ?_ | (refine ZR ?_; first | refine x1 ?_ | refine x2 ?_ | refine x8 ?_ | refine Z1 ?_ | refine Z2 ?_ | refine x3 fun _ => ?_ | refine x4 fun _ => ?_ | refine x5 fun _ => ?_ | refine Z3 fun _ => ?_ | refine Z4 fun _ => ?_) | refine Za ?_ | refine Zb ?_ | refine Zl ?_ | refine Zc ?_ | refine Ze ?_ | refine Zi ?_ | refine Zj ?_ | refine Zf ?_ | refine Zg ?_ | refine Zm ?_ | refine Zn ?_ | refine Zo ?_ | refine Zp ?_ | refine Zq ?_ | refine Zr ?_ | refine Zk ?_ | refine Y0 ?_ | (refine YP ?_; first | refine y1 ?_ | refine y2 ?_ | refine Y1 ?_ | refine Y2 ?_) | (refine isPlan ?_; refine y3 ?_) | (first | (refine isRun ?_; refine z1 (fun hc => ?_) (fun hc => ?_)) | refine z2 (fun hc => ?_) (fun hc => ?_) | (refine isPlan ?_; refine z3 (fun hc => ?_) (fun hc => ?_))))
  all_goals first | (exfalso; omega) | exact re_c1 (H' := H) rfl rfl (.own _ _ hm0) rfl (sz rfl) rfl (by exact drop_auto) (by first | (rw [if_pos (by omega)] at hQ; exact hQ) | (rw [if_neg (by omega), if_pos (by omega)] at hQ; exact hQ) | (rw [if_neg (by omega), if_neg (by omega)] at hQ; exact hQ))
end
end Go.Proofs.YtphadapcafibpaaGreat.Abs

/- Contracts: comparisons of identifiers. -/
namespace Go.Proofs.YtphadapcafibpaaGreat.Abs
open Go
set_option linter.unusedVariables false
theorem lx_at {E F : List Int} {i : Nat} {x y : Int} (hx : E[i]? = some x) (hy : F[i]? = some y) : lx (E.drop i) (F.drop i) = if sgn x y = 0 then lx (E.drop (i + 1)) (F.drop (i + 1)) else sgn x y := by
  obtain ⟨h1, h2⟩ := List.getElem?_eq_some_iff.1 hx
  obtain ⟨h3, h4⟩ := List.getElem?_eq_some_iff.1 hy
  rw [List.drop_eq_getElem_cons h1, List.drop_eq_getElem_cons h3, h2, h4, lx]
/-- What is left of a round that may leave the loop. -/
def RndE (Lp : Nat) (fr : Fr) (ps : List Nat) (A B : Code) (St : Hp → Prop) (SR : AX → Hp → Prop) (v : Value) (H' : Hp) : Prop :=
  (v = .bool true ∧ ∃ R, St R ∧ ((Lp, .loop 0 none fr ps A B) :: R).Sublist H') ∨ (v = .bool false ∧ ∃ e R, SR e R ∧ ((Lp, .loop 2 (some e) fr ps A B) :: R).Sublist H')
section
variable {B0 : Nat} {old : Nat → Option (List Value)} {n : Nat} {H : Hp} {Q : Value → Hp → Prop} {E F : List Int} {ad : Option Addr} {c : Nat}
set_option maxRecDepth 10000
set_option maxHeartbeats 4000000
theorem octets124_ct (hE : E.length = 10) (hk : ∀ b2, Q (.func (.func 138) #[] #[.pointer (some ⟨b2, 0, none⟩)]) ((b2, .row (E.map vY) 10 false) :: H)) :
    CallT (cx B0 old) (acall (cx B0 old) ansP (n + 1)) 124 [.agg ⟨E.map vY⟩] H Q := by
  obtain ⟨e0, e1, e2, e3, e4, e5, e6, e7, e8, e9, rfl⟩ := ten hE
  refine call_in1 4 rfl Tryz.func124 rfl rfl ?_
  simp only [List.map_cons, List.map_nil] at hk ⊢
  repeat (first | refine Z0 ?_ | (refine ZR ?_; first | refine x1 ?_ | refine x2 ?_ | refine x8 ?_ | refine Z1 ?_ | refine Z2 ?_ | refine x3 fun _ => ?_ | refine x4 fun _ => ?_ | refine x5 fun _ => ?_ | refine Z3 fun _ => ?_ | refine Z4 fun _ => ?_) | refine ZC ?_)
  exact re_1 rfl rfl (by exact drop_auto) (hk _)
theorem oct138_ct (b2 Lp nt : Nat) (lf : Sl) (fr : Fr) (ps : List Nat) (A B : Code) (St : Nat → Hp → Prop) (SR : AX → Hp → Prop) (R0 : Hp) (hps : ps.length = 2) (hfr : FrHas nt lf fr) (hE : E.length = 10)
    (hst : ∀ i R, St i R → (b2, AObj.row (E.map vY) 10 false) ∈ R) (h0 : St 0 R0)
    (hround : ∀ (i : Nat) R q x, E[i]? = some x → St i R → CodeT (cx B0 old) (ahand (cx B0 old) ansP n) true nt A (parL nt ps [.int .i64 (i : Int), .int .u8 x] lf) ((Lp, .loop 0 q fr ps A B) :: R) fun e l2 H2 => match e with
      | .normal => ∃ q' H3, H2.Perm ((Lp, .loop 0 q' fr ps A B) :: H3) ∧ CodeT (cx B0 old) (ahand (cx B0 old) ansP n) true nt B l2 ((Lp, .loop 1 q' fr ps A B) :: H3) fun e l3 H4 => rndΦ Lp fr ps A B (RndE Lp fr ps A B (St (i + 1)) SR) e H4
      | _ => False)
    (hQ : ∀ R v, St 10 R → Q v ((Lp, .loop 0 none fr ps A B) :: R)) (hQr : ∀ e R v, SR e R → Q v ((Lp, .loop 2 (some e) fr ps A B) :: R)) :
    CallT (cx B0 old) (acall (cx B0 old) ansP (n + 2)) 138 [.func (.yield Lp) #[] #[], .pointer (some ⟨b2, 0, none⟩)] ((Lp, .loop 0 none fr ps A B) :: R0) Q := by
  obtain ⟨e0, e1, e2, e3, e4, e5, e6, e7, e8, e9, rfl⟩ := ten hE
  refine call_in2 16 rfl Tryz.func138 rfl rfl ?_
  have hget : ∀ (i : Nat) x, [e0, e1, e2, e3, e4, e5, e6, e7, e8, e9][i]? = some x → [vY e0, vY e1, vY e2, vY e3, vY e4, vY e5, vY e6, vY e7, vY e8, vY e9][(i : Int).toNat * 1]? = some (vY x) := fun i x h => by
    rw [Int.toNat_natCast, Nat.mul_one]; exact map_at h
  simp only [List.map_cons, List.map_nil] at hst
  have hm := hst 0 R0 h0
  have hL0 : ∀ H', R0.Sublist H' → LdT (cx B0 old) 36 H' b2 0 (.agg ⟨[vY e0, vY e1, vY e2, vY e3, vY e4, vY e5, vY e6, vY e7, vY e8, vY e9]⟩) := fun H' hs => ldW (.own _ _ (hs.subset hm)) rfl (sz rfl) rfl
  repeat (first | refine Z0 ?_ | (refine ZR ?_; first | refine x1 ?_ | refine x2 ?_ | refine x8 ?_ | refine Z1 ?_ | refine Z2 ?_ | refine x3 fun _ => ?_ | refine x4 fun _ => ?_ | refine x5 fun _ => ?_ | refine Z3 fun _ => ?_ | refine Z4 fun _ => ?_) | refine ZC ?_)
  refine loop_ind (ι := Nat × Hp) (0, R0) (fun i => 10 - i.1) (fun i => i.1 ≤ 10 ∧ St i.1 i.2)
    (fun i => [(6, .int .i64 (i.1 : Int)), (5, .agg ⟨[vY e0, vY e1, vY e2, vY e3, vY e4, vY e5, vY e6, vY e7, vY e8, vY e9]⟩), (0, .func (.yield Lp) #[] #[]), (1, .pointer (some ⟨b2, 0, none⟩))])
    (fun i => (Lp, .loop 0 none fr ps A B) :: i.2) ⟨Nat.zero_le _, h0⟩ (by repeat (first | exact SubL.nil | refine SubL.cons rfl ?_)) (by exact drop_auto) ?_
  rintro ⟨i, R⟩ ⟨hi, hs⟩
  simp only at hi hs ⊢
  repeat (first | refine Z0 ?_ | (refine ZR ?_; first | refine x1 ?_ | refine x2 ?_ | refine x8 ?_ | refine Z1 ?_ | refine Z2 ?_ | refine x3 fun _ => ?_ | refine x4 fun _ => ?_ | refine x5 fun _ => ?_ | refine Z3 fun _ => ?_ | refine Z4 fun _ => ?_) | refine ZC ?_)
  refine ct_condT te_d rfl (fun hc => ?_) (fun hc => ?_)
  rotate_left
  · have : i = 10 := by omega
    subst this
    repeat (first | refine Z0 ?_ | (refine ZR ?_; first | refine x1 ?_ | refine x2 ?_ | refine x8 ?_ | refine Z1 ?_ | refine Z2 ?_ | refine x3 fun _ => ?_ | refine x4 fun _ => ?_ | refine x5 fun _ => ?_ | refine Z3 fun _ => ?_ | refine Z4 fun _ => ?_) | refine ZC ?_)
    exact re_0 rfl (by exact drop_auto) (fun v => hQ R v hs)
  have hlt : i < 10 := by omega
  obtain ⟨x, hx⟩ : ∃ x, [e0, e1, e2, e3, e4, e5, e6, e7, e8, e9][i]? = some x := ⟨_, List.getElem?_eq_getElem hlt⟩
  have hg := hget i x hx
  repeat (first | refine Z0 ?_ | (refine ZR ?_; first | refine x1 ?_ | refine x2 ?_ | refine x8 ?_ | refine Z1 ?_ | refine Z2 ?_ | refine x3 fun _ => ?_ | refine x4 fun _ => ?_ | refine x5 fun _ => ?_ | refine Z3 fun _ => ?_ | refine Z4 fun _ => ?_) | refine ZC ?_)
  apply rt_p rfl rfl rfl
  case hp => exact p_index rfl rfl rfl rfl (sz rfl) (by omega) (by omega) hg
  repeat (first | refine Z0 ?_ | (refine ZR ?_; first | refine x1 ?_ | refine x2 ?_ | refine x8 ?_ | refine Z1 ?_ | refine Z2 ?_ | refine x3 fun _ => ?_ | refine x4 fun _ => ?_ | refine x5 fun _ => ?_ | refine Z3 fun _ => ?_ | refine Z4 fun _ => ?_) | refine ZC ?_)
  refine rt_step rfl rfl rfl (st_yield (q := none) rfl rfl rfl (by rw [hps]; rfl) (List.Perm.refl _) hfr ((hround i R none x hx hs).mono ?_))
  intro e l2 H2 h
  cases e with
  | exit j => exact h
  | ret => exact h
  | normal =>
    obtain ⟨q', H3, hp, h⟩ := h
    refine ⟨q', H3, hp, h.mono fun e l3 H4 h => ?_⟩
    obtain ⟨st, q2, H5, hp2, h⟩ := h
    refine ⟨st, q2, H5, hp2, ?_⟩
    cases e with
    | normal =>
      rcases h with ⟨_, R', hs', hsub⟩ | ⟨hf, _⟩
      · repeat (first | refine Z0 ?_ | (refine ZR ?_; first | refine x1 ?_ | refine x2 ?_ | refine x8 ?_ | refine Z1 ?_ | refine Z2 ?_ | refine x3 fun _ => ?_ | refine x4 fun _ => ?_ | refine x5 fun _ => ?_ | refine Z3 fun _ => ?_ | refine Z4 fun _ => ?_) | refine ZC ?_)
        exact ⟨(i + 1, R'), ⟨by omega, hs'⟩, by dsimp only; omega, by repeat (first | exact SubL.nil | refine SubL.cons rfl ?_), hsub⟩
      · cases hf
    | exit j =>
      rcases h with ⟨hf, _⟩ | ⟨_, e2, R', hs', hsub⟩
      · cases hf
      · repeat (first | refine Z0 ?_ | (refine ZR ?_; first | refine x1 ?_ | refine x2 ?_ | refine x8 ?_ | refine Z1 ?_ | refine Z2 ?_ | refine x3 fun _ => ?_ | refine x4 fun _ => ?_ | refine x5 fun _ => ?_ | refine Z3 fun _ => ?_ | refine Z4 fun _ => ?_) | refine ZC ?_)
        exact re_0r rfl hsub (fun v => hQr _ R' v hs')
    | ret =>
      rcases h with ⟨hf, _⟩ | ⟨_, e2, R', hs', hsub⟩
      · cases hf
      · repeat (first | refine Z0 ?_ | (refine ZR ?_; first | refine x1 ?_ | refine x2 ?_ | refine x8 ?_ | refine Z1 ?_ | refine Z2 ?_ | refine x3 fun _ => ?_ | refine x4 fun _ => ?_ | refine x5 fun _ => ?_ | refine Z3 fun _ => ?_ | refine Z4 fun _ => ?_) | refine ZC ?_)
        exact re_0r rfl hsub (fun v => hQr _ R' v hs')
theorem esi99_ct (hE : E.length = 10) (hF : F.length = 10) (hQ : Q (.int .i64 (lx E F)) H) : CallT (cx B0 old) (acall (cx B0 old) ansP (n + 5)) 99 [.agg ⟨E.map vY⟩, .agg ⟨F.map vY⟩] H Q := by
  have hE' := hE
  have hF' := hF
  obtain ⟨e0, e1, e2, e3, e4, e5, e6, e7, e8, e9, eE⟩ := ten hE
  obtain ⟨f0, f1, f2, f3, f4, f5, f6, f7, f8, f9, eF⟩ := ten hF
  have oc : ∀ {H1 : Hp} {Θ : Value → Hp → Prop}, (∀ b2, Θ (.func (.func 138) #[] #[.pointer (some ⟨b2, 0, none⟩)]) ((b2, .row (E.map vY) 10 false) :: H1)) → CallT (cx B0 old) (acall (cx B0 old) ansP (n + 4)) 124 [.agg ⟨E.map vY⟩] H1 Θ := fun h => octets124_ct hE h
  have mE : E.map vY = [vY e0, vY e1, vY e2, vY e3, vY e4, vY e5, vY e6, vY e7, vY e8, vY e9] := by rw [eE]; rfl
  have mF : F.map vY = [vY f0, vY f1, vY f2, vY f3, vY f4, vY f5, vY f6, vY f7, vY f8, vY f9] := by rw [eF]; rfl
  rw [mE] at oc
  rw [mE, mF]
  refine call_inM 20 rfl Tryz.func99 rfl rfl ?_
  refine cm_seq (cm_code ?_)
  repeat (first | refine Z0 ?_ | (refine ZR ?_; first | refine x1 ?_ | refine x2 ?_ | refine x8 ?_ | refine Z1 ?_ | refine Z2 ?_ | refine x3 fun _ => ?_ | refine x4 fun _ => ?_ | refine x5 fun _ => ?_ | refine Z3 fun _ => ?_ | refine Z4 fun _ => ?_) | refine ZC ?_)
  rename_i c2 c3 c4
  refine cm_seq (cm_seq (cm_code ?_))
  repeat (first | refine Z0 ?_ | (refine ZR ?_; first | refine x1 ?_ | refine x2 ?_ | refine x8 ?_ | refine Z1 ?_ | refine Z2 ?_ | refine x3 fun _ => ?_ | refine x4 fun _ => ?_ | refine x5 fun _ => ?_ | refine Z3 fun _ => ?_ | refine Z4 fun _ => ?_) | refine ZC ?_)
  refine rt_step rfl rfl rfl (st_call rfl rfl rfl rfl (oc fun b2 => ?_))
  repeat (first | refine Z0 ?_ | (refine ZR ?_; first | refine x1 ?_ | refine x2 ?_ | refine x8 ?_ | refine Z1 ?_ | refine Z2 ?_ | refine x3 fun _ => ?_ | refine x4 fun _ => ?_ | refine x5 fun _ => ?_ | refine Z3 fun _ => ?_ | refine Z4 fun _ => ?_) | refine ZC ?_)
  refine cm_block (cm_range rfl rfl ?_)
  intro m fr hfr
  refine oct138_ct (n := n + 2) (E := E) b2 (m + 1) 20 _ fr _ _ _ (fun i R => lx (E.drop i) (F.drop i) = lx E F ∧ R = (m, .dblk) :: (b2, .row [vY e0, vY e1, vY e2, vY e3, vY e4, vY e5, vY e6, vY e7, vY e8, vY e9] 10 false) :: (c4, .row [.int .i64 0] 1 false) :: (c3, .row [vY f0, vY f1, vY f2, vY f3, vY f4, vY f5, vY f6, vY f7, vY f8, vY f9] 10 false) :: (c2, .row [vY e0, vY e1, vY e2, vY e3, vY e4, vY e5, vY e6, vY e7, vY e8, vY e9] 10 false) :: H)
    (fun e R => e = .ret ∧ R = (m, .dblk) :: (c4, .row [.int .i64 (lx E F)] 1 false) :: H) _ rfl hfr hE ?_ ⟨rfl, rfl⟩ ?_ ?_ ?_
  · rintro i R ⟨_, rfl⟩
    rw [mE]
    exact in_auto
  · rintro i R q x hx ⟨hi, rfl⟩
    have hlt : i < 10 := by rw [← hE]; exact (List.getElem?_eq_some_iff.1 hx).1
    obtain ⟨y, hy⟩ : ∃ y, F[i]? = some y := ⟨_, List.getElem?_eq_getElem (by rw [hF]; exact hlt)⟩
    rw [lx_at hx hy] at hi
    have hL0 : ∀ H', ((c3, AObj.row [vY f0, vY f1, vY f2, vY f3, vY f4, vY f5, vY f6, vY f7, vY f8, vY f9] 10 false) :: H).Sublist H' → LdT (cx B0 old) 5 H' c3 (0 + (i : Int).toNat * 1) (.int .u8 y) := fun H' hs => ld1 (.own _ _ (hs.subset (List.Mem.head _))) rfl (sz rfl) (by
      rw [Nat.zero_add, Int.toNat_natCast, Nat.mul_one, ← mF]; exact map_at hy)
    repeat (first | refine Z0 ?_ | (refine ZR ?_; first | refine x1 ?_ | refine x2 ?_ | refine x8 ?_ | refine Z1 ?_ | refine Z2 ?_ | refine x3 fun _ => ?_ | refine x4 fun _ => ?_ | refine x5 fun _ => ?_ | refine Z3 fun _ => ?_ | refine Z4 fun _ => ?_) | refine ZC ?_)
    refine ⟨q, _, List.Perm.refl _, ?_⟩
    repeat (first | refine Z0 ?_ | (refine ZR ?_; first | refine x1 ?_ | refine x2 ?_ | refine x8 ?_ | refine Z1 ?_ | refine Z2 ?_ | refine x3 fun _ => ?_ | refine x4 fun _ => ?_ | refine x5 fun _ => ?_ | refine Z3 fun _ => ?_ | refine Z4 fun _ => ?_) | refine ZC ?_)
    refine rt_step rfl rfl rfl (st_call rfl rfl rfl rfl (cmp125_ct x y ?_))
    repeat (first | refine Z0 ?_ | (refine ZR ?_; first | refine x1 ?_ | refine x2 ?_ | refine x8 ?_ | refine Z1 ?_ | refine Z2 ?_ | refine x3 fun _ => ?_ | refine x4 fun _ => ?_ | refine x5 fun _ => ?_ | refine Z3 fun _ => ?_ | refine Z4 fun _ => ?_) | refine ZC ?_)
    refine ct_condT te_ne rfl (fun hd => ?_) (fun hd => ?_)
    · rw [if_neg hd] at hi
      repeat (first | refine Z0 ?_ | (refine ZR ?_; first | refine x1 ?_ | refine x2 ?_ | refine x8 ?_ | refine Z1 ?_ | refine Z2 ?_ | refine x3 fun _ => ?_ | refine x4 fun _ => ?_ | refine x5 fun _ => ?_ | refine Z3 fun _ => ?_ | refine Z4 fun _ => ?_) | refine ZC ?_)
      unfold rndΦ RndE
      exact ⟨1, q, _, List.Perm.refl _, .inr ⟨rfl, _, _, ⟨rfl, rfl⟩, by rw [hi]; exact drop_auto⟩⟩
    · rw [if_pos hd] at hi
      repeat (first | refine Z0 ?_ | (refine ZR ?_; first | refine x1 ?_ | refine x2 ?_ | refine x8 ?_ | refine Z1 ?_ | refine Z2 ?_ | refine x3 fun _ => ?_ | refine x4 fun _ => ?_ | refine x5 fun _ => ?_ | refine Z3 fun _ => ?_ | refine Z4 fun _ => ?_) | refine ZC ?_)
      unfold rndΦ RndE
      exact ⟨1, q, _, List.Perm.refl _, .inl ⟨rfl, _, ⟨hi, rfl⟩, by exact drop_auto⟩⟩
  · rintro R v ⟨hi, rfl⟩
    rw [← hE, List.drop_length] at hi
    refine ⟨0, none, _, List.Perm.refl _, rfl, ?_⟩
    refine cm_code ?_
    repeat (first | refine Z0 ?_ | (refine ZR ?_; first | refine x1 ?_ | refine x2 ?_ | refine x8 ?_ | refine Z1 ?_ | refine Z2 ?_ | refine x3 fun _ => ?_ | refine x4 fun _ => ?_ | refine x5 fun _ => ?_ | refine Z3 fun _ => ?_ | refine Z4 fun _ => ?_) | refine ZC ?_)
    refine lv_one (List.Perm.refl _) ⟨H, by exact drop_auto, ?_⟩
    exact res_cell rfl (.own _ _ hm1) rfl (sz rfl) rfl rfl (res_nil (by rw [← hi] at hQ; exact hQ))
  · rintro e R v ⟨rfl, rfl⟩
    refine ⟨2, some .ret, _, List.Perm.refl _, rfl, ?_⟩
    refine lv_one (List.Perm.refl _) ⟨H, by exact drop_auto, ?_⟩
    exact res_cell rfl (.own _ _ hm0) rfl (sz rfl) rfl rfl (res_nil hQ)
end
end Go.Proofs.YtphadapcafibpaaGreat.Abs

/- Contracts: Compare of routes, the program's and the reference's. -/
namespace Go.Proofs.YtphadapcafibpaaGreat.Abs
open Go
set_option linter.unusedVariables false
theorem i64_k {x : Int} (h : -9223372036854775808 ≤ x ∧ x < 9223372036854775808) : IntKind.i64.wrap x = x := IntWalk.i64_in x (by omega)
theorem orL_step (a b : Int) (l : List Int) : orL (a :: b :: l) = orL ((if a = 0 then b else a) :: l) := by
  by_cases h : a = 0
  · simp [orL, h]
  · simp [orL, h]
theorem orL_one (a : Int) : orL [a] = a := by
  by_cases h : a = 0
  · simp [orL, h]
  · simp [orL, h]
theorem wf60_y {x : S60} (h : x.wf) : ∀ y ∈ esL x, isY y := by
  unfold S60.wf at h
  intro y hy
  unfold esL at hy
  unfold isY
  simp only [List.mem_cons, List.not_mem_nil, or_false] at hy
  rcases hy with rfl | rfl | rfl | rfl | rfl | rfl | rfl | rfl | rfl | rfl <;> omega
theorem keyS_wf {x : S60} (h : x.wf) : (keyS x).wf := by
  unfold keyS
  split
  · unfold S60.wf at h ⊢; dsimp only; omega
  · split <;> (unfold S60.wf at h ⊢; dsimp only; omega)
section
variable {B0 : Nat} {old : Nat → Option (List Value)} {n : Nat} {H : Hp} {Q : Value → Hp → Prop} {E F : List Int}
set_option maxRecDepth 10000
set_option maxHeartbeats 8000000
theorem compare66_ct (x y : S60) (hQ : Q (.int .i64 (nlC x y)) H) : CallT (cx B0 old) (acall (cx B0 old) ansP (n + 6)) 66 [.agg ⟨en60 x⟩, .agg ⟨en60 y⟩] H Q := by
  unfold nlC at hQ
  rw [← orC_eq] at hQ
  have hk1 : ∀ {H1 : Hp} {Θ : Value → Hp → Prop}, Θ (.agg ⟨en60 (keyS x)⟩) H1 → CallT (cx B0 old) (acall (cx B0 old) ansP (n + 5)) 56 [.agg ⟨en60 x⟩] H1 Θ := fun h => key56_ct x h
  have hk2 : ∀ {H1 : Hp} {Θ : Value → Hp → Prop}, Θ (.agg ⟨en60 (keyS y)⟩) H1 → CallT (cx B0 old) (acall (cx B0 old) ansP (n + 5)) 56 [.agg ⟨en60 y⟩] H1 Θ := fun h => key56_ct y h
  generalize keyS x = u at *
  generalize keyS y = v at *
  have he : ∀ {H1 : Hp} {Θ : Value → Hp → Prop}, Θ (.int .i64 (lx (esL u) (esL v))) H1 → CallT (cx B0 old) (acall (cx B0 old) ansP (n + 5)) 99 [.agg ⟨[vY u.a2, vY u.a3, vY u.a4, vY u.a5, vY u.a6, vY u.a7, vY u.a8, vY u.a9, vY u.a10, vY u.a11]⟩, .agg ⟨[vY v.a2, vY v.a3, vY v.a4, vY v.a5, vY v.a6, vY v.a7, vY v.a8, vY v.a9, vY v.a10, vY v.a11]⟩] H1 Θ := fun h => esi99_ct (E := esL u) (F := esL v) rfl rfl h
  unfold orC at hQ
  generalize lx (esL u) (esL v) = w at *
  unfold en60 at hk1 hk2
  refine call_in2 65 rfl Tryz.func66 rfl rfl ?_
  unfold en60
  repeat (first | refine Z0 ?_ | (refine ZR ?_; first | refine x1 ?_ | refine x2 ?_ | refine x8 ?_ | refine Z1 ?_ | refine Z2 ?_ | refine x3 fun _ => ?_ | refine x4 fun _ => ?_ | refine x5 fun _ => ?_ | refine Z3 fun _ => ?_ | refine Z4 fun _ => ?_) | refine ZC ?_)
  refine ct_draw (masks := [0, 1, 0, 7, 15, 31]) (plan := [0, 2, 1, 3, 4, 5]) (E := []) (by kernel_rfl) (by kernel_rfl) (by kernel_rfl) (by kernel_rfl) ?_
  repeat (first | refine Y0 ?_ | (refine YP ?_; first | refine y1 ?_ | refine y2 ?_ | refine Y1 ?_ | refine Y2 ?_))
  refine pl_S rfl rfl rfl rfl rfl rfl (st_call rfl rfl rfl rfl (hk1 ⟨by exact rec_auto, ?_⟩))
  repeat (first | refine Y0 ?_ | (refine YP ?_; first | refine y1 ?_ | refine y2 ?_ | refine Y1 ?_ | refine Y2 ?_))
  refine pl_S rfl rfl rfl rfl rfl rfl (st_call rfl rfl rfl rfl (hk2 ⟨by exact rec_auto, ?_⟩))
  repeat (first | refine Y0 ?_ | (refine YP ?_; first | refine y1 ?_ | refine y2 ?_ | refine Y1 ?_ | refine Y2 ?_))
  refine y3 ?_
  repeat (first | refine Y0 ?_ | (refine YP ?_; first | refine y1 ?_ | refine y2 ?_ | refine Y1 ?_ | refine Y2 ?_))
  refine y3 ?_
  repeat (first | refine Y0 ?_ | (refine YP ?_; first | refine y1 ?_ | refine y2 ?_ | refine Y1 ?_ | refine Y2 ?_))
  repeat (first | refine Z0 ?_ | (refine ZR ?_; first | refine x1 ?_ | refine x2 ?_ | refine x8 ?_ | refine Z1 ?_ | refine Z2 ?_ | refine x3 fun _ => ?_ | refine x4 fun _ => ?_ | refine x5 fun _ => ?_ | refine Z3 fun _ => ?_ | refine Z4 fun _ => ?_) | refine ZC ?_)
  refine ct_draw (masks := [0, 1, 0, 4, 15, 0, 32, 0, 128, 511, 0, 1024, 0, 4096, 16383, 0, 32768, 0, 131072, 524287, 0, 1048576, 0, 4194304, 16777215, 0, 33554432, 0, 134217728, 536870911, 0, 1073741824, 0, 4294967296, 17179869183, 0, 34359738368, 103079215104, 0, 274877906944, 824633720832, 2199023255551, 0, 4398046511104, 13194139533312, 0, 35184372088832, 105553116266496, 281474976710655, 0, 562949953421312, 0, 2251799813685248, 9007199254740991, 18014398509481983, 36028797018963967, 72057594037927935]) (plan := [0, 1, 2, 3, 5, 6, 7, 8, 10, 11, 12, 13, 15, 16, 17, 18, 20, 21, 22, 23, 25, 26, 27, 28, 30, 31, 32, 33, 35, 36, 37, 38, 39, 40, 42, 43, 44, 45, 46, 47, 49, 50, 51, 52, 4, 9, 14, 19, 24, 29, 34, 41, 48, 53, 54, 55, 56]) (E := []) (by kernel_rfl) (by kernel_rfl) (by kernel_rfl) (by kernel_rfl) ?_
  repeat (first | refine Y0 ?_ | (refine YP ?_; first | refine y1 ?_ | refine y2 ?_ | refine Y1 ?_ | refine Y2 ?_))
  refine pl_S rfl rfl rfl rfl rfl rfl (st_call rfl rfl rfl rfl (cmp97_ct _ _ ⟨by exact rec_auto, ?_⟩))
  repeat (first | refine Y0 ?_ | (refine YP ?_; first | refine y1 ?_ | refine y2 ?_ | refine Y1 ?_ | refine Y2 ?_))
  refine pl_S rfl rfl rfl rfl rfl rfl (st_call rfl rfl rfl rfl (cmp98_ct _ _ ⟨by exact rec_auto, ?_⟩))
  repeat (first | refine Y0 ?_ | (refine YP ?_; first | refine y1 ?_ | refine y2 ?_ | refine Y1 ?_ | refine Y2 ?_))
  refine pl_S rfl rfl rfl rfl rfl rfl (st_call rfl rfl rfl rfl (he ⟨by exact rec_auto, ?_⟩))
  repeat (first | refine Y0 ?_ | (refine YP ?_; first | refine y1 ?_ | refine y2 ?_ | refine Y1 ?_ | refine Y2 ?_))
  refine pl_S rfl rfl rfl rfl rfl rfl (st_call rfl rfl rfl rfl (cmp100_ct _ _ ⟨by exact rec_auto, ?_⟩))
  repeat (first | refine Y0 ?_ | (refine YP ?_; first | refine y1 ?_ | refine y2 ?_ | refine Y1 ?_ | refine Y2 ?_))
  refine pl_S rfl rfl rfl rfl rfl rfl (st_call rfl rfl rfl rfl (cmp101_ct _ _ ⟨by exact rec_auto, ?_⟩))
  repeat (first | refine Y0 ?_ | (refine YP ?_; first | refine y1 ?_ | refine y2 ?_ | refine Y1 ?_ | refine Y2 ?_))
  refine pl_S rfl rfl rfl rfl rfl rfl (st_call rfl rfl rfl rfl (order102_ct _ _ ⟨by exact rec_auto, ?_⟩))
  repeat (first | refine Y0 ?_ | (refine YP ?_; first | refine y1 ?_ | refine y2 ?_ | refine Y1 ?_ | refine Y2 ?_))
  refine pl_S rfl rfl rfl rfl rfl rfl (st_call rfl rfl rfl rfl (cmp103_ct _ _ ⟨by exact rec_auto, ?_⟩))
  repeat (first | refine Y0 ?_ | (refine YP ?_; first | refine y1 ?_ | refine y2 ?_ | refine Y1 ?_ | refine Y2 ?_))
  refine pl_S rfl rfl rfl rfl rfl rfl (st_call rfl rfl rfl rfl (cmp103_ct _ _ ⟨by exact rec_auto, ?_⟩))
  repeat (first | refine Y0 ?_ | (refine YP ?_; first | refine y1 ?_ | refine y2 ?_ | refine Y1 ?_ | refine Y2 ?_))
  refine pl_S rfl rfl rfl rfl rfl rfl (st_call rfl rfl rfl rfl (cmp97_ct _ _ ⟨by exact rec_auto, ?_⟩))
  repeat (first | refine Y0 ?_ | (refine YP ?_; first | refine y1 ?_ | refine y2 ?_ | refine Y1 ?_ | refine Y2 ?_))
  refine pl_S rfl rfl rfl rfl rfl rfl (st_call rfl rfl rfl rfl (cmp103_ct _ _ ⟨by exact rec_auto, ?_⟩))
  repeat (first | refine Y0 ?_ | (refine YP ?_; first | refine y1 ?_ | refine y2 ?_ | refine Y1 ?_ | refine Y2 ?_))
  refine pl_S rfl rfl rfl rfl rfl rfl (st_buildSlice rfl (zr rfl) rfl rfl rfl rfl rfl rfl fun bs => ⟨by exact rec_auto, ?_⟩)
  refine pl_S rfl rfl rfl rfl rfl rfl (st_call rfl rfl rfl rfl (or96_ct (L := [sgn u.a0 v.a0, sgn u.a1 v.a1, w, sgn u.a12 v.a12, sgn u.a13 v.a13, sgn (b2i u.a15) (b2i v.a15), sgn u.a14 v.a14, sgn u.a16 v.a16, sgn u.a17 v.a17, sgn u.a18 v.a18]) (arr_flat encI_len [sgn u.a0 v.a0, sgn u.a1 v.a1, w, sgn u.a12 v.a12, sgn u.a13 v.a13, sgn (b2i u.a15) (b2i v.a15), sgn u.a14 v.a14, sgn u.a16 v.a16, sgn u.a17 v.a17, sgn u.a18 v.a18] hm0) (Nat.le_of_ble_eq_true rfl) ⟨by exact rec_auto, ?_⟩))
  repeat (first | refine Y0 ?_ | (refine YP ?_; first | refine y1 ?_ | refine y2 ?_ | refine Y1 ?_ | refine Y2 ?_))
  repeat (first | refine Z0 ?_ | (refine ZR ?_; first | refine x1 ?_ | refine x2 ?_ | refine x8 ?_ | refine Z1 ?_ | refine Z2 ?_ | refine x3 fun _ => ?_ | refine x4 fun _ => ?_ | refine x5 fun _ => ?_ | refine Z3 fun _ => ?_ | refine Z4 fun _ => ?_) | refine ZC ?_)
  exact re_1 (H' := H) rfl rfl (by exact drop_auto) hQ
theorem esi59_ct (hE : E.length = 10) (hF : F.length = 10) (yE : ∀ y ∈ E, isY y) (yF : ∀ y ∈ F, isY y) (hQ : Q (.int .i64 (lx E F)) H) : CallT (cx B0 old) (acall (cx B0 old) ansP (n + 2)) 59 [.agg ⟨E.map vY⟩, .agg ⟨F.map vY⟩] H Q := by
  obtain ⟨e0, e1, e2, e3, e4, e5, e6, e7, e8, e9, eE⟩ := ten hE
  obtain ⟨f0, f1, f2, f3, f4, f5, f6, f7, f8, f9, eF⟩ := ten hF
  have mE : E.map vY = [vY e0, vY e1, vY e2, vY e3, vY e4, vY e5, vY e6, vY e7, vY e8, vY e9] := by rw [eE]; rfl
  have mF : F.map vY = [vY f0, vY f1, vY f2, vY f3, vY f4, vY f5, vY f6, vY f7, vY f8, vY f9] := by rw [eF]; rfl
  rw [mE, mF]
  refine call_in2 23 rfl Tryz.func59 rfl rfl ?_
  repeat (first | refine Z0 ?_ | (refine ZR ?_; first | refine x1 ?_ | refine x2 ?_ | refine x8 ?_ | refine Z1 ?_ | refine Z2 ?_ | refine x3 fun _ => ?_ | refine x4 fun _ => ?_ | refine x5 fun _ => ?_ | refine Z3 fun _ => ?_ | refine Z4 fun _ => ?_) | refine ZC ?_)
  rename_i c2 c3
  refine loop_ind (ι := Nat) 0 (fun i => 10 - i) (fun i => i ≤ 10 ∧ lx (E.drop i) (F.drop i) = lx E F) (fun i => [(5, .int .i64 (i : Int)), (2, .pointer (some ⟨c2, 0, none⟩)), (3, .pointer (some ⟨c3, 0, none⟩))]) (fun _ => (c3, .row [vY f0, vY f1, vY f2, vY f3, vY f4, vY f5, vY f6, vY f7, vY f8, vY f9] 10 false) :: (c2, .row [vY e0, vY e1, vY e2, vY e3, vY e4, vY e5, vY e6, vY e7, vY e8, vY e9] 10 false) :: H) ⟨Nat.zero_le _, rfl⟩ (by repeat (first | exact SubL.nil | refine SubL.cons rfl ?_)) (by exact drop_auto) ?_
  rintro i ⟨hi, ho⟩
  repeat (first | refine Z0 ?_ | (refine ZR ?_; first | refine x1 ?_ | refine x2 ?_ | refine x8 ?_ | refine Z1 ?_ | refine Z2 ?_ | refine x3 fun _ => ?_ | refine x4 fun _ => ?_ | refine x5 fun _ => ?_ | refine Z3 fun _ => ?_ | refine Z4 fun _ => ?_) | refine ZC ?_)
  refine ct_condT te_d rfl (fun hc => ?_) (fun hc => ?_)
  · have hlt : i < 10 := by omega
    obtain ⟨x, hx⟩ : ∃ x, E[i]? = some x := ⟨_, List.getElem?_eq_getElem (by rw [hE]; exact hlt)⟩
    obtain ⟨y, hy⟩ : ∃ y, F[i]? = some y := ⟨_, List.getElem?_eq_getElem (by rw [hF]; exact hlt)⟩
    have hxy := yE x (List.mem_of_getElem? hx)
    have hyy := yF y (List.mem_of_getElem? hy)
    unfold isY at hxy hyy
    rw [lx_at hx hy] at ho
    have hA0 : ∀ (H' : Hp) (j : Nat), j = i → (c2, AObj.row [vY e0, vY e1, vY e2, vY e3, vY e4, vY e5, vY e6, vY e7, vY e8, vY e9] 10 false) ∈ H' → LdT (cx B0 old) 5 H' c2 (0 + j * 1) (.int .u8 x) := fun H' j hj hm => ld1 (.own _ _ hm) rfl (sz rfl) (by rw [hj, Nat.zero_add, Nat.mul_one, ← mE]; exact map_at hx)
    have hA1 : ∀ (H' : Hp) (j : Nat), j = i → (c3, AObj.row [vY f0, vY f1, vY f2, vY f3, vY f4, vY f5, vY f6, vY f7, vY f8, vY f9] 10 false) ∈ H' → LdT (cx B0 old) 5 H' c3 (0 + j * 1) (.int .u8 y) := fun H' j hj hm => ld1 (.own _ _ hm) rfl (sz rfl) (by rw [hj, Nat.zero_add, Nat.mul_one, ← mF]; exact map_at hy)
    repeat (first | refine Z0 ?_ | (refine ZR ?_; first | refine x1 ?_ | refine x2 ?_ | refine x8 ?_ | refine Z1 ?_ | refine Z2 ?_ | refine x3 fun _ => ?_ | refine x4 fun _ => ?_ | refine x5 fun _ => ?_ | refine Z3 fun _ => ?_ | refine Z4 fun _ => ?_) | refine ZC ?_)
    refine ct_draw (masks := [0, 1, 3, 7, 0, 16, 48, 112, 255, 511]) (plan := [0, 1, 2, 3, 4, 5, 6, 7, 8, 9]) (E := []) (by kernel_rfl) (by kernel_rfl) (by kernel_rfl) (by kernel_rfl) ?_
    repeat (first | refine Y0 ?_ | (refine YP ?_; first | refine y1 ?_ | refine y2 ?_ | refine Y1 ?_ | refine Y2 ?_))
    rw [i64_k (show -9223372036854775808 ≤ x ∧ x < 9223372036854775808 by omega), i64_k (show -9223372036854775808 ≤ y ∧ y < 9223372036854775808 by omega)]
    refine pl_S rfl rfl rfl rfl rfl rfl (st_call rfl rfl rfl rfl (cmp89_ct x y ⟨by exact rec_auto, ?_⟩))
    repeat (first | refine Y0 ?_ | (refine YP ?_; first | refine y1 ?_ | refine y2 ?_ | refine Y1 ?_ | refine Y2 ?_))
    repeat (first | refine Z0 ?_ | (refine ZR ?_; first | refine x1 ?_ | refine x2 ?_ | refine x8 ?_ | refine Z1 ?_ | refine Z2 ?_ | refine x3 fun _ => ?_ | refine x4 fun _ => ?_ | refine x5 fun _ => ?_ | refine Z3 fun _ => ?_ | refine Z4 fun _ => ?_) | refine ZC ?_)
    refine ct_condT te_ne rfl (fun hd => ?_) (fun hd => ?_)
    · rw [if_neg hd] at ho
      repeat (first | refine Z0 ?_ | (refine ZR ?_; first | refine x1 ?_ | refine x2 ?_ | refine x8 ?_ | refine Z1 ?_ | refine Z2 ?_ | refine x3 fun _ => ?_ | refine x4 fun _ => ?_ | refine x5 fun _ => ?_ | refine Z3 fun _ => ?_ | refine Z4 fun _ => ?_) | refine ZC ?_)
      exact re_1 (H' := H) rfl rfl (by exact drop_auto) (by rw [ho]; exact hQ)
    · rw [if_pos hd] at ho
      repeat (first | refine Z0 ?_ | (refine ZR ?_; first | refine x1 ?_ | refine x2 ?_ | refine x8 ?_ | refine Z1 ?_ | refine Z2 ?_ | refine x3 fun _ => ?_ | refine x4 fun _ => ?_ | refine x5 fun _ => ?_ | refine Z3 fun _ => ?_ | refine Z4 fun _ => ?_) | refine ZC ?_)
      exact ⟨i + 1, ⟨by omega, ho⟩, by omega, by repeat (first | exact SubL.nil | refine SubL.cons rfl ?_), by exact drop_auto⟩
  · have : i = 10 := by omega
    subst this
    rw [← hE, List.drop_length] at ho
    repeat (first | refine Z0 ?_ | (refine ZR ?_; first | refine x1 ?_ | refine x2 ?_ | refine x8 ?_ | refine Z1 ?_ | refine Z2 ?_ | refine x3 fun _ => ?_ | refine x4 fun _ => ?_ | refine x5 fun _ => ?_ | refine Z3 fun _ => ?_ | refine Z4 fun _ => ?_) | refine ZC ?_)
    exact re_1 (H' := H) rfl rfl (by exact drop_auto) (by rw [← ho] at hQ; exact hQ)
theorem prefix61_ct (a b c d : Int) (ha : 0 ≤ a ∧ a ≤ 4294967295) (hc : 0 ≤ c ∧ c ≤ 4294967295) (hQ : Q (.int .i64 (if sgn a c = 0 then sgn b d else sgn a c)) H) : CallT (cx B0 old) (acall (cx B0 old) ansP (n + 2)) 61 [.agg ⟨[.int .u32 a, .int .i64 b]⟩, .agg ⟨[.int .u32 c, .int .i64 d]⟩] H Q := by
  refine call_in2 21 rfl Tryz.func61 rfl rfl ?_
  repeat (first | refine Z0 ?_ | (refine ZR ?_; first | refine x1 ?_ | refine x2 ?_ | refine x8 ?_ | refine Z1 ?_ | refine Z2 ?_ | refine x3 fun _ => ?_ | refine x4 fun _ => ?_ | refine x5 fun _ => ?_ | refine Z3 fun _ => ?_ | refine Z4 fun _ => ?_) | refine ZC ?_)
  rw [i64_k (show -9223372036854775808 ≤ a ∧ a < 9223372036854775808 by omega), i64_k (show -9223372036854775808 ≤ c ∧ c < 9223372036854775808 by omega)]
  refine rt_step rfl rfl rfl (st_call rfl rfl rfl rfl (cmp89_ct a c ?_))
  repeat (first | refine Z0 ?_ | (refine ZR ?_; first | refine x1 ?_ | refine x2 ?_ | refine x8 ?_ | refine Z1 ?_ | refine Z2 ?_ | refine x3 fun _ => ?_ | refine x4 fun _ => ?_ | refine x5 fun _ => ?_ | refine Z3 fun _ => ?_ | refine Z4 fun _ => ?_) | refine ZC ?_)
  refine ct_condT te_e rfl (fun hd => ?_) (fun hd => ?_)
  · rw [if_pos hd] at hQ
    repeat (first | refine Z0 ?_ | (refine ZR ?_; first | refine x1 ?_ | refine x2 ?_ | refine x8 ?_ | refine Z1 ?_ | refine Z2 ?_ | refine x3 fun _ => ?_ | refine x4 fun _ => ?_ | refine x5 fun _ => ?_ | refine Z3 fun _ => ?_ | refine Z4 fun _ => ?_) | refine ZC ?_)
    refine rt_step rfl rfl rfl (st_call rfl rfl rfl rfl (cmp89_ct b d ?_))
    repeat (first | refine Z0 ?_ | (refine ZR ?_; first | refine x1 ?_ | refine x2 ?_ | refine x8 ?_ | refine Z1 ?_ | refine Z2 ?_ | refine x3 fun _ => ?_ | refine x4 fun _ => ?_ | refine x5 fun _ => ?_ | refine Z3 fun _ => ?_ | refine Z4 fun _ => ?_) | refine ZC ?_)
    exact re_1 (H' := H) rfl rfl (by exact drop_auto) hQ
  · rw [if_neg hd] at hQ
    repeat (first | refine Z0 ?_ | (refine ZR ?_; first | refine x1 ?_ | refine x2 ?_ | refine x8 ?_ | refine Z1 ?_ | refine Z2 ?_ | refine x3 fun _ => ?_ | refine x4 fun _ => ?_ | refine x5 fun _ => ?_ | refine Z3 fun _ => ?_ | refine Z4 fun _ => ?_) | refine ZC ?_)
    exact re_1 (H' := H) rfl rfl (by exact drop_auto) hQ
theorem compare24_ct (x y : S60) (hx : x.wf) (hy : y.wf) (hQ : Q (.int .i64 (nlC x y)) H) : CallT (cx B0 old) (acall (cx B0 old) ansP (n + 4)) 24 [.agg ⟨en60 x⟩, .agg ⟨en60 y⟩] H Q := by
  unfold nlC at hQ
  rw [← orC_eq] at hQ
  have hk1 : ∀ {H1 : Hp} {Θ : Value → Hp → Prop}, Θ (.agg ⟨en60 (keyS x)⟩) H1 → CallT (cx B0 old) (acall (cx B0 old) ansP (n + 3)) 28 [.agg ⟨en60 x⟩] H1 Θ := fun h => key28_ct x h
  have hk2 : ∀ {H1 : Hp} {Θ : Value → Hp → Prop}, Θ (.agg ⟨en60 (keyS y)⟩) H1 → CallT (cx B0 old) (acall (cx B0 old) ansP (n + 3)) 28 [.agg ⟨en60 y⟩] H1 Θ := fun h => key28_ct y h
  have hu := keyS_wf hx
  have hv := keyS_wf hy
  generalize keyS x = u at *
  generalize keyS y = v at *
  have yu := wf60_y hu
  have yv := wf60_y hv
  unfold S60.wf at hu hv
  have he : ∀ {H1 : Hp} {Θ : Value → Hp → Prop}, Θ (.int .i64 (lx (esL u) (esL v))) H1 → CallT (cx B0 old) (acall (cx B0 old) ansP (n + 3)) 59 [.agg ⟨[vY u.a2, vY u.a3, vY u.a4, vY u.a5, vY u.a6, vY u.a7, vY u.a8, vY u.a9, vY u.a10, vY u.a11]⟩, .agg ⟨[vY v.a2, vY v.a3, vY v.a4, vY v.a5, vY v.a6, vY v.a7, vY v.a8, vY v.a9, vY v.a10, vY v.a11]⟩] H1 Θ := fun h => esi59_ct (E := esL u) (F := esL v) rfl rfl yu yv h
  unfold orC at hQ
  generalize lx (esL u) (esL v) = w at *
  unfold en60 at hk1 hk2
  refine call_in2 85 rfl Tryz.func24 rfl rfl ?_
  unfold en60
  repeat (first | refine Z0 ?_ | (refine ZR ?_; first | refine x1 ?_ | refine x2 ?_ | refine x8 ?_ | refine Z1 ?_ | refine Z2 ?_ | refine x3 fun _ => ?_ | refine x4 fun _ => ?_ | refine x5 fun _ => ?_ | refine Z3 fun _ => ?_ | refine Z4 fun _ => ?_) | refine ZC ?_)
  rename_i c2 c3
  refine ct_draw (masks := [0, 1, 0, 7, 15, 31]) (plan := [0, 2, 1, 3, 4, 5]) (E := []) (by kernel_rfl) (by kernel_rfl) (by kernel_rfl) (by kernel_rfl) ?_
  repeat (first | refine Y0 ?_ | (refine YP ?_; first | refine y1 ?_ | refine y2 ?_ | refine Y1 ?_ | refine Y2 ?_))
  refine pl_S rfl rfl rfl rfl rfl rfl (st_call rfl rfl rfl rfl (hk1 ⟨by exact rec_auto, ?_⟩))
  repeat (first | refine Y0 ?_ | (refine YP ?_; first | refine y1 ?_ | refine y2 ?_ | refine Y1 ?_ | refine Y2 ?_))
  refine pl_S rfl rfl rfl rfl rfl rfl (st_call rfl rfl rfl rfl (hk2 ⟨by exact rec_auto, ?_⟩))
  repeat (first | refine Y0 ?_ | (refine YP ?_; first | refine y1 ?_ | refine y2 ?_ | refine Y1 ?_ | refine Y2 ?_))
  refine y3 ?_
  repeat (first | refine Y0 ?_ | (refine YP ?_; first | refine y1 ?_ | refine y2 ?_ | refine Y1 ?_ | refine Y2 ?_))
  refine y3 ?_
  repeat (first | refine Y0 ?_ | (refine YP ?_; first | refine y1 ?_ | refine y2 ?_ | refine Y1 ?_ | refine Y2 ?_))
  repeat (first | refine Z0 ?_ | (refine ZR ?_; first | refine x1 ?_ | refine x2 ?_ | refine x8 ?_ | refine Z1 ?_ | refine Z2 ?_ | refine x3 fun _ => ?_ | refine x4 fun _ => ?_ | refine x5 fun _ => ?_ | refine Z3 fun _ => ?_ | refine Z4 fun _ => ?_) | refine ZC ?_)
  refine ct_condT te_d rfl (fun h0 => ?_) (fun h0 => ?_)
  · have e : sgn u.a0 v.a0 = -1 := by unfold sgn; rw [if_pos h0]
    rw [e, orL, if_neg (by decide)] at hQ
    repeat (first | refine Z0 ?_ | (refine ZR ?_; first | refine x1 ?_ | refine x2 ?_ | refine x8 ?_ | refine Z1 ?_ | refine Z2 ?_ | refine x3 fun _ => ?_ | refine x4 fun _ => ?_ | refine x5 fun _ => ?_ | refine Z3 fun _ => ?_ | refine Z4 fun _ => ?_) | refine ZC ?_)
    exact re_1 (H' := H) rfl rfl (by exact drop_auto) hQ
  repeat (first | refine Z0 ?_ | (refine ZR ?_; first | refine x1 ?_ | refine x2 ?_ | refine x8 ?_ | refine Z1 ?_ | refine Z2 ?_ | refine x3 fun _ => ?_ | refine x4 fun _ => ?_ | refine x5 fun _ => ?_ | refine Z3 fun _ => ?_ | refine Z4 fun _ => ?_) | refine ZC ?_)
  refine ct_condT te_d rfl (fun h1 => ?_) (fun h1 => ?_)
  · have e : sgn u.a0 v.a0 = 1 := by unfold sgn; rw [if_neg h0, if_pos h1]
    rw [e, orL, if_neg (by decide)] at hQ
    repeat (first | refine Z0 ?_ | (refine ZR ?_; first | refine x1 ?_ | refine x2 ?_ | refine x8 ?_ | refine Z1 ?_ | refine Z2 ?_ | refine x3 fun _ => ?_ | refine x4 fun _ => ?_ | refine x5 fun _ => ?_ | refine Z3 fun _ => ?_ | refine Z4 fun _ => ?_) | refine ZC ?_)
    exact re_1 (H' := H) rfl rfl (by exact drop_auto) hQ
  have e : sgn u.a0 v.a0 = 0 := by unfold sgn; rw [if_neg h0, if_neg h1]
  rw [e, orL, if_pos rfl] at hQ
  clear e
  repeat (first | refine Z0 ?_ | (refine ZR ?_; first | refine x1 ?_ | refine x2 ?_ | refine x8 ?_ | refine Z1 ?_ | refine Z2 ?_ | refine x3 fun _ => ?_ | refine x4 fun _ => ?_ | refine x5 fun _ => ?_ | refine Z3 fun _ => ?_ | refine Z4 fun _ => ?_) | refine ZC ?_)
  refine rt_step rfl rfl rfl (st_call rfl rfl rfl rfl (cmp58_ct _ _ ?_))
  repeat (first | refine Z0 ?_ | (refine ZR ?_; first | refine x1 ?_ | refine x2 ?_ | refine x8 ?_ | refine Z1 ?_ | refine Z2 ?_ | refine x3 fun _ => ?_ | refine x4 fun _ => ?_ | refine x5 fun _ => ?_ | refine Z3 fun _ => ?_ | refine Z4 fun _ => ?_) | refine ZC ?_)
  refine ct_midE (ι := Int) (fun c => c = if sgn u.a1 v.a1 = 0 then w else sgn u.a1 v.a1) (fun c => [(5, .int .i64 c), (2, .pointer (some ⟨c2, 0, none⟩)), (3, .pointer (some ⟨c3, 0, none⟩))]) (fun _ => (c3, .row [.int .i64 v.a0, .int .u64 v.a1, .int .u8 v.a2, .int .u8 v.a3, .int .u8 v.a4, .int .u8 v.a5, .int .u8 v.a6, .int .u8 v.a7, .int .u8 v.a8, .int .u8 v.a9, .int .u8 v.a10, .int .u8 v.a11, .int .u32 v.a12, .int .u64 v.a13, .int .u32 v.a14, .bool v.a15, .int .u32 v.a16, .int .i64 v.a17, .int .u32 v.a18, .int .u32 v.a19, .int .u32 v.a20] 21 false) :: (c2, .row [.int .i64 u.a0, .int .u64 u.a1, .int .u8 u.a2, .int .u8 u.a3, .int .u8 u.a4, .int .u8 u.a5, .int .u8 u.a6, .int .u8 u.a7, .int .u8 u.a8, .int .u8 u.a9, .int .u8 u.a10, .int .u8 u.a11, .int .u32 u.a12, .int .u64 u.a13, .int .u32 u.a14, .bool u.a15, .int .u32 u.a16, .int .i64 u.a17, .int .u32 u.a18, .int .u32 u.a19, .int .u32 u.a20] 21 false) :: H) ?_ ?_
  · refine ct_condT te_e rfl (fun hd => ?_) (fun hd => ?_)
    · repeat (first | refine Z0 ?_ | (refine ZR ?_; first | refine x1 ?_ | refine x2 ?_ | refine x8 ?_ | refine Z1 ?_ | refine Z2 ?_ | refine x3 fun _ => ?_ | refine x4 fun _ => ?_ | refine x5 fun _ => ?_ | refine Z3 fun _ => ?_ | refine Z4 fun _ => ?_) | refine ZC ?_)
      refine rt_step rfl rfl rfl (st_call rfl rfl rfl rfl (he ?_))
      repeat (first | refine Z0 ?_ | (refine ZR ?_; first | refine x1 ?_ | refine x2 ?_ | refine x8 ?_ | refine Z1 ?_ | refine Z2 ?_ | refine x3 fun _ => ?_ | refine x4 fun _ => ?_ | refine x5 fun _ => ?_ | refine Z3 fun _ => ?_ | refine Z4 fun _ => ?_) | refine ZC ?_)
      exact ⟨_, (if_pos hd).symm, by repeat (first | exact SubL.nil | refine SubL.cons rfl ?_), by exact drop_auto⟩
    · repeat (first | refine Z0 ?_ | (refine ZR ?_; first | refine x1 ?_ | refine x2 ?_ | refine x8 ?_ | refine Z1 ?_ | refine Z2 ?_ | refine x3 fun _ => ?_ | refine x4 fun _ => ?_ | refine x5 fun _ => ?_ | refine Z3 fun _ => ?_ | refine Z4 fun _ => ?_) | refine ZC ?_)
      exact ⟨_, (if_neg hd).symm, by repeat (first | exact SubL.nil | refine SubL.cons rfl ?_), by exact drop_auto⟩
  intro d2 h2
  repeat (first | refine Z0 ?_ | (refine ZR ?_; first | refine x1 ?_ | refine x2 ?_ | refine x8 ?_ | refine Z1 ?_ | refine Z2 ?_ | refine x3 fun _ => ?_ | refine x4 fun _ => ?_ | refine x5 fun _ => ?_ | refine Z3 fun _ => ?_ | refine Z4 fun _ => ?_) | refine ZC ?_)
  refine ct_midE (ι := Int) (fun c => c = if d2 = 0 then sgn u.a12 v.a12 else d2) (fun c => [(5, .int .i64 c), (2, .pointer (some ⟨c2, 0, none⟩)), (3, .pointer (some ⟨c3, 0, none⟩))]) (fun _ => (c3, .row [.int .i64 v.a0, .int .u64 v.a1, .int .u8 v.a2, .int .u8 v.a3, .int .u8 v.a4, .int .u8 v.a5, .int .u8 v.a6, .int .u8 v.a7, .int .u8 v.a8, .int .u8 v.a9, .int .u8 v.a10, .int .u8 v.a11, .int .u32 v.a12, .int .u64 v.a13, .int .u32 v.a14, .bool v.a15, .int .u32 v.a16, .int .i64 v.a17, .int .u32 v.a18, .int .u32 v.a19, .int .u32 v.a20] 21 false) :: (c2, .row [.int .i64 u.a0, .int .u64 u.a1, .int .u8 u.a2, .int .u8 u.a3, .int .u8 u.a4, .int .u8 u.a5, .int .u8 u.a6, .int .u8 u.a7, .int .u8 u.a8, .int .u8 u.a9, .int .u8 u.a10, .int .u8 u.a11, .int .u32 u.a12, .int .u64 u.a13, .int .u32 u.a14, .bool u.a15, .int .u32 u.a16, .int .i64 u.a17, .int .u32 u.a18, .int .u32 u.a19, .int .u32 u.a20] 21 false) :: H) ?_ ?_
  · refine ct_condT te_e rfl (fun hd => ?_) (fun hd => ?_)
    · repeat (first | refine Z0 ?_ | (refine ZR ?_; first | refine x1 ?_ | refine x2 ?_ | refine x8 ?_ | refine Z1 ?_ | refine Z2 ?_ | refine x3 fun _ => ?_ | refine x4 fun _ => ?_ | refine x5 fun _ => ?_ | refine Z3 fun _ => ?_ | refine Z4 fun _ => ?_) | refine ZC ?_)
      rw [u64_id (show 0 ≤ u.a12 ∧ u.a12 < 18446744073709551616 by omega), u64_id (show 0 ≤ v.a12 ∧ v.a12 < 18446744073709551616 by omega)]
      refine rt_step rfl rfl rfl (st_call rfl rfl rfl rfl (cmp58_ct _ _ ?_))
      repeat (first | refine Z0 ?_ | (refine ZR ?_; first | refine x1 ?_ | refine x2 ?_ | refine x8 ?_ | refine Z1 ?_ | refine Z2 ?_ | refine x3 fun _ => ?_ | refine x4 fun _ => ?_ | refine x5 fun _ => ?_ | refine Z3 fun _ => ?_ | refine Z4 fun _ => ?_) | refine ZC ?_)
      exact ⟨_, (if_pos hd).symm, by repeat (first | exact SubL.nil | refine SubL.cons rfl ?_), by exact drop_auto⟩
    · repeat (first | refine Z0 ?_ | (refine ZR ?_; first | refine x1 ?_ | refine x2 ?_ | refine x8 ?_ | refine Z1 ?_ | refine Z2 ?_ | refine x3 fun _ => ?_ | refine x4 fun _ => ?_ | refine x5 fun _ => ?_ | refine Z3 fun _ => ?_ | refine Z4 fun _ => ?_) | refine ZC ?_)
      exact ⟨_, (if_neg hd).symm, by repeat (first | exact SubL.nil | refine SubL.cons rfl ?_), by exact drop_auto⟩
  intro d3 h3
  repeat (first | refine Z0 ?_ | (refine ZR ?_; first | refine x1 ?_ | refine x2 ?_ | refine x8 ?_ | refine Z1 ?_ | refine Z2 ?_ | refine x3 fun _ => ?_ | refine x4 fun _ => ?_ | refine x5 fun _ => ?_ | refine Z3 fun _ => ?_ | refine Z4 fun _ => ?_) | refine ZC ?_)
  refine ct_midE (ι := Int) (fun c => c = if d3 = 0 then sgn u.a13 v.a13 else d3) (fun c => [(5, .int .i64 c), (2, .pointer (some ⟨c2, 0, none⟩)), (3, .pointer (some ⟨c3, 0, none⟩))]) (fun _ => (c3, .row [.int .i64 v.a0, .int .u64 v.a1, .int .u8 v.a2, .int .u8 v.a3, .int .u8 v.a4, .int .u8 v.a5, .int .u8 v.a6, .int .u8 v.a7, .int .u8 v.a8, .int .u8 v.a9, .int .u8 v.a10, .int .u8 v.a11, .int .u32 v.a12, .int .u64 v.a13, .int .u32 v.a14, .bool v.a15, .int .u32 v.a16, .int .i64 v.a17, .int .u32 v.a18, .int .u32 v.a19, .int .u32 v.a20] 21 false) :: (c2, .row [.int .i64 u.a0, .int .u64 u.a1, .int .u8 u.a2, .int .u8 u.a3, .int .u8 u.a4, .int .u8 u.a5, .int .u8 u.a6, .int .u8 u.a7, .int .u8 u.a8, .int .u8 u.a9, .int .u8 u.a10, .int .u8 u.a11, .int .u32 u.a12, .int .u64 u.a13, .int .u32 u.a14, .bool u.a15, .int .u32 u.a16, .int .i64 u.a17, .int .u32 u.a18, .int .u32 u.a19, .int .u32 u.a20] 21 false) :: H) ?_ ?_
  · refine ct_condT te_e rfl (fun hd => ?_) (fun hd => ?_)
    · repeat (first | refine Z0 ?_ | (refine ZR ?_; first | refine x1 ?_ | refine x2 ?_ | refine x8 ?_ | refine Z1 ?_ | refine Z2 ?_ | refine x3 fun _ => ?_ | refine x4 fun _ => ?_ | refine x5 fun _ => ?_ | refine Z3 fun _ => ?_ | refine Z4 fun _ => ?_) | refine ZC ?_)
      refine rt_step rfl rfl rfl (st_call rfl rfl rfl rfl (cmp58_ct _ _ ?_))
      repeat (first | refine Z0 ?_ | (refine ZR ?_; first | refine x1 ?_ | refine x2 ?_ | refine x8 ?_ | refine Z1 ?_ | refine Z2 ?_ | refine x3 fun _ => ?_ | refine x4 fun _ => ?_ | refine x5 fun _ => ?_ | refine Z3 fun _ => ?_ | refine Z4 fun _ => ?_) | refine ZC ?_)
      exact ⟨_, (if_pos hd).symm, by repeat (first | exact SubL.nil | refine SubL.cons rfl ?_), by exact drop_auto⟩
    · repeat (first | refine Z0 ?_ | (refine ZR ?_; first | refine x1 ?_ | refine x2 ?_ | refine x8 ?_ | refine Z1 ?_ | refine Z2 ?_ | refine x3 fun _ => ?_ | refine x4 fun _ => ?_ | refine x5 fun _ => ?_ | refine Z3 fun _ => ?_ | refine Z4 fun _ => ?_) | refine ZC ?_)
      exact ⟨_, (if_neg hd).symm, by repeat (first | exact SubL.nil | refine SubL.cons rfl ?_), by exact drop_auto⟩
  intro d4 h4
  repeat (first | refine Z0 ?_ | (refine ZR ?_; first | refine x1 ?_ | refine x2 ?_ | refine x8 ?_ | refine Z1 ?_ | refine Z2 ?_ | refine x3 fun _ => ?_ | refine x4 fun _ => ?_ | refine x5 fun _ => ?_ | refine Z3 fun _ => ?_ | refine Z4 fun _ => ?_) | refine ZC ?_)
  refine ct_midE (ι := Int) (fun c => c = if d4 = 0 then sgn (b2i u.a15) (b2i v.a15) else d4) (fun c => [(5, .int .i64 c), (2, .pointer (some ⟨c2, 0, none⟩)), (3, .pointer (some ⟨c3, 0, none⟩))]) (fun _ => (c3, .row [.int .i64 v.a0, .int .u64 v.a1, .int .u8 v.a2, .int .u8 v.a3, .int .u8 v.a4, .int .u8 v.a5, .int .u8 v.a6, .int .u8 v.a7, .int .u8 v.a8, .int .u8 v.a9, .int .u8 v.a10, .int .u8 v.a11, .int .u32 v.a12, .int .u64 v.a13, .int .u32 v.a14, .bool v.a15, .int .u32 v.a16, .int .i64 v.a17, .int .u32 v.a18, .int .u32 v.a19, .int .u32 v.a20] 21 false) :: (c2, .row [.int .i64 u.a0, .int .u64 u.a1, .int .u8 u.a2, .int .u8 u.a3, .int .u8 u.a4, .int .u8 u.a5, .int .u8 u.a6, .int .u8 u.a7, .int .u8 u.a8, .int .u8 u.a9, .int .u8 u.a10, .int .u8 u.a11, .int .u32 u.a12, .int .u64 u.a13, .int .u32 u.a14, .bool u.a15, .int .u32 u.a16, .int .i64 u.a17, .int .u32 u.a18, .int .u32 u.a19, .int .u32 u.a20] 21 false) :: H) ?_ ?_
  · refine ct_condT te_e rfl (fun hd => ?_) (fun hd => ?_)
    · repeat (first | refine Z0 ?_ | (refine ZR ?_; first | refine x1 ?_ | refine x2 ?_ | refine x8 ?_ | refine Z1 ?_ | refine Z2 ?_ | refine x3 fun _ => ?_ | refine x4 fun _ => ?_ | refine x5 fun _ => ?_ | refine Z3 fun _ => ?_ | refine Z4 fun _ => ?_) | refine ZC ?_)
      refine ct_draw (masks := [0, 1, 3, 0, 8, 31, 63, 127]) (plan := [0, 1, 3, 4, 2, 5, 6, 7]) (E := []) (by kernel_rfl) (by kernel_rfl) (by kernel_rfl) (by kernel_rfl) ?_
      repeat (first | refine Y0 ?_ | (refine YP ?_; first | refine y1 ?_ | refine y2 ?_ | refine Y1 ?_ | refine Y2 ?_))
      refine pl_S rfl rfl rfl rfl rfl rfl (st_call rfl rfl rfl rfl (number60_ct _ ⟨by exact rec_auto, ?_⟩))
      repeat (first | refine Y0 ?_ | (refine YP ?_; first | refine y1 ?_ | refine y2 ?_ | refine Y1 ?_ | refine Y2 ?_))
      refine pl_S rfl rfl rfl rfl rfl rfl (st_call rfl rfl rfl rfl (number60_ct _ ⟨by exact rec_auto, ?_⟩))
      repeat (first | refine Y0 ?_ | (refine YP ?_; first | refine y1 ?_ | refine y2 ?_ | refine Y1 ?_ | refine Y2 ?_))
      refine pl_S rfl rfl rfl rfl rfl rfl (st_call rfl rfl rfl rfl (cmp58_ct _ _ ⟨by exact rec_auto, ?_⟩))
      repeat (first | refine Y0 ?_ | (refine YP ?_; first | refine y1 ?_ | refine y2 ?_ | refine Y1 ?_ | refine Y2 ?_))
      repeat (first | refine Z0 ?_ | (refine ZR ?_; first | refine x1 ?_ | refine x2 ?_ | refine x8 ?_ | refine Z1 ?_ | refine Z2 ?_ | refine x3 fun _ => ?_ | refine x4 fun _ => ?_ | refine x5 fun _ => ?_ | refine Z3 fun _ => ?_ | refine Z4 fun _ => ?_) | refine ZC ?_)
      exact ⟨_, (if_pos hd).symm, by repeat (first | exact SubL.nil | refine SubL.cons rfl ?_), by exact drop_auto⟩
    · repeat (first | refine Z0 ?_ | (refine ZR ?_; first | refine x1 ?_ | refine x2 ?_ | refine x8 ?_ | refine Z1 ?_ | refine Z2 ?_ | refine x3 fun _ => ?_ | refine x4 fun _ => ?_ | refine x5 fun _ => ?_ | refine Z3 fun _ => ?_ | refine Z4 fun _ => ?_) | refine ZC ?_)
      exact ⟨_, (if_neg hd).symm, by repeat (first | exact SubL.nil | refine SubL.cons rfl ?_), by exact drop_auto⟩
  intro d5 h5
  repeat (first | refine Z0 ?_ | (refine ZR ?_; first | refine x1 ?_ | refine x2 ?_ | refine x8 ?_ | refine Z1 ?_ | refine Z2 ?_ | refine x3 fun _ => ?_ | refine x4 fun _ => ?_ | refine x5 fun _ => ?_ | refine Z3 fun _ => ?_ | refine Z4 fun _ => ?_) | refine ZC ?_)
  refine ct_midE (ι := Int) (fun c => c = if d5 = 0 then sgn u.a14 v.a14 else d5) (fun c => [(5, .int .i64 c), (2, .pointer (some ⟨c2, 0, none⟩)), (3, .pointer (some ⟨c3, 0, none⟩))]) (fun _ => (c3, .row [.int .i64 v.a0, .int .u64 v.a1, .int .u8 v.a2, .int .u8 v.a3, .int .u8 v.a4, .int .u8 v.a5, .int .u8 v.a6, .int .u8 v.a7, .int .u8 v.a8, .int .u8 v.a9, .int .u8 v.a10, .int .u8 v.a11, .int .u32 v.a12, .int .u64 v.a13, .int .u32 v.a14, .bool v.a15, .int .u32 v.a16, .int .i64 v.a17, .int .u32 v.a18, .int .u32 v.a19, .int .u32 v.a20] 21 false) :: (c2, .row [.int .i64 u.a0, .int .u64 u.a1, .int .u8 u.a2, .int .u8 u.a3, .int .u8 u.a4, .int .u8 u.a5, .int .u8 u.a6, .int .u8 u.a7, .int .u8 u.a8, .int .u8 u.a9, .int .u8 u.a10, .int .u8 u.a11, .int .u32 u.a12, .int .u64 u.a13, .int .u32 u.a14, .bool u.a15, .int .u32 u.a16, .int .i64 u.a17, .int .u32 u.a18, .int .u32 u.a19, .int .u32 u.a20] 21 false) :: H) ?_ ?_
  · refine ct_condT te_e rfl (fun hd => ?_) (fun hd => ?_)
    · repeat (first | refine Z0 ?_ | (refine ZR ?_; first | refine x1 ?_ | refine x2 ?_ | refine x8 ?_ | refine Z1 ?_ | refine Z2 ?_ | refine x3 fun _ => ?_ | refine x4 fun _ => ?_ | refine x5 fun _ => ?_ | refine Z3 fun _ => ?_ | refine Z4 fun _ => ?_) | refine ZC ?_)
      rw [u64_id (show 0 ≤ u.a14 ∧ u.a14 < 18446744073709551616 by omega), u64_id (show 0 ≤ v.a14 ∧ v.a14 < 18446744073709551616 by omega)]
      refine rt_step rfl rfl rfl (st_call rfl rfl rfl rfl (cmp58_ct _ _ ?_))
      repeat (first | refine Z0 ?_ | (refine ZR ?_; first | refine x1 ?_ | refine x2 ?_ | refine x8 ?_ | refine Z1 ?_ | refine Z2 ?_ | refine x3 fun _ => ?_ | refine x4 fun _ => ?_ | refine x5 fun _ => ?_ | refine Z3 fun _ => ?_ | refine Z4 fun _ => ?_) | refine ZC ?_)
      exact ⟨_, (if_pos hd).symm, by repeat (first | exact SubL.nil | refine SubL.cons rfl ?_), by exact drop_auto⟩
    · repeat (first | refine Z0 ?_ | (refine ZR ?_; first | refine x1 ?_ | refine x2 ?_ | refine x8 ?_ | refine Z1 ?_ | refine Z2 ?_ | refine x3 fun _ => ?_ | refine x4 fun _ => ?_ | refine x5 fun _ => ?_ | refine Z3 fun _ => ?_ | refine Z4 fun _ => ?_) | refine ZC ?_)
      exact ⟨_, (if_neg hd).symm, by repeat (first | exact SubL.nil | refine SubL.cons rfl ?_), by exact drop_auto⟩
  intro d6 h6
  repeat (first | refine Z0 ?_ | (refine ZR ?_; first | refine x1 ?_ | refine x2 ?_ | refine x8 ?_ | refine Z1 ?_ | refine Z2 ?_ | refine x3 fun _ => ?_ | refine x4 fun _ => ?_ | refine x5 fun _ => ?_ | refine Z3 fun _ => ?_ | refine Z4 fun _ => ?_) | refine ZC ?_)
  refine ct_midE (ι := Int) (fun c => c = if d6 = 0 then (if sgn u.a16 v.a16 = 0 then sgn u.a17 v.a17 else sgn u.a16 v.a16) else d6) (fun c => [(5, .int .i64 c), (2, .pointer (some ⟨c2, 0, none⟩)), (3, .pointer (some ⟨c3, 0, none⟩))]) (fun _ => (c3, .row [.int .i64 v.a0, .int .u64 v.a1, .int .u8 v.a2, .int .u8 v.a3, .int .u8 v.a4, .int .u8 v.a5, .int .u8 v.a6, .int .u8 v.a7, .int .u8 v.a8, .int .u8 v.a9, .int .u8 v.a10, .int .u8 v.a11, .int .u32 v.a12, .int .u64 v.a13, .int .u32 v.a14, .bool v.a15, .int .u32 v.a16, .int .i64 v.a17, .int .u32 v.a18, .int .u32 v.a19, .int .u32 v.a20] 21 false) :: (c2, .row [.int .i64 u.a0, .int .u64 u.a1, .int .u8 u.a2, .int .u8 u.a3, .int .u8 u.a4, .int .u8 u.a5, .int .u8 u.a6, .int .u8 u.a7, .int .u8 u.a8, .int .u8 u.a9, .int .u8 u.a10, .int .u8 u.a11, .int .u32 u.a12, .int .u64 u.a13, .int .u32 u.a14, .bool u.a15, .int .u32 u.a16, .int .i64 u.a17, .int .u32 u.a18, .int .u32 u.a19, .int .u32 u.a20] 21 false) :: H) ?_ ?_
  · refine ct_condT te_e rfl (fun hd => ?_) (fun hd => ?_)
    · repeat (first | refine Z0 ?_ | (refine ZR ?_; first | refine x1 ?_ | refine x2 ?_ | refine x8 ?_ | refine Z1 ?_ | refine Z2 ?_ | refine x3 fun _ => ?_ | refine x4 fun _ => ?_ | refine x5 fun _ => ?_ | refine Z3 fun _ => ?_ | refine Z4 fun _ => ?_) | refine ZC ?_)
      refine rt_step rfl rfl rfl (st_call rfl rfl rfl rfl (prefix61_ct _ _ _ _ (by omega) (by omega) ?_))
      repeat (first | refine Z0 ?_ | (refine ZR ?_; first | refine x1 ?_ | refine x2 ?_ | refine x8 ?_ | refine Z1 ?_ | refine Z2 ?_ | refine x3 fun _ => ?_ | refine x4 fun _ => ?_ | refine x5 fun _ => ?_ | refine Z3 fun _ => ?_ | refine Z4 fun _ => ?_) | refine ZC ?_)
      exact ⟨_, (if_pos hd).symm, by repeat (first | exact SubL.nil | refine SubL.cons rfl ?_), by exact drop_auto⟩
    · repeat (first | refine Z0 ?_ | (refine ZR ?_; first | refine x1 ?_ | refine x2 ?_ | refine x8 ?_ | refine Z1 ?_ | refine Z2 ?_ | refine x3 fun _ => ?_ | refine x4 fun _ => ?_ | refine x5 fun _ => ?_ | refine Z3 fun _ => ?_ | refine Z4 fun _ => ?_) | refine ZC ?_)
      exact ⟨_, (if_neg hd).symm, by repeat (first | exact SubL.nil | refine SubL.cons rfl ?_), by exact drop_auto⟩
  intro d7 h7
  repeat (first | refine Z0 ?_ | (refine ZR ?_; first | refine x1 ?_ | refine x2 ?_ | refine x8 ?_ | refine Z1 ?_ | refine Z2 ?_ | refine x3 fun _ => ?_ | refine x4 fun _ => ?_ | refine x5 fun _ => ?_ | refine Z3 fun _ => ?_ | refine Z4 fun _ => ?_) | refine ZC ?_)
  refine ct_midE (ι := Int) (fun c => c = if d7 = 0 then sgn u.a18 v.a18 else d7) (fun c => [(5, .int .i64 c), (2, .pointer (some ⟨c2, 0, none⟩)), (3, .pointer (some ⟨c3, 0, none⟩))]) (fun _ => (c3, .row [.int .i64 v.a0, .int .u64 v.a1, .int .u8 v.a2, .int .u8 v.a3, .int .u8 v.a4, .int .u8 v.a5, .int .u8 v.a6, .int .u8 v.a7, .int .u8 v.a8, .int .u8 v.a9, .int .u8 v.a10, .int .u8 v.a11, .int .u32 v.a12, .int .u64 v.a13, .int .u32 v.a14, .bool v.a15, .int .u32 v.a16, .int .i64 v.a17, .int .u32 v.a18, .int .u32 v.a19, .int .u32 v.a20] 21 false) :: (c2, .row [.int .i64 u.a0, .int .u64 u.a1, .int .u8 u.a2, .int .u8 u.a3, .int .u8 u.a4, .int .u8 u.a5, .int .u8 u.a6, .int .u8 u.a7, .int .u8 u.a8, .int .u8 u.a9, .int .u8 u.a10, .int .u8 u.a11, .int .u32 u.a12, .int .u64 u.a13, .int .u32 u.a14, .bool u.a15, .int .u32 u.a16, .int .i64 u.a17, .int .u32 u.a18, .int .u32 u.a19, .int .u32 u.a20] 21 false) :: H) ?_ ?_
  · refine ct_condT te_e rfl (fun hd => ?_) (fun hd => ?_)
    · repeat (first | refine Z0 ?_ | (refine ZR ?_; first | refine x1 ?_ | refine x2 ?_ | refine x8 ?_ | refine Z1 ?_ | refine Z2 ?_ | refine x3 fun _ => ?_ | refine x4 fun _ => ?_ | refine x5 fun _ => ?_ | refine Z3 fun _ => ?_ | refine Z4 fun _ => ?_) | refine ZC ?_)
      rw [u64_id (show 0 ≤ u.a18 ∧ u.a18 < 18446744073709551616 by omega), u64_id (show 0 ≤ v.a18 ∧ v.a18 < 18446744073709551616 by omega)]
      refine rt_step rfl rfl rfl (st_call rfl rfl rfl rfl (cmp58_ct _ _ ?_))
      repeat (first | refine Z0 ?_ | (refine ZR ?_; first | refine x1 ?_ | refine x2 ?_ | refine x8 ?_ | refine Z1 ?_ | refine Z2 ?_ | refine x3 fun _ => ?_ | refine x4 fun _ => ?_ | refine x5 fun _ => ?_ | refine Z3 fun _ => ?_ | refine Z4 fun _ => ?_) | refine ZC ?_)
      exact ⟨_, (if_pos hd).symm, by repeat (first | exact SubL.nil | refine SubL.cons rfl ?_), by exact drop_auto⟩
    · repeat (first | refine Z0 ?_ | (refine ZR ?_; first | refine x1 ?_ | refine x2 ?_ | refine x8 ?_ | refine Z1 ?_ | refine Z2 ?_ | refine x3 fun _ => ?_ | refine x4 fun _ => ?_ | refine x5 fun _ => ?_ | refine Z3 fun _ => ?_ | refine Z4 fun _ => ?_) | refine ZC ?_)
      exact ⟨_, (if_neg hd).symm, by repeat (first | exact SubL.nil | refine SubL.cons rfl ?_), by exact drop_auto⟩
  intro d8 h8
  repeat (first | refine Z0 ?_ | (refine ZR ?_; first | refine x1 ?_ | refine x2 ?_ | refine x8 ?_ | refine Z1 ?_ | refine Z2 ?_ | refine x3 fun _ => ?_ | refine x4 fun _ => ?_ | refine x5 fun _ => ?_ | refine Z3 fun _ => ?_ | refine Z4 fun _ => ?_) | refine ZC ?_)
  refine re_1 (H' := H) rfl rfl (by exact drop_auto) ?_
  have e : d8 = orL [sgn u.a1 v.a1, w, sgn u.a12 v.a12, sgn u.a13 v.a13, sgn (b2i u.a15) (b2i v.a15), sgn u.a14 v.a14, sgn u.a16 v.a16, sgn u.a17 v.a17, sgn u.a18 v.a18] := by
    have h7' : (if (if d6 = 0 then sgn u.a16 v.a16 else d6) = 0 then sgn u.a17 v.a17 else if d6 = 0 then sgn u.a16 v.a16 else d6) = d7 := by
      rw [h7]
      by_cases g : d6 = 0
      · rw [if_pos g, if_pos g]
      · rw [if_neg g, if_neg g, if_neg g]
    rw [orL_step, ← h2, orL_step, ← h3, orL_step, ← h4, orL_step, ← h5, orL_step, ← h6, orL_step, orL_step, h7', orL_step, ← h8, orL_one]
  rw [e]
  exact hQ
end
end Go.Proofs.YtphadapcafibpaaGreat.Abs

/- Routes in plain Lean: which are valid, how they are encoded. -/
namespace Go.Proofs.YtphadapcafibpaaGreat.Abs
open Go
set_option linter.unusedVariables false
def zS : S60 := ⟨0, 0, 0, 0, 0, 0, 0, 0, 0, 0, 0, 0, 0, 0, 0, false, 0, 0, 0, 0, 0⟩
/-- The fields that the kind uses. -/
def onlyS (x : S60) : S60 := if x.a0 = 1 then { x with a13 := 0, a14 := 0, a15 := false, a16 := 0, a17 := 0, a18 := 0, a20 := 0 } else if x.a0 = 2 then { x with a14 := if x.a15 then x.a14 else 0, a16 := 0, a17 := 0, a18 := 0 } else if x.a0 = 3 then { x with a2 := 0, a3 := 0, a4 := 0, a5 := 0, a6 := 0, a7 := 0, a8 := 0, a9 := 0, a10 := 0, a11 := 0, a13 := 0, a15 := true, a16 := 0, a17 := 0, a18 := 0, a19 := 0, a20 := 0 } else if x.a0 = 4 then { x with a12 := 0, a13 := 0, a15 := true, a16 := 0, a17 := 0, a18 := 0, a19 := 0, a20 := 0 } else { x with a13 := 0, a14 := 0, a15 := false, a20 := 0 }
/-- The fields that the kind does not use. -/
def zapS (x : S60) : S60 := if x.a0 = 2 then { x with a0 := 0, a1 := 0, a2 := 0, a3 := 0, a4 := 0, a5 := 0, a6 := 0, a7 := 0, a8 := 0, a9 := 0, a10 := 0, a11 := 0, a12 := 0, a13 := 0, a15 := false, a14 := 0, a19 := 0, a20 := 0 } else if x.a0 = 1 then { x with a0 := 0, a1 := 0, a2 := 0, a3 := 0, a4 := 0, a5 := 0, a6 := 0, a7 := 0, a8 := 0, a9 := 0, a10 := 0, a11 := 0, a12 := 0, a19 := 0 } else if x.a0 = 3 then { x with a0 := 0, a1 := 0, a12 := 0, a15 := false, a14 := 0 } else if x.a0 = 4 then { x with a0 := 0, a1 := 0, a2 := 0, a3 := 0, a4 := 0, a5 := 0, a6 := 0, a7 := 0, a8 := 0, a9 := 0, a10 := 0, a11 := 0, a15 := false, a14 := 0 } else if x.a0 = 5 then { x with a0 := 0, a1 := 0, a2 := 0, a3 := 0, a4 := 0, a5 := 0, a6 := 0, a7 := 0, a8 := 0, a9 := 0, a10 := 0, a11 := 0, a12 := 0, a16 := 0, a17 := 0, a18 := 0, a19 := 0 } else { x with a0 := 0, a1 := 0 }
def nlForm (x : S60) : Bool := leafsEq (en60 (onlyS x)) (en60 x)
def nlFor (x : S60) : Bool := leafsEq (en60 (zapS x)) (en60 zS)
def okIP (x : S60) : Prop := x.a15 = true ∨ ¬ (x.a0 = 3 ∨ x.a0 = 4 ∨ (x.a0 = 2 ∧ x.a14 ≠ 0))
theorem form_iff {x : S60} (h : 1 ≤ x.a0 ∧ x.a0 ≤ 5) : nlForm x = true ↔ nlFor x = true ∧ okIP x := by
  have hk : x.a0 = 1 ∨ x.a0 = 2 ∨ x.a0 = 3 ∨ x.a0 = 4 ∨ x.a0 = 5 := by omega
  clear h
  obtain ⟨x0, x1, x2, x3, x4, x5, x6, x7, x8, x9, x10, x11, x12, x13, x14, x15, x16, x17, x18, x19, x20⟩ := x
  dsimp only at hk
  unfold nlForm nlFor okIP onlyS zapS zS
  rcases hk with h | h | h | h | h
  all_goals subst h
  all_goals simp [en60, leafsEq, leafN, leafT]
  all_goals (try cases x15)
  all_goals (try simp)
  all_goals (first | done | omega | (constructor <;> (intro h; simp_all)))
def mskI (l : Int) : Int := IntKind.u32.wrap (4294967295 * 2 ^ (min (32 - l).toNat IntKind.u32.bits))
def clI (ip l : Int) : Int := IntKind.u32.wrap ((BitVec.ofInt IntKind.u32.bits ip &&& BitVec.ofInt IntKind.u32.bits (mskI l)).toNat : Int)
def nlCk (x : S60) : Int := if x.a0 < 1 ∨ x.a0 > 5 then 6 else if nlForm x = false then 3 else if x.a13 > 281474976710655 ∨ x.a19 > 16777215 ∨ x.a20 > 16777215 ∨ x.a17 < 0 ∨ x.a17 > 32 then 2 else if clI x.a16 x.a17 ≠ x.a16 then 3 else 0
theorem ck_6 {x : S60} (h : x.a0 < 1 ∨ x.a0 > 5) : nlCk x = 6 := by unfold nlCk; rw [if_pos h]
theorem ck_3 {x : S60} (h : ¬ (x.a0 < 1 ∨ x.a0 > 5)) (h2 : nlForm x = false) : nlCk x = 3 := by unfold nlCk; rw [if_neg h, if_pos h2]
theorem ck_2 {x : S60} (h : ¬ (x.a0 < 1 ∨ x.a0 > 5)) (h2 : nlForm x = true) (h3 : x.a13 > 281474976710655 ∨ x.a19 > 16777215 ∨ x.a20 > 16777215 ∨ x.a17 < 0 ∨ x.a17 > 32) : nlCk x = 2 := by unfold nlCk; rw [if_neg h, h2, if_neg (by decide), if_pos h3]
theorem ck_c {x : S60} (h : ¬ (x.a0 < 1 ∨ x.a0 > 5)) (h2 : nlForm x = true) (h3 : ¬ (x.a13 > 281474976710655 ∨ x.a19 > 16777215 ∨ x.a20 > 16777215 ∨ x.a17 < 0 ∨ x.a17 > 32)) : nlCk x = if clI x.a16 x.a17 ≠ x.a16 then 3 else 0 := by unfold nlCk; rw [if_neg h, h2, if_neg (by decide), if_neg h3]
/-- What a valid route satisfies. -/
structure NlOk (x : S60) : Prop where
  kind : 1 ≤ x.a0 ∧ x.a0 ≤ 5
  form : nlForm x = true
  rng : x.a13 ≤ 281474976710655 ∧ x.a19 ≤ 16777215 ∧ x.a20 ≤ 16777215 ∧ 0 ≤ x.a17 ∧ x.a17 ≤ 32
  clean : clI x.a16 x.a17 = x.a16
theorem nlOk_iff {x : S60} : nlCk x = 0 ↔ NlOk x := by
  constructor
  · intro h
    by_cases h1 : x.a0 < 1 ∨ x.a0 > 5
    · rw [ck_6 h1] at h; cases h
    cases h2 : nlForm x with
    | false => rw [ck_3 h1 h2] at h; cases h
    | true =>
      by_cases h3 : x.a13 > 281474976710655 ∨ x.a19 > 16777215 ∨ x.a20 > 16777215 ∨ x.a17 < 0 ∨ x.a17 > 32
      · rw [ck_2 h1 h2 h3] at h; cases h
      · rw [ck_c h1 h2 h3] at h
        refine ⟨by omega, h2, by omega, ?_⟩
        split at h
        · cases h
        · rename_i g; exact Decidable.not_not.1 g
  · rintro ⟨h1, h2, h3, h4⟩
    rw [ck_c (by omega) h2 (by omega), if_neg (fun g => g h4)]
/-- The value of a route. -/
def nlV (x : S60) : List Int :=
  if x.a0 = 1 then be x.a1.toNat 8 ++ (esL x ++ (be x.a12.toNat 4 ++ be x.a19.toNat 3))
  else if x.a0 = 2 then be x.a1.toNat 8 ++ (esL x ++ (be x.a12.toNat 4 ++ (be 48 1 ++ (be x.a13.toNat 6 ++ ((if x.a15 then be 32 1 ++ be x.a14.toNat 4 else be 0 1) ++ (be x.a19.toNat 3 ++ (if x.a20 ≠ 0 then be x.a20.toNat 3 else [])))))))
  else if x.a0 = 3 then be x.a1.toNat 8 ++ (be x.a12.toNat 4 ++ (be 32 1 ++ be x.a14.toNat 4))
  else if x.a0 = 4 then be x.a1.toNat 8 ++ (esL x ++ (be 32 1 ++ be x.a14.toNat 4))
  else be x.a1.toNat 8 ++ (esL x ++ (be x.a12.toNat 4 ++ (be x.a17.toNat 1 ++ (be x.a16.toNat 4 ++ (be x.a18.toNat 4 ++ be x.a19.toNat 3)))))
def nlB (x : S60) : List Int := x.a0 :: ((nlV x).length : Int) :: nlV x
theorem esL_len (x : S60) : (esL x).length = 10 := rfl
theorem nlV_len (x : S60) : (nlV x).length ≤ 40 := by
  unfold nlV
  split
  · (try simp only [List.length_append]); (try simp only [be_len]); (try simp only [esL_len]); omega
  split
  · (try simp only [List.length_append]); (try simp only [be_len]); (try simp only [esL_len])
    split <;> split <;> simp [be_len]
  split
  · (try simp only [List.length_append]); (try simp only [be_len]); (try simp only [esL_len]); omega
  split
  · (try simp only [List.length_append]); (try simp only [be_len]); (try simp only [esL_len]); omega
  · (try simp only [List.length_append]); (try simp only [be_len]); (try simp only [esL_len]); omega
theorem wf60_z {x : S60} (h : x.wf) : ∀ y ∈ esL x, isY y := by
  unfold S60.wf at h
  intro y hy
  unfold esL at hy
  unfold isY
  simp only [List.mem_cons, List.not_mem_nil, or_false] at hy
  rcases hy with rfl | rfl | rfl | rfl | rfl | rfl | rfl | rfl | rfl | rfl <;> omega
end Go.Proofs.YtphadapcafibpaaGreat.Abs

/- Contracts: routes are checked and encoded by the program. -/
namespace Go.Proofs.YtphadapcafibpaaGreat.Abs
open Go
set_option linter.unusedVariables false
theorem ck_ip {x : S60} (h : 1 ≤ x.a0 ∧ x.a0 ≤ 5) (h2 : ¬ okIP x) : nlForm x = false := by
  cases e : nlForm x with
  | false => rfl
  | true => exact absurd ((form_iff h).1 e).2 h2
theorem ck_for {x : S60} (h : 1 ≤ x.a0 ∧ x.a0 ≤ 5) (h2 : nlFor x = false) : nlForm x = false := by
  cases e : nlForm x with
  | false => rfl
  | true => rw [((form_iff h).1 e).1] at h2; cases h2
section
variable {B0 : Nat} {old : Nat → Option (List Value)} {n : Nat} {H Hs : Hp} {Q : Value → Hp → Prop}
set_option maxRecDepth 10000
set_option maxHeartbeats 8000000
theorem valid110_ct (a b : Int) (hQ : Q (.bool (decide (0 ≤ b ∧ b ≤ 32))) H) : CallT (cx B0 old) (acall (cx B0 old) ansP (n + 1)) 110 [.agg ⟨[.int .u32 a, .int .i64 b]⟩] H Q := by
  refine call_in1 11 rfl Tryz.func110 rfl rfl ?_
  repeat (first | refine Z0 ?_ | (refine ZR ?_; first | refine x1 ?_ | refine x2 ?_ | refine x8 ?_ | refine Z1 ?_ | refine Z2 ?_ | refine x3 fun _ => ?_ | refine x4 fun _ => ?_ | refine x5 fun _ => ?_ | refine Z3 fun _ => ?_ | refine Z4 fun _ => ?_) | refine ZC ?_)
  refine isRun ?_
  refine z1 (fun h1 => ?_) (fun h1 => ?_)
  · repeat (first | refine Z0 ?_ | (refine ZR ?_; first | refine x1 ?_ | refine x2 ?_ | refine x8 ?_ | refine Z1 ?_ | refine Z2 ?_ | refine x3 fun _ => ?_ | refine x4 fun _ => ?_ | refine x5 fun _ => ?_ | refine Z3 fun _ => ?_ | refine Z4 fun _ => ?_) | refine ZC ?_)
    exact re_1 (H' := H) rfl rfl (by exact drop_auto) (by rw [show decide (b ≤ 32) = decide (0 ≤ b ∧ b ≤ 32) from decide_eq_decide.2 ⟨fun h => ⟨h1, h⟩, fun h => h.2⟩]; exact hQ)
  · repeat (first | refine Z0 ?_ | (refine ZR ?_; first | refine x1 ?_ | refine x2 ?_ | refine x8 ?_ | refine Z1 ?_ | refine Z2 ?_ | refine x3 fun _ => ?_ | refine x4 fun _ => ?_ | refine x5 fun _ => ?_ | refine Z3 fun _ => ?_ | refine Z4 fun _ => ?_) | refine ZC ?_)
    exact re_1 (H' := H) rfl rfl (by exact drop_auto) (by rw [decide_eq_false (fun h => h1 h.1)] at hQ; exact hQ)
theorem mask111_ct (b : Int) (hb : 0 ≤ b ∧ b ≤ 32) (hQ : Q (.int .u32 (mskI b)) H) : CallT (cx B0 old) (acall (cx B0 old) ansP (n + 1)) 111 [.int .i64 b] H Q := by
  refine call_in1 6 rfl Tryz.func111 rfl rfl ?_
  repeat (first | refine Z0 ?_ | (refine ZR ?_; first | refine x1 ?_ | refine x2 ?_ | refine x8 ?_ | refine Z1 ?_ | refine Z2 ?_ | refine x3 fun _ => ?_ | refine x4 fun _ => ?_ | refine x5 fun _ => ?_ | refine Z3 fun _ => ?_ | refine Z4 fun _ => ?_) | refine ZC ?_)
  apply rt_p rfl rfl rfl
  case hp => exact p_shl rfl rfl (by omega)
  repeat (first | refine Z0 ?_ | (refine ZR ?_; first | refine x1 ?_ | refine x2 ?_ | refine x8 ?_ | refine Z1 ?_ | refine Z2 ?_ | refine x3 fun _ => ?_ | refine x4 fun _ => ?_ | refine x5 fun _ => ?_ | refine Z3 fun _ => ?_ | refine Z4 fun _ => ?_) | refine ZC ?_)
  exact re_1 (H' := H) rfl rfl (by exact drop_auto) hQ
theorem clean85_ct (a b : Int) (h1 : ¬ (0 ≤ b ∧ b ≤ 32) → Q (.tuple #[.agg ⟨[.int .u32 0, .int .i64 0]⟩, .int .i64 2]) H) (h2 : 0 ≤ b ∧ b ≤ 32 → Q (.tuple #[.agg ⟨[.int .u32 (clI a b), .int .i64 b]⟩, .int .i64 0]) H) :
    CallT (cx B0 old) (acall (cx B0 old) ansP (n + 2)) 85 [.agg ⟨[.int .u32 a, .int .i64 b]⟩] H Q := by
  unfold clI at h2
  refine call_in1 16 rfl Tryz.func85 rfl rfl ?_
  repeat (first | refine Z0 ?_ | (refine ZR ?_; first | refine x1 ?_ | refine x2 ?_ | refine x8 ?_ | refine Z1 ?_ | refine Z2 ?_ | refine x3 fun _ => ?_ | refine x4 fun _ => ?_ | refine x5 fun _ => ?_ | refine Z3 fun _ => ?_ | refine Z4 fun _ => ?_) | refine ZC ?_)
  refine rt_step rfl rfl rfl (st_call rfl rfl rfl rfl (valid110_ct a b ?_))
  repeat (first | refine Z0 ?_ | (refine ZR ?_; first | refine x1 ?_ | refine x2 ?_ | refine x8 ?_ | refine Z1 ?_ | refine Z2 ?_ | refine x3 fun _ => ?_ | refine x4 fun _ => ?_ | refine x5 fun _ => ?_ | refine Z3 fun _ => ?_ | refine Z4 fun _ => ?_) | refine ZC ?_)
  refine ct_condT (te_n te_d) rfl (fun hc => ?_) (fun hc => ?_)
  · repeat (first | refine Z0 ?_ | (refine ZR ?_; first | refine x1 ?_ | refine x2 ?_ | refine x8 ?_ | refine Z1 ?_ | refine Z2 ?_ | refine x3 fun _ => ?_ | refine x4 fun _ => ?_ | refine x5 fun _ => ?_ | refine Z3 fun _ => ?_ | refine Z4 fun _ => ?_) | refine ZC ?_)
    exact re_c2 (H' := H) rfl rfl (.own _ _ hm0) rfl (sz rfl) rfl rfl (by exact drop_auto) (h1 hc)
  · repeat (first | refine Z0 ?_ | (refine ZR ?_; first | refine x1 ?_ | refine x2 ?_ | refine x8 ?_ | refine Z1 ?_ | refine Z2 ?_ | refine x3 fun _ => ?_ | refine x4 fun _ => ?_ | refine x5 fun _ => ?_ | refine Z3 fun _ => ?_ | refine Z4 fun _ => ?_) | refine ZC ?_)
    refine ct_draw (masks := [0, 1, 0, 4, 12, 31, 63, 127]) (plan := [0, 1, 2, 3, 4, 5, 6, 7]) (E := []) (by kernel_rfl) (by kernel_rfl) (by kernel_rfl) (by kernel_rfl) ?_
    repeat (first | refine Y0 ?_ | (refine YP ?_; first | refine y1 ?_ | refine y2 ?_ | refine Y1 ?_ | refine Y2 ?_))
    refine pl_S rfl rfl rfl rfl rfl rfl (st_call rfl rfl rfl rfl (mask111_ct b hc ⟨by exact rec_auto, ?_⟩))
    repeat (first | refine Y0 ?_ | (refine YP ?_; first | refine y1 ?_ | refine y2 ?_ | refine Y1 ?_ | refine Y2 ?_))
    refine y3 ?_
    repeat (first | refine Y0 ?_ | (refine YP ?_; first | refine y1 ?_ | refine y2 ?_ | refine Y1 ?_ | refine Y2 ?_))
    repeat (first | refine Z0 ?_ | (refine ZR ?_; first | refine x1 ?_ | refine x2 ?_ | refine x8 ?_ | refine Z1 ?_ | refine Z2 ?_ | refine x3 fun _ => ?_ | refine x4 fun _ => ?_ | refine x5 fun _ => ?_ | refine Z3 fun _ => ?_ | refine Z4 fun _ => ?_) | refine ZC ?_)
    exact re_c2 (H' := H) rfl rfl (.own _ _ hm0) rfl (sz rfl) rfl rfl (by exact drop_auto) (h2 hc)
theorem foreign84_ct (x : S60) (hQ : Q (.bool (!nlFor x)) H) : CallT (cx B0 old) (acall (cx B0 old) ansP (n + 1)) 84 [.agg ⟨en60 x⟩] H Q := by
  unfold nlFor zapS at hQ
  refine call_in1 44 rfl Tryz.func84 rfl rfl ?_
  unfold en60 at hQ ⊢
  unfold zS at hQ
  dsimp only at hQ
  repeat' (first | refine Z0 ?_ | (refine ZR ?_; first | refine x1 ?_ | refine x2 ?_ | refine x8 ?_ | refine Z1 ?_ | refine Z2 ?_ | refine x3 fun _ => ?_ | refine x4 fun _ => ?_ | refine x5 fun _ => ?_ | refine Z3 fun _ => ?_ | refine Z4 fun _ => ?_) | refine Za ?_ | refine Zb ?_ | refine Zl ?_ | refine Zc ?_ | refine Ze ?_ | refine Zi ?_ | refine Zj ?_ | refine Zf ?_ | refine Zg ?_ | refine Zm ?_ | refine Zn ?_ | refine Zo ?_ | refine Zp ?_ | refine Zq ?_ | refine Zr ?_ | refine Zk ?_ | refine Y0 ?_ | (refine YP ?_; first | refine y1 ?_ | refine y2 ?_ | refine Y1 ?_ | refine Y2 ?_) | (refine isPlan ?_; refine y3 ?_) | (first | (refine isRun ?_; refine z1 (fun hc => ?_) (fun hc => ?_)) | refine z2 (fun hc => ?_) (fun hc => ?_) | (refine isPlan ?_; refine z3 (fun hc => ?_) (fun hc => ?_))))
  all_goals refine re_1 (H' := H) rfl rfl (by exact drop_auto) ?_
  · rw [if_pos (by omega)] at hQ; exact hQ
  · rw [if_neg (by omega), if_pos (by omega)] at hQ; exact hQ
  · rw [if_neg (by omega), if_neg (by omega), if_pos (by omega)] at hQ; exact hQ
  · rw [if_neg (by omega), if_neg (by omega), if_neg (by omega), if_pos (by omega)] at hQ; exact hQ
  · rw [if_neg (by omega), if_neg (by omega), if_neg (by omega), if_neg (by omega), if_pos (by omega)] at hQ; exact hQ
  · rw [if_neg (by omega), if_neg (by omega), if_neg (by omega), if_neg (by omega), if_neg (by omega)] at hQ; exact hQ
theorem check54_ct (x : S60) (hQ : Q (.int .i64 (nlCk x)) H) : CallT (cx B0 old) (acall (cx B0 old) ansP (n + 3)) 54 [.agg ⟨en60 x⟩] H Q := by
  have hf : ∀ {H1 : Hp} {Θ : Value → Hp → Prop}, Θ (.bool (!nlFor x)) H1 → CallT (cx B0 old) (acall (cx B0 old) ansP (n + 2)) 84 [.agg ⟨en60 x⟩] H1 Θ := fun h => foreign84_ct x h
  have e6 := ck_6 (x := x)
  have e3 := ck_3 (x := x)
  have e2 := ck_2 (x := x)
  have ec := ck_c (x := x)
  have hform := form_iff (x := x)
  have hcip := ck_ip (x := x)
  have hcf := ck_for (x := x)
  unfold okIP at hform hcip
  generalize nlCk x = r at *
  generalize nlForm x = fm at *
  generalize nlFor x = fr at *
  refine call_in1 63 rfl Tryz.func54 rfl rfl ?_
  unfold en60 at hf ⊢
  repeat' (first | refine Z0 ?_ | (refine ZR ?_; first | refine x1 ?_ | refine x2 ?_ | refine x8 ?_ | refine Z1 ?_ | refine Z2 ?_ | refine x3 fun _ => ?_ | refine x4 fun _ => ?_ | refine x5 fun _ => ?_ | refine Z3 fun _ => ?_ | refine Z4 fun _ => ?_) | refine Za ?_ | refine Zb ?_ | refine Zl ?_ | refine Zc ?_ | refine Ze ?_ | refine Zi ?_ | refine Zj ?_ | refine Zf ?_ | refine Zg ?_ | refine Zm ?_ | refine Zn ?_ | refine Zo ?_ | refine Zp ?_ | refine Zq ?_ | refine Zr ?_ | refine Zk ?_ | refine Y0 ?_ | (refine YP ?_; first | refine y1 ?_ | refine y2 ?_ | refine Y1 ?_ | refine Y2 ?_) | (refine isPlan ?_; refine y3 ?_) | (first | (refine isRun ?_; refine z1 (fun hc => ?_) (fun hc => ?_)) | refine z2 (fun hc => ?_) (fun hc => ?_) | (refine isPlan ?_; refine z3 (fun hc => ?_) (fun hc => ?_))))
  · exact re_1 (H' := H) rfl rfl (by exact drop_auto) (by rw [e6 (by omega)] at hQ; exact hQ)
  · exact re_1 (H' := H) rfl rfl (by exact drop_auto) (by rw [e6 (by omega)] at hQ; exact hQ)
  rename_i k1 k2
  have hk : 1 ≤ x.a0 ∧ x.a0 ≤ 5 := by omega
  have hk' : ¬ (x.a0 < 1 ∨ x.a0 > 5) := by omega
  refine rt_step rfl rfl rfl (st_call rfl rfl rfl rfl (hf ?_))
  repeat (first | refine Z0 ?_ | (refine ZR ?_; first | refine x1 ?_ | refine x2 ?_ | refine x8 ?_ | refine Z1 ?_ | refine Z2 ?_ | refine x3 fun _ => ?_ | refine x4 fun _ => ?_ | refine x5 fun _ => ?_ | refine Z3 fun _ => ?_ | refine Z4 fun _ => ?_) | refine ZC ?_)
  refine ct_condT (te_n te_b) rfl (fun hd => ?_) (fun hd => ?_)
  · repeat (first | refine Z0 ?_ | (refine ZR ?_; first | refine x1 ?_ | refine x2 ?_ | refine x8 ?_ | refine Z1 ?_ | refine Z2 ?_ | refine x3 fun _ => ?_ | refine x4 fun _ => ?_ | refine x5 fun _ => ?_ | refine Z3 fun _ => ?_ | refine Z4 fun _ => ?_) | refine ZC ?_)
    exact re_1 (H' := H) rfl rfl (by exact drop_auto) (by rw [e3 hk' (hcf hk hd)] at hQ; exact hQ)
  repeat' (first | refine Z0 ?_ | (refine ZR ?_; first | refine x1 ?_ | refine x2 ?_ | refine x8 ?_ | refine Z1 ?_ | refine Z2 ?_ | refine x3 fun _ => ?_ | refine x4 fun _ => ?_ | refine x5 fun _ => ?_ | refine Z3 fun _ => ?_ | refine Z4 fun _ => ?_) | refine Za ?_ | refine Zb ?_ | refine Zl ?_ | refine Zc ?_ | refine Ze ?_ | refine Zi ?_ | refine Zj ?_ | refine Zf ?_ | refine Zg ?_ | refine Zm ?_ | refine Zn ?_ | refine Zo ?_ | refine Zp ?_ | refine Zq ?_ | refine Zr ?_ | refine Zk ?_ | refine Y0 ?_ | (refine YP ?_; first | refine y1 ?_ | refine y2 ?_ | refine Y1 ?_ | refine Y2 ?_) | (refine isPlan ?_; refine y3 ?_) | (first | (refine isRun ?_; refine z1 (fun hc => ?_) (fun hc => ?_)) | refine z2 (fun hc => ?_) (fun hc => ?_) | (refine isPlan ?_; refine z3 (fun hc => ?_) (fun hc => ?_))))
  all_goals first
    | exact re_1 (H' := H) rfl rfl (by exact drop_auto) (by rw [e3 hk' (hcip hk (by simp [*]))] at hQ; exact hQ)
    | exact re_1 (H' := H) rfl rfl (by exact drop_auto) (by rw [e2 hk' ((hform hk).2 ⟨hd, by simp [*]⟩) (by omega)] at hQ; exact hQ)
    | skip
  all_goals
    have hfm := (hform hk).2 ⟨hd, by simp [*]⟩
    have hlf : leafsEq [.int .u32 (clI x.a16 x.a17), .int .i64 x.a17] [.int .u32 x.a16, .int .i64 x.a17] = (clI x.a16 x.a17 == x.a16) := by simp [leafsEq, leafN]
    refine rt_step rfl rfl rfl (st_call rfl rfl rfl rfl (clean85_ct x.a16 x.a17 (fun hn => ?_) (fun hy => ?_)))
    · repeat (first | refine Z0 ?_ | (refine ZR ?_; first | refine x1 ?_ | refine x2 ?_ | refine x8 ?_ | refine Z1 ?_ | refine Z2 ?_ | refine x3 fun _ => ?_ | refine x4 fun _ => ?_ | refine x5 fun _ => ?_ | refine Z3 fun _ => ?_ | refine Z4 fun _ => ?_) | refine ZC ?_)
      exact re_1 (H' := H) rfl rfl (by exact drop_auto) (by rw [e2 hk' hfm (by omega)] at hQ; exact hQ)
    · rw [ec hk' hfm (by omega)] at hQ
      repeat (first | refine Z0 ?_ | (refine ZR ?_; first | refine x1 ?_ | refine x2 ?_ | refine x8 ?_ | refine Z1 ?_ | refine Z2 ?_ | refine x3 fun _ => ?_ | refine x4 fun _ => ?_ | refine x5 fun _ => ?_ | refine Z3 fun _ => ?_ | refine Z4 fun _ => ?_) | refine ZC ?_)
      refine ct_condT (te_n te_b) rfl (fun hz => ?_) (fun hz => ?_)
      · have hz' := hlf.symm.trans hz
        rw [if_pos (beq_eq_false_iff_ne.1 hz')] at hQ
        repeat (first | refine Z0 ?_ | (refine ZR ?_; first | refine x1 ?_ | refine x2 ?_ | refine x8 ?_ | refine Z1 ?_ | refine Z2 ?_ | refine x3 fun _ => ?_ | refine x4 fun _ => ?_ | refine x5 fun _ => ?_ | refine Z3 fun _ => ?_ | refine Z4 fun _ => ?_) | refine ZC ?_)
        exact re_1 (H' := H) rfl rfl (by exact drop_auto) hQ
      · have hz' := hlf.symm.trans hz
        rw [if_neg (fun g => g (beq_iff_eq.1 hz'))] at hQ
        repeat (first | refine Z0 ?_ | (refine ZR ?_; first | refine x1 ?_ | refine x2 ?_ | refine x8 ?_ | refine Z1 ?_ | refine Z2 ?_ | refine x3 fun _ => ?_ | refine x4 fun _ => ?_ | refine x5 fun _ => ?_ | refine Z3 fun _ => ?_ | refine Z4 fun _ => ?_) | refine ZC ?_)
        exact re_1 (H' := H) rfl rfl (by exact drop_auto) hQ
end
end Go.Proofs.YtphadapcafibpaaGreat.Abs

