/- Ten bytes (of rP/Nb0). -/
import Derived.Test.YthcohphflhkceaaBy
import Derived.Test.YthcohphflhkceaaYa
import Derived.Test.YthcohphflhkceaaSep16
import Derived.Test.YthcohphflhkceaaSep15
namespace Go.Proofs.Ythcohphflhkceaa.Abs
open Go
set_option linter.unusedVariables false
abbrev vY (x : Int) : Value := .int .u8 x
theorem map_at {E : List Int} {i : Nat} {x : Int} (hx : E[i]? = some x) : (E.map vY)[i]? = some (vY x) := by rw [List.getElem?_map, hx]; rfl
theorem ten {E : List Int} (h : E.length = 10) : ∃ a b c d e f g i j k, E = [a, b, c, d, e, f, g, i, j, k] := by
  match E, h with
  | [a, b, c, d, e, f, g, i, j, k], _ => exact ⟨a, b, c, d, e, f, g, i, j, k, rfl⟩
end Go.Proofs.Ythcohphflhkceaa.Abs

/- Contracts: comparisons of numbers; keys of routes. -/
namespace Go.Proofs.Ythcohphflhkceaa.Abs
open Go
set_option linter.unusedVariables false
section
variable {B0 : Nat} {old : Nat → Option (List Value)} {n : Nat} {H : Hp} {Q : Value → Hp → Prop} {L : List Int} {ad : Option Addr} {c : Nat}
set_option maxRecDepth 10000
set_option maxHeartbeats 4000000
theorem nan72_ct (a : Int) (hQ : Q (.bool false) H) : CallT (cx B0 old) (acall (cx B0 old) ansP (n + 1)) 72 [.int .i64 a] H Q := by
  refine call_in1 6 rfl Try.func72 rfl rfl ?_
  repeat (refine ZX ?_; try with_reducible intro _)
  exact re_1 rfl rfl (by exact drop_auto) (by rw [bne_self_eq_false]; exact hQ)
theorem cmp57_ct (a b : Int) (hQ : Q (.int .i64 (sgn a b)) H) : CallT (cx B0 old) (acall (cx B0 old) ansP (n + 2)) 57 [.int .i64 a, .int .i64 b] H Q := by
  unfold sgn at hQ
  refine call_in2 20 rfl Try.func57 rfl rfl ?_
  repeat (refine ZX ?_; try with_reducible intro _)
  refine rt_step rfl rfl rfl (st_call rfl rfl rfl rfl (nan72_ct a ?_))
  repeat (refine ZX ?_; try with_reducible intro _)
  refine rt_step rfl rfl rfl (st_call rfl rfl rfl rfl (nan72_ct b ?_))
  repeat' (first | refine Z0 ?_ | (refine ZR ?_; first | refine x1 ?_ | refine x2 ?_ | refine x8 ?_ | refine Z1 ?_ | refine Z2 ?_ | refine x3 fun _ => ?_ | refine x4 fun _ => ?_ | refine x5 fun _ => ?_ | refine Z3 fun _ => ?_ | refine Z4 fun _ => ?_) | refine Za ?_ | refine Zb ?_ | refine Zl ?_ | refine Zc ?_ | refine Ze ?_ | refine Zi ?_ | refine Zj ?_ | refine Zf ?_ | refine Zg ?_ | refine Zm ?_ | refine Zn ?_ | refine Zo ?_ | refine Zp ?_ | refine Zq ?_ | refine Zr ?_ | refine Zk ?_ | refine Y0 ?_ | (refine YP ?_; first | refine y1 ?_ | refine y2 ?_ | refine Y1 ?_ | refine Y2 ?_) | (refine isPlan ?_; refine y3 ?_) | (first | (refine isRun ?_; refine z1 (fun hc => ?_) (fun hc => ?_)) | refine z2 (fun hc => ?_) (fun hc => ?_) | (refine isPlan ?_; refine z3 (fun hc => ?_) (fun hc => ?_))))
  all_goals first | exact re_1 rfl rfl (by exact drop_auto) (by rwa [if_pos (by omega)] at hQ) | exact re_1 rfl rfl (by exact drop_auto) (by rwa [if_neg (by omega), if_pos (by omega)] at hQ) | exact re_1 rfl rfl (by exact drop_auto) (by rwa [if_neg (by omega), if_neg (by omega)] at hQ)
theorem nan73_ct (a : Int) (hQ : Q (.bool false) H) : CallT (cx B0 old) (acall (cx B0 old) ansP (n + 1)) 73 [.int .u64 a] H Q := by
  refine call_in1 6 rfl Try.func73 rfl rfl ?_
  repeat (refine ZX ?_; try with_reducible intro _)
  exact re_1 rfl rfl (by exact drop_auto) (by rw [bne_self_eq_false]; exact hQ)
theorem cmp58_ct (a b : Int) (hQ : Q (.int .i64 (sgn a b)) H) : CallT (cx B0 old) (acall (cx B0 old) ansP (n + 2)) 58 [.int .u64 a, .int .u64 b] H Q := by
  unfold sgn at hQ
  refine call_in2 20 rfl Try.func58 rfl rfl ?_
  repeat (refine ZX ?_; try with_reducible intro _)
  refine rt_step rfl rfl rfl (st_call rfl rfl rfl rfl (nan73_ct a ?_))
  repeat (refine ZX ?_; try with_reducible intro _)
  refine rt_step rfl rfl rfl (st_call rfl rfl rfl rfl (nan73_ct b ?_))
  repeat' (first | refine Z0 ?_ | (refine ZR ?_; first | refine x1 ?_ | refine x2 ?_ | refine x8 ?_ | refine Z1 ?_ | refine Z2 ?_ | refine x3 fun _ => ?_ | refine x4 fun _ => ?_ | refine x5 fun _ => ?_ | refine Z3 fun _ => ?_ | refine Z4 fun _ => ?_) | refine Za ?_ | refine Zb ?_ | refine Zl ?_ | refine Zc ?_ | refine Ze ?_ | refine Zi ?_ | refine Zj ?_ | refine Zf ?_ | refine Zg ?_ | refine Zm ?_ | refine Zn ?_ | refine Zo ?_ | refine Zp ?_ | refine Zq ?_ | refine Zr ?_ | refine Zk ?_ | refine Y0 ?_ | (refine YP ?_; first | refine y1 ?_ | refine y2 ?_ | refine Y1 ?_ | refine Y2 ?_) | (refine isPlan ?_; refine y3 ?_) | (first | (refine isRun ?_; refine z1 (fun hc => ?_) (fun hc => ?_)) | refine z2 (fun hc => ?_) (fun hc => ?_) | (refine isPlan ?_; refine z3 (fun hc => ?_) (fun hc => ?_))))
  all_goals first | exact re_1 rfl rfl (by exact drop_auto) (by rwa [if_pos (by omega)] at hQ) | exact re_1 rfl rfl (by exact drop_auto) (by rwa [if_neg (by omega), if_pos (by omega)] at hQ) | exact re_1 rfl rfl (by exact drop_auto) (by rwa [if_neg (by omega), if_neg (by omega)] at hQ)
theorem nan76_ct (a : Int) (hQ : Q (.bool false) H) : CallT (cx B0 old) (acall (cx B0 old) ansP (n + 1)) 76 [.int .u32 a] H Q := by
  refine call_in1 6 rfl Try.func76 rfl rfl ?_
  repeat (refine ZX ?_; try with_reducible intro _)
  exact re_1 rfl rfl (by exact drop_auto) (by rw [bne_self_eq_false]; exact hQ)
theorem cmp60_ct (a b : Int) (hQ : Q (.int .i64 (sgn a b)) H) : CallT (cx B0 old) (acall (cx B0 old) ansP (n + 2)) 60 [.int .u32 a, .int .u32 b] H Q := by
  unfold sgn at hQ
  refine call_in2 20 rfl Try.func60 rfl rfl ?_
  repeat (refine ZX ?_; try with_reducible intro _)
  refine rt_step rfl rfl rfl (st_call rfl rfl rfl rfl (nan76_ct a ?_))
  repeat (refine ZX ?_; try with_reducible intro _)
  refine rt_step rfl rfl rfl (st_call rfl rfl rfl rfl (nan76_ct b ?_))
  repeat' (first | refine Z0 ?_ | (refine ZR ?_; first | refine x1 ?_ | refine x2 ?_ | refine x8 ?_ | refine Z1 ?_ | refine Z2 ?_ | refine x3 fun _ => ?_ | refine x4 fun _ => ?_ | refine x5 fun _ => ?_ | refine Z3 fun _ => ?_ | refine Z4 fun _ => ?_) | refine Za ?_ | refine Zb ?_ | refine Zl ?_ | refine Zc ?_ | refine Ze ?_ | refine Zi ?_ | refine Zj ?_ | refine Zf ?_ | refine Zg ?_ | refine Zm ?_ | refine Zn ?_ | refine Zo ?_ | refine Zp ?_ | refine Zq ?_ | refine Zr ?_ | refine Zk ?_ | refine Y0 ?_ | (refine YP ?_; first | refine y1 ?_ | refine y2 ?_ | refine Y1 ?_ | refine Y2 ?_) | (refine isPlan ?_; refine y3 ?_) | (first | (refine isRun ?_; refine z1 (fun hc => ?_) (fun hc => ?_)) | refine z2 (fun hc => ?_) (fun hc => ?_) | (refine isPlan ?_; refine z3 (fun hc => ?_) (fun hc => ?_))))
  all_goals first | exact re_1 rfl rfl (by exact drop_auto) (by rwa [if_pos (by omega)] at hQ) | exact re_1 rfl rfl (by exact drop_auto) (by rwa [if_neg (by omega), if_pos (by omega)] at hQ) | exact re_1 rfl rfl (by exact drop_auto) (by rwa [if_neg (by omega), if_neg (by omega)] at hQ)
theorem nan77_ct (a : Int) (hQ : Q (.bool false) H) : CallT (cx B0 old) (acall (cx B0 old) ansP (n + 1)) 77 [.int .u64 a] H Q := by
  refine call_in1 6 rfl Try.func77 rfl rfl ?_
  repeat (refine ZX ?_; try with_reducible intro _)
  exact re_1 rfl rfl (by exact drop_auto) (by rw [bne_self_eq_false]; exact hQ)
theorem cmp61_ct (a b : Int) (hQ : Q (.int .i64 (sgn a b)) H) : CallT (cx B0 old) (acall (cx B0 old) ansP (n + 2)) 61 [.int .u64 a, .int .u64 b] H Q := by
  unfold sgn at hQ
  refine call_in2 20 rfl Try.func61 rfl rfl ?_
  repeat (refine ZX ?_; try with_reducible intro _)
  refine rt_step rfl rfl rfl (st_call rfl rfl rfl rfl (nan77_ct a ?_))
  repeat (refine ZX ?_; try with_reducible intro _)
  refine rt_step rfl rfl rfl (st_call rfl rfl rfl rfl (nan77_ct b ?_))
  repeat' (first | refine Z0 ?_ | (refine ZR ?_; first | refine x1 ?_ | refine x2 ?_ | refine x8 ?_ | refine Z1 ?_ | refine Z2 ?_ | refine x3 fun _ => ?_ | refine x4 fun _ => ?_ | refine x5 fun _ => ?_ | refine Z3 fun _ => ?_ | refine Z4 fun _ => ?_) | refine Za ?_ | refine Zb ?_ | refine Zl ?_ | refine Zc ?_ | refine Ze ?_ | refine Zi ?_ | refine Zj ?_ | refine Zf ?_ | refine Zg ?_ | refine Zm ?_ | refine Zn ?_ | refine Zo ?_ | refine Zp ?_ | refine Zq ?_ | refine Zr ?_ | refine Zk ?_ | refine Y0 ?_ | (refine YP ?_; first | refine y1 ?_ | refine y2 ?_ | refine Y1 ?_ | refine Y2 ?_) | (refine isPlan ?_; refine y3 ?_) | (first | (refine isRun ?_; refine z1 (fun hc => ?_) (fun hc => ?_)) | refine z2 (fun hc => ?_) (fun hc => ?_) | (refine isPlan ?_; refine z3 (fun hc => ?_) (fun hc => ?_))))
  all_goals first | exact re_1 rfl rfl (by exact drop_auto) (by rwa [if_pos (by omega)] at hQ) | exact re_1 rfl rfl (by exact drop_auto) (by rwa [if_neg (by omega), if_pos (by omega)] at hQ) | exact re_1 rfl rfl (by exact drop_auto) (by rwa [if_neg (by omega), if_neg (by omega)] at hQ)
theorem nan78_ct (a : Int) (hQ : Q (.bool false) H) : CallT (cx B0 old) (acall (cx B0 old) ansP (n + 1)) 78 [.int .u32 a] H Q := by
  refine call_in1 6 rfl Try.func78 rfl rfl ?_
  repeat (refine ZX ?_; try with_reducible intro _)
  exact re_1 rfl rfl (by exact drop_auto) (by rw [bne_self_eq_false]; exact hQ)
theorem cmp63_ct (a b : Int) (hQ : Q (.int .i64 (sgn a b)) H) : CallT (cx B0 old) (acall (cx B0 old) ansP (n + 2)) 63 [.int .u32 a, .int .u32 b] H Q := by
  unfold sgn at hQ
  refine call_in2 20 rfl Try.func63 rfl rfl ?_
  repeat (refine ZX ?_; try with_reducible intro _)
  refine rt_step rfl rfl rfl (st_call rfl rfl rfl rfl (nan78_ct a ?_))
  repeat (refine ZX ?_; try with_reducible intro _)
  refine rt_step rfl rfl rfl (st_call rfl rfl rfl rfl (nan78_ct b ?_))
  repeat' (first | refine Z0 ?_ | (refine ZR ?_; first | refine x1 ?_ | refine x2 ?_ | refine x8 ?_ | refine Z1 ?_ | refine Z2 ?_ | refine x3 fun _ => ?_ | refine x4 fun _ => ?_ | refine x5 fun _ => ?_ | refine Z3 fun _ => ?_ | refine Z4 fun _ => ?_) | refine Za ?_ | refine Zb ?_ | refine Zl ?_ | refine Zc ?_ | refine Ze ?_ | refine Zi ?_ | refine Zj ?_ | refine Zf ?_ | refine Zg ?_ | refine Zm ?_ | refine Zn ?_ | refine Zo ?_ | refine Zp ?_ | refine Zq ?_ | refine Zr ?_ | refine Zk ?_ | refine Y0 ?_ | (refine YP ?_; first | refine y1 ?_ | refine y2 ?_ | refine Y1 ?_ | refine Y2 ?_) | (refine isPlan ?_; refine y3 ?_) | (first | (refine isRun ?_; refine z1 (fun hc => ?_) (fun hc => ?_)) | refine z2 (fun hc => ?_) (fun hc => ?_) | (refine isPlan ?_; refine z3 (fun hc => ?_) (fun hc => ?_))))
  all_goals first | exact re_1 rfl rfl (by exact drop_auto) (by rwa [if_pos (by omega)] at hQ) | exact re_1 rfl rfl (by exact drop_auto) (by rwa [if_neg (by omega), if_pos (by omega)] at hQ) | exact re_1 rfl rfl (by exact drop_auto) (by rwa [if_neg (by omega), if_neg (by omega)] at hQ)
theorem nan82_ct (a : Int) (hQ : Q (.bool false) H) : CallT (cx B0 old) (acall (cx B0 old) ansP (n + 1)) 82 [.int .u8 a] H Q := by
  refine call_in1 6 rfl Try.func82 rfl rfl ?_
  repeat (refine ZX ?_; try with_reducible intro _)
  exact re_1 rfl rfl (by exact drop_auto) (by rw [bne_self_eq_false]; exact hQ)
theorem cmp75_ct (a b : Int) (hQ : Q (.int .i64 (sgn a b)) H) : CallT (cx B0 old) (acall (cx B0 old) ansP (n + 2)) 75 [.int .u8 a, .int .u8 b] H Q := by
  unfold sgn at hQ
  refine call_in2 20 rfl Try.func75 rfl rfl ?_
  repeat (refine ZX ?_; try with_reducible intro _)
  refine rt_step rfl rfl rfl (st_call rfl rfl rfl rfl (nan82_ct a ?_))
  repeat (refine ZX ?_; try with_reducible intro _)
  refine rt_step rfl rfl rfl (st_call rfl rfl rfl rfl (nan82_ct b ?_))
  repeat' (first | refine Z0 ?_ | (refine ZR ?_; first | refine x1 ?_ | refine x2 ?_ | refine x8 ?_ | refine Z1 ?_ | refine Z2 ?_ | refine x3 fun _ => ?_ | refine x4 fun _ => ?_ | refine x5 fun _ => ?_ | refine Z3 fun _ => ?_ | refine Z4 fun _ => ?_) | refine Za ?_ | refine Zb ?_ | refine Zl ?_ | refine Zc ?_ | refine Ze ?_ | refine Zi ?_ | refine Zj ?_ | refine Zf ?_ | refine Zg ?_ | refine Zm ?_ | refine Zn ?_ | refine Zo ?_ | refine Zp ?_ | refine Zq ?_ | refine Zr ?_ | refine Zk ?_ | refine Y0 ?_ | (refine YP ?_; first | refine y1 ?_ | refine y2 ?_ | refine Y1 ?_ | refine Y2 ?_) | (refine isPlan ?_; refine y3 ?_) | (first | (refine isRun ?_; refine z1 (fun hc => ?_) (fun hc => ?_)) | refine z2 (fun hc => ?_) (fun hc => ?_) | (refine isPlan ?_; refine z3 (fun hc => ?_) (fun hc => ?_))))
  all_goals first | exact re_1 rfl rfl (by exact drop_auto) (by rwa [if_pos (by omega)] at hQ) | exact re_1 rfl rfl (by exact drop_auto) (by rwa [if_neg (by omega), if_pos (by omega)] at hQ) | exact re_1 rfl rfl (by exact drop_auto) (by rwa [if_neg (by omega), if_neg (by omega)] at hQ)
theorem cmp45_ct (a b : Int) (hQ : Q (.int .i64 (sgn a b)) H) : CallT (cx B0 old) (acall (cx B0 old) ansP (n + 1)) 45 [.int .u64 a, .int .u64 b] H Q := by
  unfold sgn at hQ
  refine call_in2 13 rfl Try.func45 rfl rfl ?_
  repeat' (first | refine Z0 ?_ | (refine ZR ?_; first | refine x1 ?_ | refine x2 ?_ | refine x8 ?_ | refine Z1 ?_ | refine Z2 ?_ | refine x3 fun _ => ?_ | refine x4 fun _ => ?_ | refine x5 fun _ => ?_ | refine Z3 fun _ => ?_ | refine Z4 fun _ => ?_) | refine Za ?_ | refine Zb ?_ | refine Zl ?_ | refine Zc ?_ | refine Ze ?_ | refine Zi ?_ | refine Zj ?_ | refine Zf ?_ | refine Zg ?_ | refine Zm ?_ | refine Zn ?_ | refine Zo ?_ | refine Zp ?_ | refine Zq ?_ | refine Zr ?_ | refine Zk ?_ | refine Y0 ?_ | (refine YP ?_; first | refine y1 ?_ | refine y2 ?_ | refine Y1 ?_ | refine Y2 ?_) | (refine isPlan ?_; refine y3 ?_) | (first | (refine isRun ?_; refine z1 (fun hc => ?_) (fun hc => ?_)) | refine z2 (fun hc => ?_) (fun hc => ?_) | (refine isPlan ?_; refine z3 (fun hc => ?_) (fun hc => ?_))))
  all_goals first | exact re_1 rfl rfl (by exact drop_auto) (by rwa [if_pos (by omega)] at hQ) | exact re_1 rfl rfl (by exact drop_auto) (by rwa [if_neg (by omega), if_pos (by omega)] at hQ) | exact re_1 rfl rfl (by exact drop_auto) (by rwa [if_neg (by omega), if_neg (by omega)] at hQ)
theorem cmp69_ct (a b : Int) (hQ : Q (.int .i64 (sgn a b)) H) : CallT (cx B0 old) (acall (cx B0 old) ansP (n + 1)) 69 [.int .i64 a, .int .i64 b] H Q := by
  unfold sgn at hQ
  refine call_in2 13 rfl Try.func69 rfl rfl ?_
  repeat' (first | refine Z0 ?_ | (refine ZR ?_; first | refine x1 ?_ | refine x2 ?_ | refine x8 ?_ | refine Z1 ?_ | refine Z2 ?_ | refine x3 fun _ => ?_ | refine x4 fun _ => ?_ | refine x5 fun _ => ?_ | refine Z3 fun _ => ?_ | refine Z4 fun _ => ?_) | refine Za ?_ | refine Zb ?_ | refine Zl ?_ | refine Zc ?_ | refine Ze ?_ | refine Zi ?_ | refine Zj ?_ | refine Zf ?_ | refine Zg ?_ | refine Zm ?_ | refine Zn ?_ | refine Zo ?_ | refine Zp ?_ | refine Zq ?_ | refine Zr ?_ | refine Zk ?_ | refine Y0 ?_ | (refine YP ?_; first | refine y1 ?_ | refine y2 ?_ | refine Y1 ?_ | refine Y2 ?_) | (refine isPlan ?_; refine y3 ?_) | (first | (refine isRun ?_; refine z1 (fun hc => ?_) (fun hc => ?_)) | refine z2 (fun hc => ?_) (fun hc => ?_) | (refine isPlan ?_; refine z3 (fun hc => ?_) (fun hc => ?_))))
  all_goals first | exact re_1 rfl rfl (by exact drop_auto) (by rwa [if_pos (by omega)] at hQ) | exact re_1 rfl rfl (by exact drop_auto) (by rwa [if_neg (by omega), if_pos (by omega)] at hQ) | exact re_1 rfl rfl (by exact drop_auto) (by rwa [if_neg (by omega), if_neg (by omega)] at hQ)
theorem order62_ct (a b : Bool) (hQ : Q (.int .i64 (sgn (b2i a) (b2i b))) H) : CallT (cx B0 old) (acall (cx B0 old) ansP (n + 1)) 62 [.bool a, .bool b] H Q := by
  refine call_in2 11 rfl Try.func62 rfl rfl ?_
  cases a <;> cases b
  all_goals
    repeat (refine ZX ?_; try with_reducible intro _)
    exact re_1 rfl rfl (by exact drop_auto) hQ
theorem number47_ct (a : Bool) (hQ : Q (.int .u64 (b2i a)) H) : CallT (cx B0 old) (acall (cx B0 old) ansP (n + 1)) 47 [.bool a] H Q := by
  refine call_in1 4 rfl Try.func47 rfl rfl ?_
  cases a
  all_goals
    repeat (refine ZX ?_; try with_reducible intro _)
    exact re_1 rfl rfl (by exact drop_auto) hQ
def encI (x : Int) : List Value := [.int .i64 x]
theorem encI_len (x : Int) : (encI x).length = 1 := rfl
theorem or56_ct (h1 : Arr (cx B0 old) H ad 1 encI L) (hl : L.length ≤ 100000) (hQ : Q (.int .i64 (orL L)) H) : CallT (cx B0 old) (acall (cx B0 old) ansP (n + 1)) 56 [.slice ad L.length c] H Q := by
  refine call_in1 18 rfl Try.func56 rfl rfl ?_
  repeat (refine ZX ?_; try with_reducible intro _)
  refine loop_ind (ι := Nat) 0 (fun i => L.length - i) (fun i => i ≤ L.length ∧ orL (L.drop i) = orL L) (fun i => [(8, .int .i64 (i : Int)), (7, .int .i64 L.length), (6, .slice ad L.length c), (3, .int .i64 0)]) (fun _ => H) ⟨Nat.zero_le _, rfl⟩ (by repeat (first | exact SubL.nil | refine SubL.cons rfl ?_)) (by exact drop_auto) ?_
  rintro i ⟨hi, ho⟩
  repeat (refine ZX ?_; try with_reducible intro _)
  refine ct_condT te_d rfl (fun hc => ?_) (fun hc => ?_)
  · have hlt : i < L.length := by omega
    obtain ⟨x, hx⟩ : ∃ x, L[i]? = some x := ⟨_, List.getElem?_eq_getElem hlt⟩
    obtain ⟨b1, o1, rfl, hL0⟩ := h1.ld1 3 hx rfl rfl (sz rfl)
    have hd : L.drop i = x :: L.drop (i + 1) := by
      rw [List.drop_eq_getElem_cons hlt]
      rw [List.getElem?_eq_getElem hlt] at hx
      rw [Option.some.inj hx]
    rw [hd, orL] at ho
    repeat (refine ZX ?_; try with_reducible intro _)
    refine ct_condT te_ne rfl (fun hd => ?_) (fun hd => ?_)
    · rw [if_neg hd] at ho
      repeat (refine ZX ?_; try with_reducible intro _)
      exact re_1 rfl rfl (by exact drop_auto) (by rw [ho]; exact hQ)
    · rw [if_pos hd] at ho
      repeat (refine ZX ?_; try with_reducible intro _)
      exact ⟨i + 1, ⟨by omega, ho⟩, by omega, by repeat (first | exact SubL.nil | refine SubL.cons rfl ?_), by exact drop_auto⟩
  · have : i = L.length := by omega
    subst this
    rw [List.drop_length] at ho
    repeat (refine ZX ?_; try with_reducible intro _)
    exact re_1 rfl rfl (by exact drop_auto) (by rw [← ho] at hQ; exact hQ)
theorem key55_ct (x : S60) (hQ : Q (.agg ⟨en60 (keyS x)⟩) H) : CallT (cx B0 old) (acall (cx B0 old) ansP (n + 1)) 55 [.agg ⟨en60 x⟩] H Q := by
  unfold keyS at hQ
  refine call_in1 15 rfl Try.func55 rfl rfl ?_
  unfold en60 at hQ ⊢
  repeat' (first | refine Z0 ?_ | (refine ZR ?_; first | refine x1 ?_ | refine x2 ?_ | refine x8 ?_ | refine Z1 ?_ | refine Z2 ?_ | refine x3 fun _ => ?_ | refine x4 fun _ => ?_ | refine x5 fun _ => ?_ | refine Z3 fun _ => ?_ | refine Z4 fun _ => ?_) | refine Za ?_ | refine Zb ?_ | refine Zl ?_ | refine Zc ?_ | refine Ze ?_ | refine Zi ?_ | refine Zj ?_ | refine Zf ?_ | refine Zg ?_ | refine Zm ?_ | refine Zn ?_ | refine Zo ?_ | refine Zp ?_ | refine Zq ?_ | refine Zr ?_ | refine Zk ?_ | refine Y0 ?_ | (refine YP ?_; first | refine y1 ?_ | refine y2 ?_ | refine Y1 ?_ | refine Y2 ?_) | (refine isPlan ?_; refine y3 ?_) | (first | (refine isRun ?_; refine z1 (fun hc => ?_) (fun hc => ?_)) | refine z2 (fun hc => ?_) (fun hc => ?_) | (refine isPlan ?_; refine z3 (fun hc => ?_) (fun hc => ?_))))
  all_goals first | exact re_c1 (H' := H) rfl rfl (.own _ _ hm0) rfl (sz rfl) rfl (by exact drop_auto) (by first | (rw [if_pos (by omega)] at hQ; exact hQ) | (rw [if_neg (by omega), if_pos (by omega)] at hQ; exact hQ) | (rw [if_neg (by omega), if_neg (by omega)] at hQ; exact hQ))
theorem key44_ct (x : S60) (hQ : Q (.agg ⟨en60 (keyS x)⟩) H) : CallT (cx B0 old) (acall (cx B0 old) ansP (n + 1)) 44 [.agg ⟨en60 x⟩] H Q := by
  unfold keyS at hQ
  refine call_in1 20 rfl Try.func44 rfl rfl ?_
  unfold en60 at hQ ⊢
  repeat' (first | refine Z0 ?_ | (refine ZR ?_; first | refine x1 ?_ | refine x2 ?_ | refine x8 ?_ | refine Z1 ?_ | refine Z2 ?_ | refine x3 fun _ => ?_ | refine x4 fun _ => ?_ | refine x5 fun _ => ?_ | refine Z3 fun _ => ?_ | refine Z4 fun _ => ?_) | refine Za ?_ | refine Zb ?_ | refine Zl ?_ | refine Zc ?_ | refine Ze ?_ | refine Zi ?_ | refine Zj ?_ | refine Zf ?_ | refine Zg ?_ | refine Zm ?_ | refine Zn ?_ | refine Zo ?_ | refine Zp ?_ | refine Zq ?_ | refine Zr ?_ | refine Zk ?_ | refine Y0 ?_ | (refine YP ?_; first | refine y1 ?_ | refine y2 ?_ | refine Y1 ?_ | refine Y2 ?_) | (refine isPlan ?_; refine y3 ?_) | (first | (refine isRun ?_; refine z1 (fun hc => ?_) (fun hc => ?_)) | refine z2 (fun hc => ?_) (fun hc => ?_) | (refine isPlan ?_; refine z3 (fun hc => ?_) (fun hc => ?_))))
  all_goals first | (exfalso; omega) | exact re_c1 (H' := H) rfl rfl (.own _ _ hm0) rfl (sz rfl) rfl (by exact drop_auto) (by first | (rw [if_pos (by omega)] at hQ; exact hQ) | (rw [if_neg (by omega), if_pos (by omega)] at hQ; exact hQ) | (rw [if_neg (by omega), if_neg (by omega)] at hQ; exact hQ))
end
end Go.Proofs.Ythcohphflhkceaa.Abs

/- Contracts: comparisons of identifiers. -/
namespace Go.Proofs.Ythcohphflhkceaa.Abs
open Go
set_option linter.unusedVariables false
theorem lx_at {E F : List Int} {i : Nat} {x y : Int} (hx : E[i]? = some x) (hy : F[i]? = some y) : lx (E.drop i) (F.drop i) = if sgn x y = 0 then lx (E.drop (i + 1)) (F.drop (i + 1)) else sgn x y := by
  obtain ⟨h1, h2⟩ := List.getElem?_eq_some_iff.1 hx
  obtain ⟨h3, h4⟩ := List.getElem?_eq_some_iff.1 hy
  rw [List.drop_eq_getElem_cons h1, List.drop_eq_getElem_cons h3, h2, h4, lx]
/-- What is left of a round that may leave the loop. -/
def RndE (Lp : Nat) (fr : Fr) (ps : List Nat) (A B : Code) (St : Hp → Prop) (SR : AX → Hp → Prop) (v : Value) (H' : Hp) : Prop :=
  (v = .bool true ∧ ∃ R, St R ∧ ((Lp, .loop 0 none fr ps A B) :: R).Sublist H') ∨ (v = .bool false ∧ ∃ e R, SR e R ∧ ((Lp, .loop 2 (some e) fr ps A B) :: R).Sublist H')
section
variable {B0 : Nat} {old : Nat → Option (List Value)} {n : Nat} {H : Hp} {Q : Value → Hp → Prop} {E F : List Int} {ad : Option Addr} {c : Nat}
set_option maxRecDepth 10000
set_option maxHeartbeats 4000000
theorem octets74_ct (hE : E.length = 10) (hk : ∀ b2, Q (.func (.func 81) #[] #[.pointer (some ⟨b2, 0, none⟩)]) ((b2, .row (E.map vY) 10 false) :: H)) :
    CallT (cx B0 old) (acall (cx B0 old) ansP (n + 1)) 74 [.agg ⟨E.map vY⟩] H Q := by
  obtain ⟨e0, e1, e2, e3, e4, e5, e6, e7, e8, e9, rfl⟩ := ten hE
  refine call_in1 4 rfl Try.func74 rfl rfl ?_
  simp only [List.map_cons, List.map_nil] at hk ⊢
  repeat (refine ZX ?_; try with_reducible intro _)
  exact re_1 rfl rfl (by exact drop_auto) (hk _)
theorem oct81_ct (b2 Lp nt : Nat) (lf : Sl) (fr : Fr) (ps : List Nat) (A B : Code) (St : Nat → Hp → Prop) (SR : AX → Hp → Prop) (R0 : Hp) (hps : ps.length = 2) (hfr : FrHas nt lf fr) (hE : E.length = 10)
    (hst : ∀ i R, St i R → (b2, AObj.row (E.map vY) 10 false) ∈ R) (h0 : St 0 R0)
    (hround : ∀ (i : Nat) R q x, E[i]? = some x → St i R → CodeT (cx B0 old) (ahand (cx B0 old) ansP n) true nt A (parL nt ps [.int .i64 (i : Int), .int .u8 x] lf) ((Lp, .loop 0 q fr ps A B) :: R) fun e l2 H2 => match e with
      | .normal => ∃ q' H3, H2.Perm ((Lp, .loop 0 q' fr ps A B) :: H3) ∧ CodeT (cx B0 old) (ahand (cx B0 old) ansP n) true nt B l2 ((Lp, .loop 1 q' fr ps A B) :: H3) fun e l3 H4 => rndΦ Lp fr ps A B (RndE Lp fr ps A B (St (i + 1)) SR) e H4
      | _ => False)
    (hQ : ∀ R v, St 10 R → Q v ((Lp, .loop 0 none fr ps A B) :: R)) (hQr : ∀ e R v, SR e R → Q v ((Lp, .loop 2 (some e) fr ps A B) :: R)) :
    CallT (cx B0 old) (acall (cx B0 old) ansP (n + 2)) 81 [.func (.yield Lp) #[] #[], .pointer (some ⟨b2, 0, none⟩)] ((Lp, .loop 0 none fr ps A B) :: R0) Q := by
  obtain ⟨e0, e1, e2, e3, e4, e5, e6, e7, e8, e9, rfl⟩ := ten hE
  refine call_in2 16 rfl Try.func81 rfl rfl ?_
  have hget : ∀ (i : Nat) x, [e0, e1, e2, e3, e4, e5, e6, e7, e8, e9][i]? = some x → [vY e0, vY e1, vY e2, vY e3, vY e4, vY e5, vY e6, vY e7, vY e8, vY e9][(i : Int).toNat * 1]? = some (vY x) := fun i x h => by
    rw [Int.toNat_natCast, Nat.mul_one]; exact map_at h
  simp only [List.map_cons, List.map_nil] at hst
  have hm := hst 0 R0 h0
  have hL0 : ∀ H', R0.Sublist H' → LdT (cx B0 old) 24 H' b2 0 (.agg ⟨[vY e0, vY e1, vY e2, vY e3, vY e4, vY e5, vY e6, vY e7, vY e8, vY e9]⟩) := fun H' hs => ldW (.own _ _ (hs.subset hm)) rfl (sz rfl) rfl
  repeat (refine ZX ?_; try with_reducible intro _)
  refine loop_ind (ι := Nat × Hp) (0, R0) (fun i => 10 - i.1) (fun i => i.1 ≤ 10 ∧ St i.1 i.2)
    (fun i => [(6, .int .i64 (i.1 : Int)), (5, .agg ⟨[vY e0, vY e1, vY e2, vY e3, vY e4, vY e5, vY e6, vY e7, vY e8, vY e9]⟩), (0, .func (.yield Lp) #[] #[]), (1, .pointer (some ⟨b2, 0, none⟩))])
    (fun i => (Lp, .loop 0 none fr ps A B) :: i.2) ⟨Nat.zero_le _, h0⟩ (by repeat (first | exact SubL.nil | refine SubL.cons rfl ?_)) (by exact drop_auto) ?_
  rintro ⟨i, R⟩ ⟨hi, hs⟩
  simp only at hi hs ⊢
  repeat (refine ZX ?_; try with_reducible intro _)
  refine ct_condT te_d rfl (fun hc => ?_) (fun hc => ?_)
  rotate_left
  · have : i = 10 := by omega
    subst this
    repeat (refine ZX ?_; try with_reducible intro _)
    exact re_0 rfl (by exact drop_auto) (fun v => hQ R v hs)
  have hlt : i < 10 := by omega
  obtain ⟨x, hx⟩ : ∃ x, [e0, e1, e2, e3, e4, e5, e6, e7, e8, e9][i]? = some x := ⟨_, List.getElem?_eq_getElem hlt⟩
  have hg := hget i x hx
  repeat (refine ZX ?_; try with_reducible intro _)
  apply rt_p rfl rfl rfl
  case hp => exact p_index rfl rfl rfl rfl (sz rfl) (by omega) (by omega) hg
  repeat (refine ZX ?_; try with_reducible intro _)
  refine rt_step rfl rfl rfl (st_yield (q := none) rfl rfl rfl (by rw [hps]; rfl) (List.Perm.refl _) hfr ((hround i R none x hx hs).mono ?_))
  intro e l2 H2 h
  cases e with
  | exit j => exact h
  | ret => exact h
  | normal =>
    obtain ⟨q', H3, hp, h⟩ := h
    refine ⟨q', H3, hp, h.mono fun e l3 H4 h => ?_⟩
    obtain ⟨st, q2, H5, hp2, h⟩ := h
    refine ⟨st, q2, H5, hp2, ?_⟩
    cases e with
    | normal =>
      rcases h with ⟨_, R', hs', hsub⟩ | ⟨hf, _⟩
      · repeat (refine ZX ?_; try with_reducible intro _)
        exact ⟨(i + 1, R'), ⟨by omega, hs'⟩, by dsimp only; omega, by repeat (first | exact SubL.nil | refine SubL.cons rfl ?_), hsub⟩
      · cases hf
    | exit j =>
      rcases h with ⟨hf, _⟩ | ⟨_, e2, R', hs', hsub⟩
      · cases hf
      · repeat (refine ZX ?_; try with_reducible intro _)
        exact re_0r rfl hsub (fun v => hQr _ R' v hs')
    | ret =>
      rcases h with ⟨hf, _⟩ | ⟨_, e2, R', hs', hsub⟩
      · cases hf
      · repeat (refine ZX ?_; try with_reducible intro _)
        exact re_0r rfl hsub (fun v => hQr _ R' v hs')
theorem esi59_ct (hE : E.length = 10) (hF : F.length = 10) (hQ : Q (.int .i64 (lx E F)) H) : CallT (cx B0 old) (acall (cx B0 old) ansP (n + 5)) 59 [.agg ⟨E.map vY⟩, .agg ⟨F.map vY⟩] H Q := by
  have hE' := hE
  have hF' := hF
  obtain ⟨e0, e1, e2, e3, e4, e5, e6, e7, e8, e9, eE⟩ := ten hE
  obtain ⟨f0, f1, f2, f3, f4, f5, f6, f7, f8, f9, eF⟩ := ten hF
  have oc : ∀ {H1 : Hp} {Θ : Value → Hp → Prop}, (∀ b2, Θ (.func (.func 81) #[] #[.pointer (some ⟨b2, 0, none⟩)]) ((b2, .row (E.map vY) 10 false) :: H1)) → CallT (cx B0 old) (acall (cx B0 old) ansP (n + 4)) 74 [.agg ⟨E.map vY⟩] H1 Θ := fun h => octets74_ct hE h
  have mE : E.map vY = [vY e0, vY e1, vY e2, vY e3, vY e4, vY e5, vY e6, vY e7, vY e8, vY e9] := by rw [eE]; rfl
  have mF : F.map vY = [vY f0, vY f1, vY f2, vY f3, vY f4, vY f5, vY f6, vY f7, vY f8, vY f9] := by rw [eF]; rfl
  rw [mE] at oc
  rw [mE, mF]
  refine call_inM 20 rfl Try.func59 rfl rfl ?_
  refine cm_seq (cm_code ?_)
  repeat (refine ZX ?_; try with_reducible intro _)
  rename_i c2 c3 c4
  refine cm_seq (cm_seq (cm_code ?_))
  repeat (refine ZX ?_; try with_reducible intro _)
  refine rt_step rfl rfl rfl (st_call rfl rfl rfl rfl (oc fun b2 => ?_))
  repeat (refine ZX ?_; try with_reducible intro _)
  refine cm_block (cm_range rfl rfl ?_)
  intro m fr hfr
  refine oct81_ct (n := n + 2) (E := E) b2 (m + 1) 20 _ fr _ _ _ (fun i R => lx (E.drop i) (F.drop i) = lx E F ∧ R = (m, .dblk) :: (b2, .row [vY e0, vY e1, vY e2, vY e3, vY e4, vY e5, vY e6, vY e7, vY e8, vY e9] 10 false) :: (c4, .row [.int .i64 0] 1 false) :: (c3, .row [vY f0, vY f1, vY f2, vY f3, vY f4, vY f5, vY f6, vY f7, vY f8, vY f9] 10 false) :: (c2, .row [vY e0, vY e1, vY e2, vY e3, vY e4, vY e5, vY e6, vY e7, vY e8, vY e9] 10 false) :: H)
    (fun e R => e = .ret ∧ R = (m, .dblk) :: (c4, .row [.int .i64 (lx E F)] 1 false) :: H) _ rfl hfr hE ?_ ⟨rfl, rfl⟩ ?_ ?_ ?_
  · rintro i R ⟨_, rfl⟩
    rw [mE]
    exact in_auto
  · rintro i R q x hx ⟨hi, rfl⟩
    have hlt : i < 10 := by rw [← hE]; exact (List.getElem?_eq_some_iff.1 hx).1
    obtain ⟨y, hy⟩ : ∃ y, F[i]? = some y := ⟨_, List.getElem?_eq_getElem (by rw [hF]; exact hlt)⟩
    rw [lx_at hx hy] at hi
    have hL0 : ∀ H', ((c3, AObj.row [vY f0, vY f1, vY f2, vY f3, vY f4, vY f5, vY f6, vY f7, vY f8, vY f9] 10 false) :: H).Sublist H' → LdT (cx B0 old) 5 H' c3 (0 + (i : Int).toNat * 1) (.int .u8 y) := fun H' hs => ld1 (.own _ _ (hs.subset (List.Mem.head _))) rfl (sz rfl) (by
      rw [Nat.zero_add, Int.toNat_natCast, Nat.mul_one, ← mF]; exact map_at hy)
    repeat (refine ZX ?_; try with_reducible intro _)
    refine ⟨q, _, List.Perm.refl _, ?_⟩
    repeat (refine ZX ?_; try with_reducible intro _)
    refine rt_step rfl rfl rfl (st_call rfl rfl rfl rfl (cmp75_ct x y ?_))
    repeat (refine ZX ?_; try with_reducible intro _)
    refine ct_condT te_ne rfl (fun hd => ?_) (fun hd => ?_)
    · rw [if_neg hd] at hi
      repeat (refine ZX ?_; try with_reducible intro _)
      unfold rndΦ RndE
      exact ⟨1, q, _, List.Perm.refl _, .inr ⟨rfl, _, _, ⟨rfl, rfl⟩, by rw [hi]; exact drop_auto⟩⟩
    · rw [if_pos hd] at hi
      repeat (refine ZX ?_; try with_reducible intro _)
      unfold rndΦ RndE
      exact ⟨1, q, _, List.Perm.refl _, .inl ⟨rfl, _, ⟨hi, rfl⟩, by exact drop_auto⟩⟩
  · rintro R v ⟨hi, rfl⟩
    rw [← hE, List.drop_length] at hi
    refine ⟨0, none, _, List.Perm.refl _, rfl, ?_⟩
    refine cm_code ?_
    repeat (refine ZX ?_; try with_reducible intro _)
    refine lv_one (List.Perm.refl _) ⟨H, by exact drop_auto, ?_⟩
    exact res_cell rfl (.own _ _ hm1) rfl (sz rfl) rfl rfl (res_nil (by rw [← hi] at hQ; exact hQ))
  · rintro e R v ⟨rfl, rfl⟩
    refine ⟨2, some .ret, _, List.Perm.refl _, rfl, ?_⟩
    refine lv_one (List.Perm.refl _) ⟨H, by exact drop_auto, ?_⟩
    exact res_cell rfl (.own _ _ hm0) rfl (sz rfl) rfl rfl (res_nil hQ)
end
end Go.Proofs.Ythcohphflhkceaa.Abs

/- Contracts: Compare of routes, the program's and the reference's. -/
namespace Go.Proofs.Ythcohphflhkceaa.Abs
open Go
set_option linter.unusedVariables false
theorem i64_k {x : Int} (h : -9223372036854775808 ≤ x ∧ x < 9223372036854775808) : IntKind.i64.wrap x = x := IntWalk.i64_in x (by omega)
theorem orL_step (a b : Int) (l : List Int) : orL (a :: b :: l) = orL ((if a = 0 then b else a) :: l) := by
  by_cases h : a = 0
  · simp [orL, h]
  · simp [orL, h]
theorem orL_one (a : Int) : orL [a] = a := by
  by_cases h : a = 0
  · simp [orL, h]
  · simp [orL, h]
theorem wf60_y {x : S60} (h : x.wf) : ∀ y ∈ esL x, isY y := by
  unfold S60.wf at h
  intro y hy
  unfold esL at hy
  unfold isY
  simp only [List.mem_cons, List.not_mem_nil, or_false] at hy
  rcases hy with rfl | rfl | rfl | rfl | rfl | rfl | rfl | rfl | rfl | rfl <;> omega
theorem keyS_wf {x : S60} (h : x.wf) : (keyS x).wf := by
  unfold keyS
  split
  · unfold S60.wf at h ⊢; dsimp only; omega
  · split <;> (unfold S60.wf at h ⊢; dsimp only; omega)
section
variable {B0 : Nat} {old : Nat → Option (List Value)} {n : Nat} {H : Hp} {Q : Value → Hp → Prop} {E F : List Int}
set_option maxRecDepth 10000
set_option maxHeartbeats 8000000
theorem compare39_ct (x y : S60) (hQ : Q (.int .i64 (nlC x y)) H) : CallT (cx B0 old) (acall (cx B0 old) ansP (n + 6)) 39 [.agg ⟨en60 x⟩, .agg ⟨en60 y⟩] H Q := by
  unfold nlC at hQ
  rw [← orC_eq] at hQ
  have hk1 : ∀ {H1 : Hp} {Θ : Value → Hp → Prop}, Θ (.agg ⟨en60 (keyS x)⟩) H1 → CallT (cx B0 old) (acall (cx B0 old) ansP (n + 5)) 55 [.agg ⟨en60 x⟩] H1 Θ := fun h => key55_ct x h
  have hk2 : ∀ {H1 : Hp} {Θ : Value → Hp → Prop}, Θ (.agg ⟨en60 (keyS y)⟩) H1 → CallT (cx B0 old) (acall (cx B0 old) ansP (n + 5)) 55 [.agg ⟨en60 y⟩] H1 Θ := fun h => key55_ct y h
  generalize keyS x = u at *
  generalize keyS y = v at *
  have he : ∀ {H1 : Hp} {Θ : Value → Hp → Prop}, Θ (.int .i64 (lx (esL u) (esL v))) H1 → CallT (cx B0 old) (acall (cx B0 old) ansP (n + 5)) 59 [.agg ⟨[vY u.a2, vY u.a3, vY u.a4, vY u.a5, vY u.a6, vY u.a7, vY u.a8, vY u.a9, vY u.a10, vY u.a11]⟩, .agg ⟨[vY v.a2, vY v.a3, vY v.a4, vY v.a5, vY v.a6, vY v.a7, vY v.a8, vY v.a9, vY v.a10, vY v.a11]⟩] H1 Θ := fun h => esi59_ct (E := esL u) (F := esL v) rfl rfl h
  unfold orC at hQ
  generalize lx (esL u) (esL v) = w at *
  unfold en60 at hk1 hk2
  refine call_in2 65 rfl Try.func39 rfl rfl ?_
  unfold en60
  repeat (refine ZX ?_; try with_reducible intro _)
  refine ct_draw (masks := [0, 1, 0, 7, 15, 31]) (plan := [0, 2, 1, 3, 4, 5]) (E := []) (by kernel_rfl) (by kernel_rfl) (by kernel_rfl) (by kernel_rfl) ?_
  repeat (refine YX ?_)
  refine pl_S rfl rfl rfl rfl rfl rfl (st_call rfl rfl rfl rfl (hk1 ⟨by exact rec_auto, ?_⟩))
  repeat (refine YX ?_)
  refine pl_S rfl rfl rfl rfl rfl rfl (st_call rfl rfl rfl rfl (hk2 ⟨by exact rec_auto, ?_⟩))
  repeat (refine YX ?_)
  refine y3 ?_
  repeat (refine YX ?_)
  refine y3 ?_
  repeat (refine YX ?_)
  repeat (refine ZX ?_; try with_reducible intro _)
  refine ct_draw (masks := [0, 1, 0, 4, 15, 0, 32, 0, 128, 511, 0, 1024, 0, 4096, 16383, 0, 32768, 0, 131072, 524287, 0, 1048576, 0, 4194304, 16777215, 0, 33554432, 0, 134217728, 536870911, 0, 1073741824, 0, 4294967296, 17179869183, 0, 34359738368, 103079215104, 0, 274877906944, 824633720832, 2199023255551, 0, 4398046511104, 13194139533312, 0, 35184372088832, 105553116266496, 281474976710655, 0, 562949953421312, 0, 2251799813685248, 9007199254740991, 18014398509481983, 36028797018963967, 72057594037927935]) (plan := [0, 1, 2, 3, 5, 6, 7, 8, 10, 11, 12, 13, 15, 16, 17, 18, 20, 21, 22, 23, 25, 26, 27, 28, 30, 31, 32, 33, 35, 36, 37, 38, 39, 40, 42, 43, 44, 45, 46, 47, 49, 50, 51, 52, 4, 9, 14, 19, 24, 29, 34, 41, 48, 53, 54, 55, 56]) (E := []) (by kernel_rfl) (by kernel_rfl) (by kernel_rfl) (by kernel_rfl) ?_
  repeat (refine YX ?_)
  refine pl_S rfl rfl rfl rfl rfl rfl (st_call rfl rfl rfl rfl (cmp57_ct _ _ ⟨by exact rec_auto, ?_⟩))
  repeat (refine YX ?_)
  refine pl_S rfl rfl rfl rfl rfl rfl (st_call rfl rfl rfl rfl (cmp58_ct _ _ ⟨by exact rec_auto, ?_⟩))
  repeat (refine YX ?_)
  refine pl_S rfl rfl rfl rfl rfl rfl (st_call rfl rfl rfl rfl (he ⟨by exact rec_auto, ?_⟩))
  repeat (refine YX ?_)
  refine pl_S rfl rfl rfl rfl rfl rfl (st_call rfl rfl rfl rfl (cmp60_ct _ _ ⟨by exact rec_auto, ?_⟩))
  repeat (refine YX ?_)
  refine pl_S rfl rfl rfl rfl rfl rfl (st_call rfl rfl rfl rfl (cmp61_ct _ _ ⟨by exact rec_auto, ?_⟩))
  repeat (refine YX ?_)
  refine pl_S rfl rfl rfl rfl rfl rfl (st_call rfl rfl rfl rfl (order62_ct _ _ ⟨by exact rec_auto, ?_⟩))
  repeat (refine YX ?_)
  refine pl_S rfl rfl rfl rfl rfl rfl (st_call rfl rfl rfl rfl (cmp63_ct _ _ ⟨by exact rec_auto, ?_⟩))
  repeat (refine YX ?_)
  refine pl_S rfl rfl rfl rfl rfl rfl (st_call rfl rfl rfl rfl (cmp63_ct _ _ ⟨by exact rec_auto, ?_⟩))
  repeat (refine YX ?_)
  refine pl_S rfl rfl rfl rfl rfl rfl (st_call rfl rfl rfl rfl (cmp57_ct _ _ ⟨by exact rec_auto, ?_⟩))
  repeat (refine YX ?_)
  refine pl_S rfl rfl rfl rfl rfl rfl (st_call rfl rfl rfl rfl (cmp63_ct _ _ ⟨by exact rec_auto, ?_⟩))
  repeat (refine YX ?_)
  refine pl_S rfl rfl rfl rfl rfl rfl (st_buildSlice rfl (zr rfl) rfl rfl rfl rfl rfl rfl fun bs => ⟨by exact rec_auto, ?_⟩)
  refine pl_S rfl rfl rfl rfl rfl rfl (st_call rfl rfl rfl rfl (or56_ct (L := [sgn u.a0 v.a0, sgn u.a1 v.a1, w, sgn u.a12 v.a12, sgn u.a13 v.a13, sgn (b2i u.a15) (b2i v.a15), sgn u.a14 v.a14, sgn u.a16 v.a16, sgn u.a17 v.a17, sgn u.a18 v.a18]) (arr_flat encI_len [sgn u.a0 v.a0, sgn u.a1 v.a1, w, sgn u.a12 v.a12, sgn u.a13 v.a13, sgn (b2i u.a15) (b2i v.a15), sgn u.a14 v.a14, sgn u.a16 v.a16, sgn u.a17 v.a17, sgn u.a18 v.a18] hm0) (Nat.le_of_ble_eq_true rfl) ⟨by exact rec_auto, ?_⟩))
  repeat (refine YX ?_)
  repeat (refine ZX ?_; try with_reducible intro _)
  exact re_1 (H' := H) rfl rfl (by exact drop_auto) hQ
theorem esi46_ct (hE : E.length = 10) (hF : F.length = 10) (yE : ∀ y ∈ E, isY y) (yF : ∀ y ∈ F, isY y) (hQ : Q (.int .i64 (lx E F)) H) : CallT (cx B0 old) (acall (cx B0 old) ansP (n + 2)) 46 [.agg ⟨E.map vY⟩, .agg ⟨F.map vY⟩] H Q := by
  obtain ⟨e0, e1, e2, e3, e4, e5, e6, e7, e8, e9, eE⟩ := ten hE
  obtain ⟨f0, f1, f2, f3, f4, f5, f6, f7, f8, f9, eF⟩ := ten hF
  have mE : E.map vY = [vY e0, vY e1, vY e2, vY e3, vY e4, vY e5, vY e6, vY e7, vY e8, vY e9] := by rw [eE]; rfl
  have mF : F.map vY = [vY f0, vY f1, vY f2, vY f3, vY f4, vY f5, vY f6, vY f7, vY f8, vY f9] := by rw [eF]; rfl
  rw [mE, mF]
  refine call_in2 23 rfl Try.func46 rfl rfl ?_
  repeat (refine ZX ?_; try with_reducible intro _)
  rename_i c2 c3
  refine loop_ind (ι := Nat) 0 (fun i => 10 - i) (fun i => i ≤ 10 ∧ lx (E.drop i) (F.drop i) = lx E F) (fun i => [(5, .int .i64 (i : Int)), (2, .pointer (some ⟨c2, 0, none⟩)), (3, .pointer (some ⟨c3, 0, none⟩))]) (fun _ => (c3, .row [vY f0, vY f1, vY f2, vY f3, vY f4, vY f5, vY f6, vY f7, vY f8, vY f9] 10 false) :: (c2, .row [vY e0, vY e1, vY e2, vY e3, vY e4, vY e5, vY e6, vY e7, vY e8, vY e9] 10 false) :: H) ⟨Nat.zero_le _, rfl⟩ (by repeat (first | exact SubL.nil | refine SubL.cons rfl ?_)) (by exact drop_auto) ?_
  rintro i ⟨hi, ho⟩
  repeat (refine ZX ?_; try with_reducible intro _)
  refine ct_condT te_d rfl (fun hc => ?_) (fun hc => ?_)
  · have hlt : i < 10 := by omega
    obtain ⟨x, hx⟩ : ∃ x, E[i]? = some x := ⟨_, List.getElem?_eq_getElem (by rw [hE]; exact hlt)⟩
    obtain ⟨y, hy⟩ : ∃ y, F[i]? = some y := ⟨_, List.getElem?_eq_getElem (by rw [hF]; exact hlt)⟩
    have hxy := yE x (List.mem_of_getElem? hx)
    have hyy := yF y (List.mem_of_getElem? hy)
    unfold isY at hxy hyy
    rw [lx_at hx hy] at ho
    have hA0 : ∀ (H' : Hp) (j : Nat), j = i → (c2, AObj.row [vY e0, vY e1, vY e2, vY e3, vY e4, vY e5, vY e6, vY e7, vY e8, vY e9] 10 false) ∈ H' → LdT (cx B0 old) 5 H' c2 (0 + j * 1) (.int .u8 x) := fun H' j hj hm => ld1 (.own _ _ hm) rfl (sz rfl) (by rw [hj, Nat.zero_add, Nat.mul_one, ← mE]; exact map_at hx)
    have hA1 : ∀ (H' : Hp) (j : Nat), j = i → (c3, AObj.row [vY f0, vY f1, vY f2, vY f3, vY f4, vY f5, vY f6, vY f7, vY f8, vY f9] 10 false) ∈ H' → LdT (cx B0 old) 5 H' c3 (0 + j * 1) (.int .u8 y) := fun H' j hj hm => ld1 (.own _ _ hm) rfl (sz rfl) (by rw [hj, Nat.zero_add, Nat.mul_one, ← mF]; exact map_at hy)
    repeat (refine ZX ?_; try with_reducible intro _)
    refine ct_draw (masks := [0, 1, 3, 7, 0, 16, 48, 112, 255, 511]) (plan := [0, 1, 2, 3, 4, 5, 6, 7, 8, 9]) (E := []) (by kernel_rfl) (by kernel_rfl) (by kernel_rfl) (by kernel_rfl) ?_
    repeat (refine YX ?_)
    rw [i64_k (show -9223372036854775808 ≤ x ∧ x < 9223372036854775808 by omega), i64_k (show -9223372036854775808 ≤ y ∧ y < 9223372036854775808 by omega)]
    refine pl_S rfl rfl rfl rfl rfl rfl (st_call rfl rfl rfl rfl (cmp69_ct x y ⟨by exact rec_auto, ?_⟩))
    repeat (refine YX ?_)
    repeat (refine ZX ?_; try with_reducible intro _)
    refine ct_condT te_ne rfl (fun hd => ?_) (fun hd => ?_)
    · rw [if_neg hd] at ho
      repeat (refine ZX ?_; try with_reducible intro _)
      exact re_1 (H' := H) rfl rfl (by exact drop_auto) (by rw [ho]; exact hQ)
    · rw [if_pos hd] at ho
      repeat (refine ZX ?_; try with_reducible intro _)
      exact ⟨i + 1, ⟨by omega, ho⟩, by omega, by repeat (first | exact SubL.nil | refine SubL.cons rfl ?_), by exact drop_auto⟩
  · have : i = 10 := by omega
    subst this
    rw [← hE, List.drop_length] at ho
    repeat (refine ZX ?_; try with_reducible intro _)
    exact re_1 (H' := H) rfl rfl (by exact drop_auto) (by rw [← ho] at hQ; exact hQ)
theorem prefix48_ct (a b c d : Int) (ha : 0 ≤ a ∧ a ≤ 4294967295) (hc : 0 ≤ c ∧ c ≤ 4294967295) (hQ : Q (.int .i64 (if sgn a c = 0 then sgn b d else sgn a c)) H) : CallT (cx B0 old) (acall (cx B0 old) ansP (n + 2)) 48 [.agg ⟨[.int .u32 a, .int .i64 b]⟩, .agg ⟨[.int .u32 c, .int .i64 d]⟩] H Q := by
  refine call_in2 21 rfl Try.func48 rfl rfl ?_
  repeat (refine ZX ?_; try with_reducible intro _)
  rw [i64_k (show -9223372036854775808 ≤ a ∧ a < 9223372036854775808 by omega), i64_k (show -9223372036854775808 ≤ c ∧ c < 9223372036854775808 by omega)]
  refine rt_step rfl rfl rfl (st_call rfl rfl rfl rfl (cmp69_ct a c ?_))
  repeat (refine ZX ?_; try with_reducible intro _)
  refine ct_condT te_e rfl (fun hd => ?_) (fun hd => ?_)
  · rw [if_pos hd] at hQ
    repeat (refine ZX ?_; try with_reducible intro _)
    refine rt_step rfl rfl rfl (st_call rfl rfl rfl rfl (cmp69_ct b d ?_))
    repeat (refine ZX ?_; try with_reducible intro _)
    exact re_1 (H' := H) rfl rfl (by exact drop_auto) hQ
  · rw [if_neg hd] at hQ
    repeat (refine ZX ?_; try with_reducible intro _)
    exact re_1 (H' := H) rfl rfl (by exact drop_auto) hQ
theorem compare26_ct (x y : S60) (hx : x.wf) (hy : y.wf) (hQ : Q (.int .i64 (nlC x y)) H) : CallT (cx B0 old) (acall (cx B0 old) ansP (n + 4)) 26 [.agg ⟨en60 x⟩, .agg ⟨en60 y⟩] H Q := by
  unfold nlC at hQ
  rw [← orC_eq] at hQ
  have hk1 : ∀ {H1 : Hp} {Θ : Value → Hp → Prop}, Θ (.agg ⟨en60 (keyS x)⟩) H1 → CallT (cx B0 old) (acall (cx B0 old) ansP (n + 3)) 44 [.agg ⟨en60 x⟩] H1 Θ := fun h => key44_ct x h
  have hk2 : ∀ {H1 : Hp} {Θ : Value → Hp → Prop}, Θ (.agg ⟨en60 (keyS y)⟩) H1 → CallT (cx B0 old) (acall (cx B0 old) ansP (n + 3)) 44 [.agg ⟨en60 y⟩] H1 Θ := fun h => key44_ct y h
  have hu := keyS_wf hx
  have hv := keyS_wf hy
  generalize keyS x = u at *
  generalize keyS y = v at *
  have yu := wf60_y hu
  have yv := wf60_y hv
  unfold S60.wf at hu hv
  have he : ∀ {H1 : Hp} {Θ : Value → Hp → Prop}, Θ (.int .i64 (lx (esL u) (esL v))) H1 → CallT (cx B0 old) (acall (cx B0 old) ansP (n + 3)) 46 [.agg ⟨[vY u.a2, vY u.a3, vY u.a4, vY u.a5, vY u.a6, vY u.a7, vY u.a8, vY u.a9, vY u.a10, vY u.a11]⟩, .agg ⟨[vY v.a2, vY v.a3, vY v.a4, vY v.a5, vY v.a6, vY v.a7, vY v.a8, vY v.a9, vY v.a10, vY v.a11]⟩] H1 Θ := fun h => esi46_ct (E := esL u) (F := esL v) rfl rfl yu yv h
  unfold orC at hQ
  generalize lx (esL u) (esL v) = w at *
  unfold en60 at hk1 hk2
  refine call_in2 85 rfl Try.func26 rfl rfl ?_
  unfold en60
  repeat (refine ZX ?_; try with_reducible intro _)
  rename_i c2 c3
  refine ct_draw (masks := [0, 1, 0, 7, 15, 31]) (plan := [0, 2, 1, 3, 4, 5]) (E := []) (by kernel_rfl) (by kernel_rfl) (by kernel_rfl) (by kernel_rfl) ?_
  repeat (refine YX ?_)
  refine pl_S rfl rfl rfl rfl rfl rfl (st_call rfl rfl rfl rfl (hk1 ⟨by exact rec_auto, ?_⟩))
  repeat (refine YX ?_)
  refine pl_S rfl rfl rfl rfl rfl rfl (st_call rfl rfl rfl rfl (hk2 ⟨by exact rec_auto, ?_⟩))
  repeat (refine YX ?_)
  refine y3 ?_
  repeat (refine YX ?_)
  refine y3 ?_
  repeat (refine YX ?_)
  repeat (refine ZX ?_; try with_reducible intro _)
  refine ct_condT te_d rfl (fun h0 => ?_) (fun h0 => ?_)
  · have e : sgn u.a0 v.a0 = -1 := by unfold sgn; rw [if_pos h0]
    rw [e, orL, if_neg (by decide)] at hQ
    repeat (refine ZX ?_; try with_reducible intro _)
    exact re_1 (H' := H) rfl rfl (by exact drop_auto) hQ
  repeat (refine ZX ?_; try with_reducible intro _)
  refine ct_condT te_d rfl (fun h1 => ?_) (fun h1 => ?_)
  · have e : sgn u.a0 v.a0 = 1 := by unfold sgn; rw [if_neg h0, if_pos h1]
    rw [e, orL, if_neg (by decide)] at hQ
    repeat (refine ZX ?_; try with_reducible intro _)
    exact re_1 (H' := H) rfl rfl (by exact drop_auto) hQ
  have e : sgn u.a0 v.a0 = 0 := by unfold sgn; rw [if_neg h0, if_neg h1]
  rw [e, orL, if_pos rfl] at hQ
  clear e
  repeat (refine ZX ?_; try with_reducible intro _)
  refine rt_step rfl rfl rfl (st_call rfl rfl rfl rfl (cmp45_ct _ _ ?_))
  repeat (refine ZX ?_; try with_reducible intro _)
  refine ct_midE (ι := Int) (fun c => c = if sgn u.a1 v.a1 = 0 then w else sgn u.a1 v.a1) (fun c => [(5, .int .i64 c), (2, .pointer (some ⟨c2, 0, none⟩)), (3, .pointer (some ⟨c3, 0, none⟩))]) (fun _ => (c3, .row [.int .i64 v.a0, .int .u64 v.a1, .int .u8 v.a2, .int .u8 v.a3, .int .u8 v.a4, .int .u8 v.a5, .int .u8 v.a6, .int .u8 v.a7, .int .u8 v.a8, .int .u8 v.a9, .int .u8 v.a10, .int .u8 v.a11, .int .u32 v.a12, .int .u64 v.a13, .int .u32 v.a14, .bool v.a15, .int .u32 v.a16, .int .i64 v.a17, .int .u32 v.a18, .int .u32 v.a19, .int .u32 v.a20] 21 false) :: (c2, .row [.int .i64 u.a0, .int .u64 u.a1, .int .u8 u.a2, .int .u8 u.a3, .int .u8 u.a4, .int .u8 u.a5, .int .u8 u.a6, .int .u8 u.a7, .int .u8 u.a8, .int .u8 u.a9, .int .u8 u.a10, .int .u8 u.a11, .int .u32 u.a12, .int .u64 u.a13, .int .u32 u.a14, .bool u.a15, .int .u32 u.a16, .int .i64 u.a17, .int .u32 u.a18, .int .u32 u.a19, .int .u32 u.a20] 21 false) :: H) ?_ ?_
  · refine ct_condT te_e rfl (fun hd => ?_) (fun hd => ?_)
    · repeat (refine ZX ?_; try with_reducible intro _)
      refine rt_step rfl rfl rfl (st_call rfl rfl rfl rfl (he ?_))
      repeat (refine ZX ?_; try with_reducible intro _)
      exact ⟨_, (if_pos hd).symm, by repeat (first | exact SubL.nil | refine SubL.cons rfl ?_), by exact drop_auto⟩
    · repeat (refine ZX ?_; try with_reducible intro _)
      exact ⟨_, (if_neg hd).symm, by repeat (first | exact SubL.nil | refine SubL.cons rfl ?_), by exact drop_auto⟩
  intro d2 h2
  repeat (refine ZX ?_; try with_reducible intro _)
  refine ct_midE (ι := Int) (fun c => c = if d2 = 0 then sgn u.a12 v.a12 else d2) (fun c => [(5, .int .i64 c), (2, .pointer (some ⟨c2, 0, none⟩)), (3, .pointer (some ⟨c3, 0, none⟩))]) (fun _ => (c3, .row [.int .i64 v.a0, .int .u64 v.a1, .int .u8 v.a2, .int .u8 v.a3, .int .u8 v.a4, .int .u8 v.a5, .int .u8 v.a6, .int .u8 v.a7, .int .u8 v.a8, .int .u8 v.a9, .int .u8 v.a10, .int .u8 v.a11, .int .u32 v.a12, .int .u64 v.a13, .int .u32 v.a14, .bool v.a15, .int .u32 v.a16, .int .i64 v.a17, .int .u32 v.a18, .int .u32 v.a19, .int .u32 v.a20] 21 false) :: (c2, .row [.int .i64 u.a0, .int .u64 u.a1, .int .u8 u.a2, .int .u8 u.a3, .int .u8 u.a4, .int .u8 u.a5, .int .u8 u.a6, .int .u8 u.a7, .int .u8 u.a8, .int .u8 u.a9, .int .u8 u.a10, .int .u8 u.a11, .int .u32 u.a12, .int .u64 u.a13, .int .u32 u.a14, .bool u.a15, .int .u32 u.a16, .int .i64 u.a17, .int .u32 u.a18, .int .u32 u.a19, .int .u32 u.a20] 21 false) :: H) ?_ ?_
  · refine ct_condT te_e rfl (fun hd => ?_) (fun hd => ?_)
    · repeat (refine ZX ?_; try with_reducible intro _)
      rw [u64_id (show 0 ≤ u.a12 ∧ u.a12 < 18446744073709551616 by omega), u64_id (show 0 ≤ v.a12 ∧ v.a12 < 18446744073709551616 by omega)]
      refine rt_step rfl rfl rfl (st_call rfl rfl rfl rfl (cmp45_ct _ _ ?_))
      repeat (refine ZX ?_; try with_reducible intro _)
      exact ⟨_, (if_pos hd).symm, by repeat (first | exact SubL.nil | refine SubL.cons rfl ?_), by exact drop_auto⟩
    · repeat (refine ZX ?_; try with_reducible intro _)
      exact ⟨_, (if_neg hd).symm, by repeat (first | exact SubL.nil | refine SubL.cons rfl ?_), by exact drop_auto⟩
  intro d3 h3
  repeat (refine ZX ?_; try with_reducible intro _)
  refine ct_midE (ι := Int) (fun c => c = if d3 = 0 then sgn u.a13 v.a13 else d3) (fun c => [(5, .int .i64 c), (2, .pointer (some ⟨c2, 0, none⟩)), (3, .pointer (some ⟨c3, 0, none⟩))]) (fun _ => (c3, .row [.int .i64 v.a0, .int .u64 v.a1, .int .u8 v.a2, .int .u8 v.a3, .int .u8 v.a4, .int .u8 v.a5, .int .u8 v.a6, .int .u8 v.a7, .int .u8 v.a8, .int .u8 v.a9, .int .u8 v.a10, .int .u8 v.a11, .int .u32 v.a12, .int .u64 v.a13, .int .u32 v.a14, .bool v.a15, .int .u32 v.a16, .int .i64 v.a17, .int .u32 v.a18, .int .u32 v.a19, .int .u32 v.a20] 21 false) :: (c2, .row [.int .i64 u.a0, .int .u64 u.a1, .int .u8 u.a2, .int .u8 u.a3, .int .u8 u.a4, .int .u8 u.a5, .int .u8 u.a6, .int .u8 u.a7, .int .u8 u.a8, .int .u8 u.a9, .int .u8 u.a10, .int .u8 u.a11, .int .u32 u.a12, .int .u64 u.a13, .int .u32 u.a14, .bool u.a15, .int .u32 u.a16, .int .i64 u.a17, .int .u32 u.a18, .int .u32 u.a19, .int .u32 u.a20] 21 false) :: H) ?_ ?_
  · refine ct_condT te_e rfl (fun hd => ?_) (fun hd => ?_)
    · repeat (refine ZX ?_; try with_reducible intro _)
      refine rt_step rfl rfl rfl (st_call rfl rfl rfl rfl (cmp45_ct _ _ ?_))
      repeat (refine ZX ?_; try with_reducible intro _)
      exact ⟨_, (if_pos hd).symm, by repeat (first | exact SubL.nil | refine SubL.cons rfl ?_), by exact drop_auto⟩
    · repeat (refine ZX ?_; try with_reducible intro _)
      exact ⟨_, (if_neg hd).symm, by repeat (first | exact SubL.nil | refine SubL.cons rfl ?_), by exact drop_auto⟩
  intro d4 h4
  repeat (refine ZX ?_; try with_reducible intro _)
  refine ct_midE (ι := Int) (fun c => c = if d4 = 0 then sgn (b2i u.a15) (b2i v.a15) else d4) (fun c => [(5, .int .i64 c), (2, .pointer (some ⟨c2, 0, none⟩)), (3, .pointer (some ⟨c3, 0, none⟩))]) (fun _ => (c3, .row [.int .i64 v.a0, .int .u64 v.a1, .int .u8 v.a2, .int .u8 v.a3, .int .u8 v.a4, .int .u8 v.a5, .int .u8 v.a6, .int .u8 v.a7, .int .u8 v.a8, .int .u8 v.a9, .int .u8 v.a10, .int .u8 v.a11, .int .u32 v.a12, .int .u64 v.a13, .int .u32 v.a14, .bool v.a15, .int .u32 v.a16, .int .i64 v.a17, .int .u32 v.a18, .int .u32 v.a19, .int .u32 v.a20] 21 false) :: (c2, .row [.int .i64 u.a0, .int .u64 u.a1, .int .u8 u.a2, .int .u8 u.a3, .int .u8 u.a4, .int .u8 u.a5, .int .u8 u.a6, .int .u8 u.a7, .int .u8 u.a8, .int .u8 u.a9, .int .u8 u.a10, .int .u8 u.a11, .int .u32 u.a12, .int .u64 u.a13, .int .u32 u.a14, .bool u.a15, .int .u32 u.a16, .int .i64 u.a17, .int .u32 u.a18, .int .u32 u.a19, .int .u32 u.a20] 21 false) :: H) ?_ ?_
  · refine ct_condT te_e rfl (fun hd => ?_) (fun hd => ?_)
    · repeat (refine ZX ?_; try with_reducible intro _)
      refine ct_draw (masks := [0, 1, 3, 0, 8, 31, 63, 127]) (plan := [0, 1, 3, 4, 2, 5, 6, 7]) (E := []) (by kernel_rfl) (by kernel_rfl) (by kernel_rfl) (by kernel_rfl) ?_
      repeat (refine YX ?_)
      refine pl_S rfl rfl rfl rfl rfl rfl (st_call rfl rfl rfl rfl (number47_ct _ ⟨by exact rec_auto, ?_⟩))
      repeat (refine YX ?_)
      refine pl_S rfl rfl rfl rfl rfl rfl (st_call rfl rfl rfl rfl (number47_ct _ ⟨by exact rec_auto, ?_⟩))
      repeat (refine YX ?_)
      refine pl_S rfl rfl rfl rfl rfl rfl (st_call rfl rfl rfl rfl (cmp45_ct _ _ ⟨by exact rec_auto, ?_⟩))
      repeat (refine YX ?_)
      repeat (refine ZX ?_; try with_reducible intro _)
      exact ⟨_, (if_pos hd).symm, by repeat (first | exact SubL.nil | refine SubL.cons rfl ?_), by exact drop_auto⟩
    · repeat (refine ZX ?_; try with_reducible intro _)
      exact ⟨_, (if_neg hd).symm, by repeat (first | exact SubL.nil | refine SubL.cons rfl ?_), by exact drop_auto⟩
  intro d5 h5
  repeat (refine ZX ?_; try with_reducible intro _)
  refine ct_midE (ι := Int) (fun c => c = if d5 = 0 then sgn u.a14 v.a14 else d5) (fun c => [(5, .int .i64 c), (2, .pointer (some ⟨c2, 0, none⟩)), (3, .pointer (some ⟨c3, 0, none⟩))]) (fun _ => (c3, .row [.int .i64 v.a0, .int .u64 v.a1, .int .u8 v.a2, .int .u8 v.a3, .int .u8 v.a4, .int .u8 v.a5, .int .u8 v.a6, .int .u8 v.a7, .int .u8 v.a8, .int .u8 v.a9, .int .u8 v.a10, .int .u8 v.a11, .int .u32 v.a12, .int .u64 v.a13, .int .u32 v.a14, .bool v.a15, .int .u32 v.a16, .int .i64 v.a17, .int .u32 v.a18, .int .u32 v.a19, .int .u32 v.a20] 21 false) :: (c2, .row [.int .i64 u.a0, .int .u64 u.a1, .int .u8 u.a2, .int .u8 u.a3, .int .u8 u.a4, .int .u8 u.a5, .int .u8 u.a6, .int .u8 u.a7, .int .u8 u.a8, .int .u8 u.a9, .int .u8 u.a10, .int .u8 u.a11, .int .u32 u.a12, .int .u64 u.a13, .int .u32 u.a14, .bool u.a15, .int .u32 u.a16, .int .i64 u.a17, .int .u32 u.a18, .int .u32 u.a19, .int .u32 u.a20] 21 false) :: H) ?_ ?_
  · refine ct_condT te_e rfl (fun hd => ?_) (fun hd => ?_)
    · repeat (refine ZX ?_; try with_reducible intro _)
      rw [u64_id (show 0 ≤ u.a14 ∧ u.a14 < 18446744073709551616 by omega), u64_id (show 0 ≤ v.a14 ∧ v.a14 < 18446744073709551616 by omega)]
      refine rt_step rfl rfl rfl (st_call rfl rfl rfl rfl (cmp45_ct _ _ ?_))
      repeat (refine ZX ?_; try with_reducible intro _)
      exact ⟨_, (if_pos hd).symm, by repeat (first | exact SubL.nil | refine SubL.cons rfl ?_), by exact drop_auto⟩
    · repeat (refine ZX ?_; try with_reducible intro _)
      exact ⟨_, (if_neg hd).symm, by repeat (first | exact SubL.nil | refine SubL.cons rfl ?_), by exact drop_auto⟩
  intro d6 h6
  repeat (refine ZX ?_; try with_reducible intro _)
  refine ct_midE (ι := Int) (fun c => c = if d6 = 0 then (if sgn u.a16 v.a16 = 0 then sgn u.a17 v.a17 else sgn u.a16 v.a16) else d6) (fun c => [(5, .int .i64 c), (2, .pointer (some ⟨c2, 0, none⟩)), (3, .pointer (some ⟨c3, 0, none⟩))]) (fun _ => (c3, .row [.int .i64 v.a0, .int .u64 v.a1, .int .u8 v.a2, .int .u8 v.a3, .int .u8 v.a4, .int .u8 v.a5, .int .u8 v.a6, .int .u8 v.a7, .int .u8 v.a8, .int .u8 v.a9, .int .u8 v.a10, .int .u8 v.a11, .int .u32 v.a12, .int .u64 v.a13, .int .u32 v.a14, .bool v.a15, .int .u32 v.a16, .int .i64 v.a17, .int .u32 v.a18, .int .u32 v.a19, .int .u32 v.a20] 21 false) :: (c2, .row [.int .i64 u.a0, .int .u64 u.a1, .int .u8 u.a2, .int .u8 u.a3, .int .u8 u.a4, .int .u8 u.a5, .int .u8 u.a6, .int .u8 u.a7, .int .u8 u.a8, .int .u8 u.a9, .int .u8 u.a10, .int .u8 u.a11, .int .u32 u.a12, .int .u64 u.a13, .int .u32 u.a14, .bool u.a15, .int .u32 u.a16, .int .i64 u.a17, .int .u32 u.a18, .int .u32 u.a19, .int .u32 u.a20] 21 false) :: H) ?_ ?_
  · refine ct_condT te_e rfl (fun hd => ?_) (fun hd => ?_)
    · repeat (refine ZX ?_; try with_reducible intro _)
      refine rt_step rfl rfl rfl (st_call rfl rfl rfl rfl (prefix48_ct _ _ _ _ (by omega) (by omega) ?_))
      repeat (refine ZX ?_; try with_reducible intro _)
      exact ⟨_, (if_pos hd).symm, by repeat (first | exact SubL.nil | refine SubL.cons rfl ?_), by exact drop_auto⟩
    · repeat (refine ZX ?_; try with_reducible intro _)
      exact ⟨_, (if_neg hd).symm, by repeat (first | exact SubL.nil | refine SubL.cons rfl ?_), by exact drop_auto⟩
  intro d7 h7
  repeat (refine ZX ?_; try with_reducible intro _)
  refine ct_midE (ι := Int) (fun c => c = if d7 = 0 then sgn u.a18 v.a18 else d7) (fun c => [(5, .int .i64 c), (2, .pointer (some ⟨c2, 0, none⟩)), (3, .pointer (some ⟨c3, 0, none⟩))]) (fun _ => (c3, .row [.int .i64 v.a0, .int .u64 v.a1, .int .u8 v.a2, .int .u8 v.a3, .int .u8 v.a4, .int .u8 v.a5, .int .u8 v.a6, .int .u8 v.a7, .int .u8 v.a8, .int .u8 v.a9, .int .u8 v.a10, .int .u8 v.a11, .int .u32 v.a12, .int .u64 v.a13, .int .u32 v.a14, .bool v.a15, .int .u32 v.a16, .int .i64 v.a17, .int .u32 v.a18, .int .u32 v.a19, .int .u32 v.a20] 21 false) :: (c2, .row [.int .i64 u.a0, .int .u64 u.a1, .int .u8 u.a2, .int .u8 u.a3, .int .u8 u.a4, .int .u8 u.a5, .int .u8 u.a6, .int .u8 u.a7, .int .u8 u.a8, .int .u8 u.a9, .int .u8 u.a10, .int .u8 u.a11, .int .u32 u.a12, .int .u64 u.a13, .int .u32 u.a14, .bool u.a15, .int .u32 u.a16, .int .i64 u.a17, .int .u32 u.a18, .int .u32 u.a19, .int .u32 u.a20] 21 false) :: H) ?_ ?_
  · refine ct_condT te_e rfl (fun hd => ?_) (fun hd => ?_)
    · repeat (refine ZX ?_; try with_reducible intro _)
      rw [u64_id (show 0 ≤ u.a18 ∧ u.a18 < 18446744073709551616 by omega), u64_id (show 0 ≤ v.a18 ∧ v.a18 < 18446744073709551616 by omega)]
      refine rt_step rfl rfl rfl (st_call rfl rfl rfl rfl (cmp45_ct _ _ ?_))
      repeat (refine ZX ?_; try with_reducible intro _)
      exact ⟨_, (if_pos hd).symm, by repeat (first | exact SubL.nil | refine SubL.cons rfl ?_), by exact drop_auto⟩
    · repeat (refine ZX ?_; try with_reducible intro _)
      exact ⟨_, (if_neg hd).symm, by repeat (first | exact SubL.nil | refine SubL.cons rfl ?_), by exact drop_auto⟩
  intro d8 h8
  repeat (refine ZX ?_; try with_reducible intro _)
  refine re_1 (H' := H) rfl rfl (by exact drop_auto) ?_
  have e : d8 = orL [sgn u.a1 v.a1, w, sgn u.a12 v.a12, sgn u.a13 v.a13, sgn (b2i u.a15) (b2i v.a15), sgn u.a14 v.a14, sgn u.a16 v.a16, sgn u.a17 v.a17, sgn u.a18 v.a18] := by
    have h7' : (if (if d6 = 0 then sgn u.a16 v.a16 else d6) = 0 then sgn u.a17 v.a17 else if d6 = 0 then sgn u.a16 v.a16 else d6) = d7 := by
      rw [h7]
      by_cases g : d6 = 0
      · rw [if_pos g, if_pos g]
      · rw [if_neg g, if_neg g, if_neg g]
    rw [orL_step, ← h2, orL_step, ← h3, orL_step, ← h4, orL_step, ← h5, orL_step, ← h6, orL_step, orL_step, h7', orL_step, ← h8, orL_one]
  rw [e]
  exact hQ
end
end Go.Proofs.Ythcohphflhkceaa.Abs

/- Keys and their ranks: plain Lean. -/
namespace Go.Proofs.Ythcohphflhkceaa.Abs
open Go
set_option linter.unusedVariables false
instance : DecidableEq S60 := fun x y => if h : leafsEq (en60 x) (en60 y) = true then .isTrue (leaf60_eq h) else .isFalse fun e => h (by rw [e]; exact leaf60 y)
/-! ### Ranks -/
/-- Numbers as the digits of one. -/
def nm (a : Int) : List Int → Int
  | [] => a
  | x :: l => nm (a * 340282366920938463463374607431768211456 + x) l
def Dig (l : List Int) : Prop := ∀ x ∈ l, -18446744073709551616 ≤ x ∧ x ≤ 18446744073709551616
theorem Dig.cons {a : Int} {l : List Int} (h : Dig (a :: l)) : (-18446744073709551616 ≤ a ∧ a ≤ 18446744073709551616) ∧ Dig l := ⟨h a (List.mem_cons_self ..), fun x hx => h x (List.mem_cons_of_mem _ hx)⟩
theorem nm_lt : ∀ {l m : List Int} {a b : Int}, l.length = m.length → Dig l → Dig m → a < b → nm a l < nm b m
  | [], [], a, b, _, _, _, h => h
  | [], _ :: _, _, _, h, _, _, _ => by simp at h
  | _ :: _, [], _, _, h, _, _, _ => by simp at h
  | x :: l, y :: m, a, b, h, h1, h2, hab => by
    unfold nm
    obtain ⟨g1, g2⟩ := h1.cons
    obtain ⟨g3, g4⟩ := h2.cons
    exact nm_lt (by simpa using h) g2 g4 (by omega)
theorem nm_lx : ∀ {l m : List Int} {a : Int}, l.length = m.length → Dig l → Dig m → (nm a l < nm a m ↔ lx l m < 0)
  | [], [], a, _, _, _ => by simp [nm, lx]
  | [], _ :: _, _, h, _, _ => by simp at h
  | _ :: _, [], _, h, _, _ => by simp at h
  | x :: l, y :: m, a, h, h1, h2 => by
    have hl : l.length = m.length := by simpa using h
    obtain ⟨g1, g2⟩ := h1.cons
    obtain ⟨g3, g4⟩ := h2.cons
    unfold nm lx
    by_cases e : x = y
    · subst e
      rw [if_pos (sgn_self x)]
      exact nm_lx hl g2 g4
    · rw [if_neg fun h => e (sgn_zero.1 h)]
      by_cases hlt : x < y
      · have := nm_lt (a := a * 340282366920938463463374607431768211456 + x) (b := a * 340282366920938463463374607431768211456 + y) hl g2 g4 (by omega)
        have hs : sgn x y = -1 := by unfold sgn; rw [if_pos hlt]
        rw [hs]
        exact ⟨fun _ => by decide, fun _ => this⟩
      · have := nm_lt (a := a * 340282366920938463463374607431768211456 + y) (b := a * 340282366920938463463374607431768211456 + x) hl.symm g4 g2 (by omega)
        have hs : sgn x y = 1 := by unfold sgn; rw [if_neg hlt, if_pos (by omega)]
        rw [hs]
        exact ⟨fun h => by omega, fun h => absurd h (by decide)⟩
theorem nm_eq {l m : List Int} {a : Int} (h : l.length = m.length) (h1 : Dig l) (h2 : Dig m) (e : nm a l = nm a m) : l = m := by
  refine (lx_zero h).1 ?_
  have g1 := (nm_lx (a := a) h h1 h2)
  have g2 := (nm_lx (a := a) h.symm h2 h1)
  rw [lx_neg l m] at g2
  have : ¬ lx l m < 0 := fun h => by have := g1.2 h; omega
  have : ¬ - lx l m < 0 := fun h => by have := g2.2 h; omega
  omega
/-- The rank of a key. -/
def rkS (x : S60) : Int := nm 0 (kv x)
def okS (x : S60) : Prop := x.wf ∧ keyS x = x
theorem dig_kv {x : S60} (h : x.wf) : Dig (kv x) := by
  unfold S60.wf at h
  intro y hy
  have hb : 0 ≤ b2i x.a15 ∧ b2i x.a15 ≤ 1 := by unfold b2i; split <;> omega
  simp only [kv, esL, List.cons_append, List.nil_append, List.mem_cons, List.not_mem_nil, or_false] at hy
  rcases hy with rfl | rfl | rfl | rfl | rfl | rfl | rfl | rfl | rfl | rfl | rfl | rfl | rfl | rfl | rfl | rfl | rfl | rfl | rfl <;> omega
theorem kv_eq {x y : S60} (hx : keyS x = x) (hy : keyS y = y) (e : kv x = kv y) : x = y :=
  kv_inj e (by rw [← hx, ← hy, (keyS_lab x).1, (keyS_lab y).1]) (by rw [← hx, ← hy, (keyS_lab x).2, (keyS_lab y).2])
theorem rkS_inj {a b : S60} (ha : okS a) (hb : okS b) (e : rkS a = rkS b) : a = b := kv_eq ha.2 hb.2 (nm_eq (by rw [kv_len, kv_len]) (dig_kv ha.1) (dig_kv hb.1) e)
theorem nlC_ok {a b : S60} (ha : keyS a = a) (hb : keyS b = b) : nlC a b = lx (kv a) (kv b) := by unfold nlC; rw [ha, hb]
theorem rkS_lt {a b : S60} (ha : okS a) (hb : okS b) : nlC a b < 0 ↔ rkS a < rkS b := by rw [nlC_ok ha.2 hb.2]; exact (nm_lx (by rw [kv_len, kv_len]) (dig_kv ha.1) (dig_kv hb.1)).symm
end Go.Proofs.Ythcohphflhkceaa.Abs
