/- Keys of tables: their cells, their ranks, and that they are compared by their ranks. -/
import Derived.Test.YtoimfchhmocgeaaAuto
import Derived.Test.YtoimfchhmocgeaaSep16
import Derived.Test.YtoimfchhmocgeaaStr
namespace Go.Proofs.Ytoimfchhmocgeaa.Abs
open Go
set_option linter.unusedVariables false
structure Kk where
  bd : Int
  mac : Int
def enK (x : Kk) : List Value := [.int .i64 x.bd, .int .u64 x.mac]
theorem enK_len (x : Kk) : (enK x).length = 2 := rfl
theorem enK_one (x : Kk) : (enK x).all Value.oneCell' = true := rfl
def rkK (x : Kk) : Int := x.bd * 18446744073709551616 + x.mac
def okK (x : Kk) : Prop := (-9223372036854775808 ≤ x.bd ∧ x.bd ≤ 9223372036854775807) ∧ (0 ≤ x.mac ∧ x.mac ≤ 18446744073709551615)
end Go.Proofs.Ytoimfchhmocgeaa.Abs

/- Keys of tables are compared by their ranks. -/
namespace Go.Proofs.Ytoimfchhmocgeaa.Abs
open Go
set_option linter.unusedVariables false
def cmpI (a b : Int) : Int := if a < b then -1 else if a > b then 1 else 0
section
variable {B0 : Nat} {old : Nat → Option (List Value)} {n : Nat} {H Hs : Hp} {Q : Value → Hp → Prop}
set_option maxRecDepth 10000
set_option maxHeartbeats 4000000
theorem nan84_ct (a : Int) (h : Q (.bool false) H) : CallT (cx B0 old) (acall (cx B0 old) ansP (n + 1)) 84 [.int .i64 a] H Q := by
  refine call_in1 6 rfl Try.func84 rfl rfl ?_
  repeat (first | refine Z0 ?_ | (refine ZR ?_; first | refine x1 ?_ | refine x2 ?_ | refine x8 ?_ | refine Z1 ?_ | refine Z2 ?_ | refine x3 fun _ => ?_ | refine x4 fun _ => ?_ | refine x5 fun _ => ?_ | refine Z3 fun _ => ?_ | refine Z4 fun _ => ?_) | refine ZC ?_)
  rw [show (a != a) = false by simp]
  exact re_1 rfl rfl (List.Sublist.refl _) h
theorem nan85_ct (a : Int) (h : Q (.bool false) H) : CallT (cx B0 old) (acall (cx B0 old) ansP (n + 1)) 85 [.int .u64 a] H Q := by
  refine call_in1 6 rfl Try.func85 rfl rfl ?_
  repeat (first | refine Z0 ?_ | (refine ZR ?_; first | refine x1 ?_ | refine x2 ?_ | refine x8 ?_ | refine Z1 ?_ | refine Z2 ?_ | refine x3 fun _ => ?_ | refine x4 fun _ => ?_ | refine x5 fun _ => ?_ | refine Z3 fun _ => ?_ | refine Z4 fun _ => ?_) | refine ZC ?_)
  rw [show (a != a) = false by simp]
  exact re_1 rfl rfl (List.Sublist.refl _) h
theorem cmp78_ct (a b : Int) (h : Q (.int .i64 (cmpI a b)) H) : CallT (cx B0 old) (acall (cx B0 old) ansP (n + 2)) 78 [.int .i64 a, .int .i64 b] H Q := by
  refine call_in2 20 rfl Try.func78 rfl rfl ?_
  repeat (first | refine Z0 ?_ | (refine ZR ?_; first | refine x1 ?_ | refine x2 ?_ | refine x8 ?_ | refine Z1 ?_ | refine Z2 ?_ | refine x3 fun _ => ?_ | refine x4 fun _ => ?_ | refine x5 fun _ => ?_ | refine Z3 fun _ => ?_ | refine Z4 fun _ => ?_) | refine ZC ?_)
  refine rt_step rfl rfl rfl (st_call rfl rfl rfl rfl (nan84_ct a ?_))
  repeat (first | refine Z0 ?_ | (refine ZR ?_; first | refine x1 ?_ | refine x2 ?_ | refine x8 ?_ | refine Z1 ?_ | refine Z2 ?_ | refine x3 fun _ => ?_ | refine x4 fun _ => ?_ | refine x5 fun _ => ?_ | refine Z3 fun _ => ?_ | refine Z4 fun _ => ?_) | refine ZC ?_)
  refine rt_step rfl rfl rfl (st_call rfl rfl rfl rfl (nan84_ct b ?_))
  repeat (first | refine Z0 ?_ | (refine ZR ?_; first | refine x1 ?_ | refine x2 ?_ | refine x8 ?_ | refine Z1 ?_ | refine Z2 ?_ | refine x3 fun _ => ?_ | refine x4 fun _ => ?_ | refine x5 fun _ => ?_ | refine Z3 fun _ => ?_ | refine Z4 fun _ => ?_) | refine ZC ?_)
  unfold cmpI at h
  refine ct_condT te_d rfl (fun hc => ?_) (fun hc => ?_)
  · repeat (first | refine Z0 ?_ | (refine ZR ?_; first | refine x1 ?_ | refine x2 ?_ | refine x8 ?_ | refine Z1 ?_ | refine Z2 ?_ | refine x3 fun _ => ?_ | refine x4 fun _ => ?_ | refine x5 fun _ => ?_ | refine Z3 fun _ => ?_ | refine Z4 fun _ => ?_) | refine ZC ?_)
    rw [if_pos hc] at h
    exact re_1 rfl rfl (List.Sublist.refl _) h
  repeat (first | refine Z0 ?_ | (refine ZR ?_; first | refine x1 ?_ | refine x2 ?_ | refine x8 ?_ | refine Z1 ?_ | refine Z2 ?_ | refine x3 fun _ => ?_ | refine x4 fun _ => ?_ | refine x5 fun _ => ?_ | refine Z3 fun _ => ?_ | refine Z4 fun _ => ?_) | refine ZC ?_)
  refine ct_condT te_d rfl (fun hd => ?_) (fun hd => ?_)
  · repeat (first | refine Z0 ?_ | (refine ZR ?_; first | refine x1 ?_ | refine x2 ?_ | refine x8 ?_ | refine Z1 ?_ | refine Z2 ?_ | refine x3 fun _ => ?_ | refine x4 fun _ => ?_ | refine x5 fun _ => ?_ | refine Z3 fun _ => ?_ | refine Z4 fun _ => ?_) | refine ZC ?_)
    rw [if_neg hc, if_pos hd] at h
    exact re_1 rfl rfl (List.Sublist.refl _) h
  · repeat (first | refine Z0 ?_ | (refine ZR ?_; first | refine x1 ?_ | refine x2 ?_ | refine x8 ?_ | refine Z1 ?_ | refine Z2 ?_ | refine x3 fun _ => ?_ | refine x4 fun _ => ?_ | refine x5 fun _ => ?_ | refine Z3 fun _ => ?_ | refine Z4 fun _ => ?_) | refine ZC ?_)
    rw [if_neg hc, if_neg hd] at h
    exact re_1 rfl rfl (List.Sublist.refl _) h
theorem cmp79_ct (a b : Int) (h : Q (.int .i64 (cmpI a b)) H) : CallT (cx B0 old) (acall (cx B0 old) ansP (n + 2)) 79 [.int .u64 a, .int .u64 b] H Q := by
  refine call_in2 20 rfl Try.func79 rfl rfl ?_
  repeat (first | refine Z0 ?_ | (refine ZR ?_; first | refine x1 ?_ | refine x2 ?_ | refine x8 ?_ | refine Z1 ?_ | refine Z2 ?_ | refine x3 fun _ => ?_ | refine x4 fun _ => ?_ | refine x5 fun _ => ?_ | refine Z3 fun _ => ?_ | refine Z4 fun _ => ?_) | refine ZC ?_)
  refine rt_step rfl rfl rfl (st_call rfl rfl rfl rfl (nan85_ct a ?_))
  repeat (first | refine Z0 ?_ | (refine ZR ?_; first | refine x1 ?_ | refine x2 ?_ | refine x8 ?_ | refine Z1 ?_ | refine Z2 ?_ | refine x3 fun _ => ?_ | refine x4 fun _ => ?_ | refine x5 fun _ => ?_ | refine Z3 fun _ => ?_ | refine Z4 fun _ => ?_) | refine ZC ?_)
  refine rt_step rfl rfl rfl (st_call rfl rfl rfl rfl (nan85_ct b ?_))
  repeat (first | refine Z0 ?_ | (refine ZR ?_; first | refine x1 ?_ | refine x2 ?_ | refine x8 ?_ | refine Z1 ?_ | refine Z2 ?_ | refine x3 fun _ => ?_ | refine x4 fun _ => ?_ | refine x5 fun _ => ?_ | refine Z3 fun _ => ?_ | refine Z4 fun _ => ?_) | refine ZC ?_)
  unfold cmpI at h
  refine ct_condT te_d rfl (fun hc => ?_) (fun hc => ?_)
  · repeat (first | refine Z0 ?_ | (refine ZR ?_; first | refine x1 ?_ | refine x2 ?_ | refine x8 ?_ | refine Z1 ?_ | refine Z2 ?_ | refine x3 fun _ => ?_ | refine x4 fun _ => ?_ | refine x5 fun _ => ?_ | refine Z3 fun _ => ?_ | refine Z4 fun _ => ?_) | refine ZC ?_)
    rw [if_pos hc] at h
    exact re_1 rfl rfl (List.Sublist.refl _) h
  repeat (first | refine Z0 ?_ | (refine ZR ?_; first | refine x1 ?_ | refine x2 ?_ | refine x8 ?_ | refine Z1 ?_ | refine Z2 ?_ | refine x3 fun _ => ?_ | refine x4 fun _ => ?_ | refine x5 fun _ => ?_ | refine Z3 fun _ => ?_ | refine Z4 fun _ => ?_) | refine ZC ?_)
  refine ct_condT te_d rfl (fun hd => ?_) (fun hd => ?_)
  · repeat (first | refine Z0 ?_ | (refine ZR ?_; first | refine x1 ?_ | refine x2 ?_ | refine x8 ?_ | refine Z1 ?_ | refine Z2 ?_ | refine x3 fun _ => ?_ | refine x4 fun _ => ?_ | refine x5 fun _ => ?_ | refine Z3 fun _ => ?_ | refine Z4 fun _ => ?_) | refine ZC ?_)
    rw [if_neg hc, if_pos hd] at h
    exact re_1 rfl rfl (List.Sublist.refl _) h
  · repeat (first | refine Z0 ?_ | (refine ZR ?_; first | refine x1 ?_ | refine x2 ?_ | refine x8 ?_ | refine Z1 ?_ | refine Z2 ?_ | refine x3 fun _ => ?_ | refine x4 fun _ => ?_ | refine x5 fun _ => ?_ | refine Z3 fun _ => ?_ | refine Z4 fun _ => ?_) | refine ZC ?_)
    rw [if_neg hc, if_neg hd] at h
    exact re_1 rfl rfl (List.Sublist.refl _) h
theorem or77_ct {bs : Nat} (a b : Int) (h : Q (.int .i64 (if a ≠ 0 then a else b)) ((bs, .row [.int .i64 a, .int .i64 b] 1 false) :: H)) :
    CallT (cx B0 old) (acall (cx B0 old) ansP (n + 1)) 77 [.slice (some ⟨bs, 0, none⟩) 2 2] ((bs, .row [.int .i64 a, .int .i64 b] 1 false) :: H) Q := by
  refine call_in1 18 rfl Try.func77 rfl rfl ?_
  repeat (first | refine Z0 ?_ | (refine ZR ?_; first | refine x1 ?_ | refine x2 ?_ | refine x8 ?_ | refine Z1 ?_ | refine Z2 ?_ | refine x3 fun _ => ?_ | refine x4 fun _ => ?_ | refine x5 fun _ => ?_ | refine Z3 fun _ => ?_ | refine Z4 fun _ => ?_) | refine ZC ?_)
  refine ct_loop 3 (lt_step ?_)
  repeat (first | refine Z0 ?_ | (refine ZR ?_; first | refine x1 ?_ | refine x2 ?_ | refine x8 ?_ | refine Z1 ?_ | refine Z2 ?_ | refine x3 fun _ => ?_ | refine x4 fun _ => ?_ | refine x5 fun _ => ?_ | refine Z3 fun _ => ?_ | refine Z4 fun _ => ?_) | refine ZC ?_)
  refine ct_condT te_ne rfl (fun hc => ?_) (fun hc => ?_)
  · repeat (first | refine Z0 ?_ | (refine ZR ?_; first | refine x1 ?_ | refine x2 ?_ | refine x8 ?_ | refine Z1 ?_ | refine Z2 ?_ | refine x3 fun _ => ?_ | refine x4 fun _ => ?_ | refine x5 fun _ => ?_ | refine Z3 fun _ => ?_ | refine Z4 fun _ => ?_) | refine ZC ?_)
    rw [if_pos hc] at h
    exact re_1 rfl rfl (List.Sublist.refl _) h
  rw [if_neg (fun g => g hc)] at h
  repeat (first | refine Z0 ?_ | (refine ZR ?_; first | refine x1 ?_ | refine x2 ?_ | refine x8 ?_ | refine Z1 ?_ | refine Z2 ?_ | refine x3 fun _ => ?_ | refine x4 fun _ => ?_ | refine x5 fun _ => ?_ | refine Z3 fun _ => ?_ | refine Z4 fun _ => ?_) | refine ZC ?_)
  refine ct_condT te_ne rfl (fun hd => ?_) (fun hd => ?_)
  · repeat (first | refine Z0 ?_ | (refine ZR ?_; first | refine x1 ?_ | refine x2 ?_ | refine x8 ?_ | refine Z1 ?_ | refine Z2 ?_ | refine x3 fun _ => ?_ | refine x4 fun _ => ?_ | refine x5 fun _ => ?_ | refine Z3 fun _ => ?_ | refine Z4 fun _ => ?_) | refine ZC ?_)
    exact re_1 rfl rfl (List.Sublist.refl _) h
  · repeat (first | refine Z0 ?_ | (refine ZR ?_; first | refine x1 ?_ | refine x2 ?_ | refine x8 ?_ | refine Z1 ?_ | refine Z2 ?_ | refine x3 fun _ => ?_ | refine x4 fun _ => ?_ | refine x5 fun _ => ?_ | refine Z3 fun _ => ?_ | refine Z4 fun _ => ?_) | refine ZC ?_)
    subst hd
    exact re_1 rfl rfl (List.Sublist.refl _) h
theorem key64_ct (x y : Kk) (hx : okK x) (hy : okK y) (h : ∀ z : Int, (z < 0 ↔ rkK x < rkK y) → Q (.int .i64 z) H) : CallT (cx B0 old) (acall (cx B0 old) ansP (n + 3)) 64 [.agg ⟨enK x⟩, .agg ⟨enK y⟩] H Q := by
  refine call_in2 17 rfl Try.func64 rfl rfl ?_
  have hz := h (if cmpI x.bd y.bd ≠ 0 then cmpI x.bd y.bd else cmpI x.mac y.mac) (by
    unfold okK at hx hy
    unfold cmpI rkK
    split <;> (repeat' split) <;> (try split at *) <;> omega)
  clear h
  unfold enK
  repeat (first | refine Z0 ?_ | (refine ZR ?_; first | refine x1 ?_ | refine x2 ?_ | refine x8 ?_ | refine Z1 ?_ | refine Z2 ?_ | refine x3 fun _ => ?_ | refine x4 fun _ => ?_ | refine x5 fun _ => ?_ | refine Z3 fun _ => ?_ | refine Z4 fun _ => ?_) | refine ZC ?_)
  refine ct_draw (masks := [0, 1, 0, 4, 15, 0, 32, 0, 128, 511, 1023, 2047, 4095]) (plan := [0, 1, 2, 3, 5, 6, 7, 8, 4, 9, 10, 11, 12]) (E := []) (by kernel_rfl) (by kernel_rfl) (by kernel_rfl) (by kernel_rfl) ?_
  repeat (first | refine Y0 ?_ | (refine YP ?_; first | refine y1 ?_ | refine y2 ?_ | refine Y1 ?_ | refine Y2 ?_))
  refine pl_S rfl rfl rfl rfl rfl rfl (st_call rfl rfl rfl rfl (cmp78_ct x.bd y.bd ⟨by exact rec_auto, ?_⟩))
  repeat (first | refine Y0 ?_ | (refine YP ?_; first | refine y1 ?_ | refine y2 ?_ | refine Y1 ?_ | refine Y2 ?_))
  refine pl_S rfl rfl rfl rfl rfl rfl (st_call rfl rfl rfl rfl (cmp79_ct x.mac y.mac ⟨by exact rec_auto, ?_⟩))
  repeat (first | refine Y0 ?_ | (refine YP ?_; first | refine y1 ?_ | refine y2 ?_ | refine Y1 ?_ | refine Y2 ?_))
  refine pl_S rfl rfl rfl rfl rfl rfl (st_buildSlice rfl (zr rfl) rfl rfl rfl rfl rfl rfl fun bs => ⟨by exact rec_auto, ?_⟩)
  repeat (first | refine Y0 ?_ | (refine YP ?_; first | refine y1 ?_ | refine y2 ?_ | refine Y1 ?_ | refine Y2 ?_))
  refine pl_S rfl rfl rfl rfl rfl rfl (st_call rfl rfl rfl rfl (or77_ct (cmpI x.bd y.bd) (cmpI x.mac y.mac) ⟨by exact rec_auto, ?_⟩))
  repeat (first | refine Y0 ?_ | (refine YP ?_; first | refine y1 ?_ | refine y2 ?_ | refine Y1 ?_ | refine Y2 ?_))
  repeat (first | refine Z0 ?_ | (refine ZR ?_; first | refine x1 ?_ | refine x2 ?_ | refine x8 ?_ | refine Z1 ?_ | refine Z2 ?_ | refine x3 fun _ => ?_ | refine x4 fun _ => ?_ | refine x5 fun _ => ?_ | refine Z3 fun _ => ?_ | refine Z4 fun _ => ?_) | refine ZC ?_)
  exact re_1 rfl rfl (by exact drop_auto) hz
theorem keyCmp : CmpT (cx B0 old) enK rkK okK (.func (.func 64) #[] #[]) := ⟨64, #[], #[], rfl, rfl, fun n x y H Q hx hy h => key64_ct (n := n + 3) x y hx hy h⟩
end
end Go.Proofs.Ytoimfchhmocgeaa.Abs
