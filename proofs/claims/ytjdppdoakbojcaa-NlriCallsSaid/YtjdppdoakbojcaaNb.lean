/- Contracts: why a frame is not valid: the whole check. -/
import Derived.Test.YtjdppdoakbojcaaNa
namespace Go.Proofs.Ytjdppdoakbojcaa.Abs
open Go
set_option linter.unusedVariables false
theorem leaf0 {k k' : IntKind} {a b : Int} : leafEq (.int k a) (.int k' b) = (a == b) := rfl
section
variable {s : S31}
abbrev arpV (s : S31) : List Value := [.int .i64 s.a3, .int .u64 s.a4, .int .u32 s.a5, .int .u64 s.a6, .int .u32 s.a7]
abbrev ipV (s : S31) : List Value := [.int .u32 s.a8, .int .u32 s.a9, .int .i64 s.a10, .int .i64 s.a11, .int .i64 s.a12, .int .i64 s.a13]
theorem arpZ : leafsEq (arpV s) [.int .i64 0, .int .u64 0, .int .u32 0, .int .u64 0, .int .u32 0] = decide (noArp s) := by
  rw [Bool.eq_iff_iff]
  simp only [decide_eq_true_eq]
  simp [leafsEq, leaf0, noArp]
theorem arpT (h : leafsEq (arpV s) [.int .i64 0, .int .u64 0, .int .u32 0, .int .u64 0, .int .u32 0] = true) : noArp s := by rw [arpZ] at h; exact of_decide_eq_true h
theorem arpN (h : leafsEq (arpV s) [.int .i64 0, .int .u64 0, .int .u32 0, .int .u64 0, .int .u32 0] = false) : ¬ noArp s := by rw [arpZ] at h; exact of_decide_eq_false h
theorem ipZ : leafsEq (ipV s) [.int .u32 0, .int .u32 0, .int .i64 0, .int .i64 0, .int .i64 0, .int .i64 0] = decide (noIp s) := by
  rw [Bool.eq_iff_iff]
  simp only [decide_eq_true_eq]
  simp [leafsEq, leaf0, noIp]
theorem ipT (h : leafsEq (ipV s) [.int .u32 0, .int .u32 0, .int .i64 0, .int .i64 0, .int .i64 0, .int .i64 0] = true) : noIp s := by rw [ipZ] at h; exact of_decide_eq_true h
theorem ipN (h : leafsEq (ipV s) [.int .u32 0, .int .u32 0, .int .i64 0, .int .i64 0, .int .i64 0, .int .i64 0] = false) : ¬ noIp s := by rw [ipZ] at h; exact of_decide_eq_false h
theorem pkC_mac (h : (s.a0 > 281474976710655 ∨ s.a1 > 281474976710655)) : pkC s = 2 := if_pos h
theorem pkC_mc (h : ¬ (s.a0 > 281474976710655 ∨ s.a1 > 281474976710655)) (h2 : mcast s.a0 = true) : pkC s = 3 := by unfold pkC; rw [if_neg h, if_pos h2]
section
variable (h : ¬ (s.a0 > 281474976710655 ∨ s.a1 > 281474976710655)) (h2 : mcast s.a0 = false)
include h h2
theorem pkC_kind (h3 : (s.a2 ≠ 0 ∧ s.a2 ≠ 1 ∧ s.a2 ≠ 2)) : pkC s = 6 := by unfold pkC; rw [if_neg h, if_neg (by rw [h2]; decide), if_pos h3]
theorem pkC_form (h3 : ¬ (s.a2 ≠ 0 ∧ s.a2 ≠ 1 ∧ s.a2 ≠ 2)) (h4 : ((s.a2 ≠ 1 ∧ ¬ noArp s) ∨ (s.a2 ≠ 2 ∧ ¬ noIp s))) : pkC s = 3 := by unfold pkC; rw [if_neg h, if_neg (by rw [h2]; decide), if_neg h3, if_pos h4]
theorem pkC_a2 (h4 : ¬ ((s.a2 ≠ 1 ∧ ¬ noArp s) ∨ (s.a2 ≠ 2 ∧ ¬ noIp s))) (h5 : s.a2 = 1) (h6 : (s.a3 < 1 ∨ s.a3 > 2 ∨ s.a4 > 281474976710655 ∨ s.a6 > 281474976710655)) : pkC s = 2 := by unfold pkC; rw [if_neg h, if_neg (by rw [h2]; decide), if_neg (by omega), if_neg h4, if_pos ⟨h5, h6⟩]
theorem pkC_a0 (h4 : ¬ ((s.a2 ≠ 1 ∧ ¬ noArp s) ∨ (s.a2 ≠ 2 ∧ ¬ noIp s))) (h5 : s.a2 = 1) (h6 : ¬ (s.a3 < 1 ∨ s.a3 > 2 ∨ s.a4 > 281474976710655 ∨ s.a6 > 281474976710655)) : pkC s = 0 := by unfold pkC; rw [if_neg h, if_neg (by rw [h2]; decide), if_neg (by omega), if_neg h4, if_neg (fun g => h6 g.2), if_neg (by omega), if_neg (by omega)]
theorem pkC_i2 (h4 : ¬ ((s.a2 ≠ 1 ∧ ¬ noArp s) ∨ (s.a2 ≠ 2 ∧ ¬ noIp s))) (h5 : s.a2 = 2) (h6 : (s.a10 < 0 ∨ s.a10 > 255 ∨ s.a11 < 0 ∨ s.a11 > 255 ∨ s.a12 < 0 ∨ s.a12 > 65535 ∨ s.a13 < 0 ∨ s.a13 > 65535)) : pkC s = 2 := by unfold pkC; rw [if_neg h, if_neg (by rw [h2]; decide), if_neg (by omega), if_neg h4, if_neg (by omega), if_pos ⟨h5, h6⟩]
theorem pkC_i3 (h4 : ¬ ((s.a2 ≠ 1 ∧ ¬ noArp s) ∨ (s.a2 ≠ 2 ∧ ¬ noIp s))) (h5 : s.a2 = 2) (h6 : ¬ (s.a10 < 0 ∨ s.a10 > 255 ∨ s.a11 < 0 ∨ s.a11 > 255 ∨ s.a12 < 0 ∨ s.a12 > 65535 ∨ s.a13 < 0 ∨ s.a13 > 65535)) (h7 : (ported s.a11 = false ∧ (s.a12 ≠ 0 ∨ s.a13 ≠ 0))) : pkC s = 3 := by unfold pkC; rw [if_neg h, if_neg (by rw [h2]; decide), if_neg (by omega), if_neg h4, if_neg (by omega), if_neg (fun g => h6 g.2), if_pos ⟨h5, h7⟩]
theorem pkC_i0 (h4 : ¬ ((s.a2 ≠ 1 ∧ ¬ noArp s) ∨ (s.a2 ≠ 2 ∧ ¬ noIp s))) (h5 : s.a2 = 2) (h6 : ¬ (s.a10 < 0 ∨ s.a10 > 255 ∨ s.a11 < 0 ∨ s.a11 > 255 ∨ s.a12 < 0 ∨ s.a12 > 65535 ∨ s.a13 < 0 ∨ s.a13 > 65535)) (h7 : ¬ (ported s.a11 = false ∧ (s.a12 ≠ 0 ∨ s.a13 ≠ 0))) : pkC s = 0 := by unfold pkC; rw [if_neg h, if_neg (by rw [h2]; decide), if_neg (by omega), if_neg h4, if_neg (by omega), if_neg (fun g => h6 g.2), if_neg (fun g => h7 g.2)]
theorem pkC_d0 (h4 : ¬ ((s.a2 ≠ 1 ∧ ¬ noArp s) ∨ (s.a2 ≠ 2 ∧ ¬ noIp s))) (h5 : s.a2 = 0) : pkC s = 0 := by unfold pkC; rw [if_neg h, if_neg (by rw [h2]; decide), if_neg (by omega), if_neg h4, if_neg (by omega), if_neg (by omega), if_neg (by omega)]
end
end
section
variable {B0 : Nat} {old : Nat → Option (List Value)} {n : Nat} {H Hs : Hp} {Q : Value → Hp → Prop}
set_option maxRecDepth 10000
set_option maxHeartbeats 4000000
theorem check55_ct (s : S31) (hw : s.wf) (hQ : Q (.int .i64 (pkC s)) H) : CallT (cx B0 old) (acall (cx B0 old) ansP (n + 3)) 55 [.agg ⟨en31 s⟩] H Q := by
  have hw' := hw
  unfold S31.wf at hw'
  refine call_in1 59 rfl Try.func55 rfl rfl ?_
  unfold en31
  repeat' (first | (first | refine rt_nil ?_ | (refine isRun ?_; first | refine x1 ?_ | refine x2 ?_ | refine x3 fun _ => ?_ | refine x4 fun _ => ?_ | refine x5 fun _ => ?_ | (refine rt_step rfl rfl rfl ?_; first | refine st_buildSlice rfl (zr rfl) rfl rfl rfl rfl rfl rfl fun _ => ?_ | refine st_A rfl rfl (fun _ => rfl) rfl fun _ => ?_) | refine x8 ?_ | refine rt_skip rfl rfl rfl ?_ | refine rt_skip0 rfl rfl ?_)) | (first | refine sq_n ?_ | refine sq_r ?_ | refine sq_e ?_ | refine bk_n ?_ | refine bk_r ?_ | refine bk_e rfl ?_ | refine bk_x rfl ?_ | refine ct_seq ?_ | refine ct_region rfl ?_ | refine ct_skip ?_ | refine ct_label ?_ | refine ct_block ?_ | refine ct_exit ?_ | refine ct_ret ?_ | refine ct_scope ?_ | refine ct_true rfl ?_ | refine ct_false rfl ?_ | refine lt_step ?_) | (first | refine pl_nil ?_ | (refine isPlan ?_; first | refine y1 ?_ | refine y2 ?_ | refine pl_skip rfl rfl rfl rfl rfl ?_ | refine pl_skip0 rfl rfl rfl rfl ?_)) | (refine isPlan ?_; refine y3 ?_) | (first | (refine isRun ?_; refine z1 (fun hc => ?_) (fun hc => ?_)) | refine z2 (fun hc => ?_) (fun hc => ?_) | (refine isPlan ?_; refine z3 (fun hc => ?_) (fun hc => ?_))))
  all_goals first | exact re_1 (H' := H) rfl rfl (by exact drop_auto) (by rwa [pkC_mac (by omega)] at hQ) | skip
  refine rt_step rfl rfl rfl (st_call rfl rfl rfl rfl (mc96_ct s.a0 (by omega) (by omega) ?_))
  have hm : ¬ (s.a0 > 281474976710655 ∨ s.a1 > 281474976710655) := by omega
  cases hmc : mcast s.a0 with
  | true => 
    repeat (first | (first | refine rt_nil ?_ | (refine isRun ?_; first | refine x1 ?_ | refine x2 ?_ | refine x3 fun _ => ?_ | refine x4 fun _ => ?_ | refine x5 fun _ => ?_ | (refine rt_step rfl rfl rfl ?_; first | refine st_buildSlice rfl (zr rfl) rfl rfl rfl rfl rfl rfl fun _ => ?_ | refine st_A rfl rfl (fun _ => rfl) rfl fun _ => ?_) | refine x8 ?_ | refine rt_skip rfl rfl rfl ?_ | refine rt_skip0 rfl rfl ?_)) | (first | refine sq_n ?_ | refine sq_r ?_ | refine sq_e ?_ | refine bk_n ?_ | refine bk_r ?_ | refine bk_e rfl ?_ | refine bk_x rfl ?_ | refine ct_seq ?_ | refine ct_region rfl ?_ | refine ct_skip ?_ | refine ct_label ?_ | refine ct_block ?_ | refine ct_exit ?_ | refine ct_ret ?_ | refine ct_scope ?_ | refine ct_true rfl ?_ | refine ct_false rfl ?_ | refine lt_step ?_))
    exact re_1 (H' := H) rfl rfl (by exact drop_auto) (by rwa [pkC_mc hm hmc] at hQ)
  | false =>
    clear hw hw'
    repeat' (first | (first | refine rt_nil ?_ | (refine isRun ?_; first | refine x1 ?_ | refine x2 ?_ | refine x3 fun _ => ?_ | refine x4 fun _ => ?_ | refine x5 fun _ => ?_ | (refine rt_step rfl rfl rfl ?_; first | refine st_buildSlice rfl (zr rfl) rfl rfl rfl rfl rfl rfl fun _ => ?_ | refine st_A rfl rfl (fun _ => rfl) rfl fun _ => ?_) | refine x8 ?_ | refine rt_skip rfl rfl rfl ?_ | refine rt_skip0 rfl rfl ?_)) | (first | refine sq_n ?_ | refine sq_r ?_ | refine sq_e ?_ | refine bk_n ?_ | refine bk_r ?_ | refine bk_e rfl ?_ | refine bk_x rfl ?_ | refine ct_seq ?_ | refine ct_region rfl ?_ | refine ct_skip ?_ | refine ct_label ?_ | refine ct_block ?_ | refine ct_exit ?_ | refine ct_ret ?_ | refine ct_scope ?_ | refine ct_true rfl ?_ | refine ct_false rfl ?_ | refine lt_step ?_) | (first | refine pl_nil ?_ | (refine isPlan ?_; first | refine y1 ?_ | refine y2 ?_ | refine pl_skip rfl rfl rfl rfl rfl ?_ | refine pl_skip0 rfl rfl rfl rfl ?_)) | (refine isPlan ?_; refine y3 ?_) | (first | (refine isRun ?_; refine z1 (fun hc => ?_) (fun hc => ?_)) | refine z2 (fun hc => ?_) (fun hc => ?_) | (refine isPlan ?_; refine z3 (fun hc => ?_) (fun hc => ?_))))
    all_goals first | exact re_1 (H' := H) rfl rfl (by exact drop_auto) (by rwa [pkC_kind hm hmc (by omega)] at hQ) | skip
    all_goals try (exfalso; omega)
    all_goals first | exact re_1 (H' := H) rfl rfl (by exact drop_auto) (by rwa [pkC_form hm hmc (by omega) (.inl ⟨by omega, arpN (by assumption)⟩)] at hQ) | exact re_1 (H' := H) rfl rfl (by exact drop_auto) (by rwa [pkC_form hm hmc (by omega) (.inr ⟨by omega, ipN (by assumption)⟩)] at hQ) | skip
    all_goals have hform : ¬ ((s.a2 ≠ 1 ∧ ¬ noArp s) ∨ (s.a2 ≠ 2 ∧ ¬ noIp s)) := (by rintro (⟨h1, h2⟩ | ⟨h1, h2⟩) <;> first | omega | exact h2 (arpT (by assumption)) | exact h2 (ipT (by assumption)))
    all_goals first
      | exact re_1 (H' := H) rfl rfl (by exact drop_auto) (by rwa [pkC_d0 hm hmc hform (by omega)] at hQ)
      | (refine rt_step rfl rfl rfl (st_call rfl rfl rfl rfl (arp97_ct s.a3 s.a4 s.a5 s.a6 s.a7 (fun hb => ?_) (fun hb => ?_)))
         · repeat (first | (first | refine rt_nil ?_ | (refine isRun ?_; first | refine x1 ?_ | refine x2 ?_ | refine x3 fun _ => ?_ | refine x4 fun _ => ?_ | refine x5 fun _ => ?_ | (refine rt_step rfl rfl rfl ?_; first | refine st_buildSlice rfl (zr rfl) rfl rfl rfl rfl rfl rfl fun _ => ?_ | refine st_A rfl rfl (fun _ => rfl) rfl fun _ => ?_) | refine x8 ?_ | refine rt_skip rfl rfl rfl ?_ | refine rt_skip0 rfl rfl ?_)) | (first | refine sq_n ?_ | refine sq_r ?_ | refine sq_e ?_ | refine bk_n ?_ | refine bk_r ?_ | refine bk_e rfl ?_ | refine bk_x rfl ?_ | refine ct_seq ?_ | refine ct_region rfl ?_ | refine ct_skip ?_ | refine ct_label ?_ | refine ct_block ?_ | refine ct_exit ?_ | refine ct_ret ?_ | refine ct_scope ?_ | refine ct_true rfl ?_ | refine ct_false rfl ?_ | refine lt_step ?_))
           exact re_1 (H' := H) rfl rfl (by exact drop_auto) (by rwa [pkC_a2 hm hmc hform (by omega) hb] at hQ)
         · repeat (first | (first | refine rt_nil ?_ | (refine isRun ?_; first | refine x1 ?_ | refine x2 ?_ | refine x3 fun _ => ?_ | refine x4 fun _ => ?_ | refine x5 fun _ => ?_ | (refine rt_step rfl rfl rfl ?_; first | refine st_buildSlice rfl (zr rfl) rfl rfl rfl rfl rfl rfl fun _ => ?_ | refine st_A rfl rfl (fun _ => rfl) rfl fun _ => ?_) | refine x8 ?_ | refine rt_skip rfl rfl rfl ?_ | refine rt_skip0 rfl rfl ?_)) | (first | refine sq_n ?_ | refine sq_r ?_ | refine sq_e ?_ | refine bk_n ?_ | refine bk_r ?_ | refine bk_e rfl ?_ | refine bk_x rfl ?_ | refine ct_seq ?_ | refine ct_region rfl ?_ | refine ct_skip ?_ | refine ct_label ?_ | refine ct_block ?_ | refine ct_exit ?_ | refine ct_ret ?_ | refine ct_scope ?_ | refine ct_true rfl ?_ | refine ct_false rfl ?_ | refine lt_step ?_))
           exact re_1 (H' := H) rfl rfl (by exact drop_auto) (by rwa [pkC_a0 hm hmc hform (by omega) hb] at hQ))
      | (refine rt_step rfl rfl rfl (st_call rfl rfl rfl rfl (ip98_ct s.a8 s.a9 s.a10 s.a11 s.a12 s.a13 (fun hb => ?_) (fun hb hp => ?_) (fun hb hp => ?_)))
         · repeat (first | (first | refine rt_nil ?_ | (refine isRun ?_; first | refine x1 ?_ | refine x2 ?_ | refine x3 fun _ => ?_ | refine x4 fun _ => ?_ | refine x5 fun _ => ?_ | (refine rt_step rfl rfl rfl ?_; first | refine st_buildSlice rfl (zr rfl) rfl rfl rfl rfl rfl rfl fun _ => ?_ | refine st_A rfl rfl (fun _ => rfl) rfl fun _ => ?_) | refine x8 ?_ | refine rt_skip rfl rfl rfl ?_ | refine rt_skip0 rfl rfl ?_)) | (first | refine sq_n ?_ | refine sq_r ?_ | refine sq_e ?_ | refine bk_n ?_ | refine bk_r ?_ | refine bk_e rfl ?_ | refine bk_x rfl ?_ | refine ct_seq ?_ | refine ct_region rfl ?_ | refine ct_skip ?_ | refine ct_label ?_ | refine ct_block ?_ | refine ct_exit ?_ | refine ct_ret ?_ | refine ct_scope ?_ | refine ct_true rfl ?_ | refine ct_false rfl ?_ | refine lt_step ?_))
           exact re_1 (H' := H) rfl rfl (by exact drop_auto) (by rwa [pkC_i2 hm hmc hform (by omega) hb] at hQ)
         · repeat (first | (first | refine rt_nil ?_ | (refine isRun ?_; first | refine x1 ?_ | refine x2 ?_ | refine x3 fun _ => ?_ | refine x4 fun _ => ?_ | refine x5 fun _ => ?_ | (refine rt_step rfl rfl rfl ?_; first | refine st_buildSlice rfl (zr rfl) rfl rfl rfl rfl rfl rfl fun _ => ?_ | refine st_A rfl rfl (fun _ => rfl) rfl fun _ => ?_) | refine x8 ?_ | refine rt_skip rfl rfl rfl ?_ | refine rt_skip0 rfl rfl ?_)) | (first | refine sq_n ?_ | refine sq_r ?_ | refine sq_e ?_ | refine bk_n ?_ | refine bk_r ?_ | refine bk_e rfl ?_ | refine bk_x rfl ?_ | refine ct_seq ?_ | refine ct_region rfl ?_ | refine ct_skip ?_ | refine ct_label ?_ | refine ct_block ?_ | refine ct_exit ?_ | refine ct_ret ?_ | refine ct_scope ?_ | refine ct_true rfl ?_ | refine ct_false rfl ?_ | refine lt_step ?_))
           exact re_1 (H' := H) rfl rfl (by exact drop_auto) (by rwa [pkC_i3 hm hmc hform (by omega) hb hp] at hQ)
         · repeat (first | (first | refine rt_nil ?_ | (refine isRun ?_; first | refine x1 ?_ | refine x2 ?_ | refine x3 fun _ => ?_ | refine x4 fun _ => ?_ | refine x5 fun _ => ?_ | (refine rt_step rfl rfl rfl ?_; first | refine st_buildSlice rfl (zr rfl) rfl rfl rfl rfl rfl rfl fun _ => ?_ | refine st_A rfl rfl (fun _ => rfl) rfl fun _ => ?_) | refine x8 ?_ | refine rt_skip rfl rfl rfl ?_ | refine rt_skip0 rfl rfl ?_)) | (first | refine sq_n ?_ | refine sq_r ?_ | refine sq_e ?_ | refine bk_n ?_ | refine bk_r ?_ | refine bk_e rfl ?_ | refine bk_x rfl ?_ | refine ct_seq ?_ | refine ct_region rfl ?_ | refine ct_skip ?_ | refine ct_label ?_ | refine ct_block ?_ | refine ct_exit ?_ | refine ct_ret ?_ | refine ct_scope ?_ | refine ct_true rfl ?_ | refine ct_false rfl ?_ | refine lt_step ?_))
           exact re_1 (H' := H) rfl rfl (by exact drop_auto) (by rwa [pkC_i0 hm hmc hform (by omega) hb hp] at hQ))
theorem check56_ct (s : S31) (hw : s.wf) (hQ : Q (.int .i64 (pkC s)) H) : CallT (cx B0 old) (acall (cx B0 old) ansP (n + 3)) 56 [.agg ⟨en31 s⟩] H Q := by
  have hw' := hw
  unfold S31.wf at hw'
  refine call_in1 126 rfl Try.func56 rfl rfl ?_
  unfold en31
  repeat (first | (first | refine rt_nil ?_ | (refine isRun ?_; first | refine x1 ?_ | refine x2 ?_ | refine x3 fun _ => ?_ | refine x4 fun _ => ?_ | refine x5 fun _ => ?_ | (refine rt_step rfl rfl rfl ?_; first | refine st_buildSlice rfl (zr rfl) rfl rfl rfl rfl rfl rfl fun _ => ?_ | refine st_A rfl rfl (fun _ => rfl) rfl fun _ => ?_) | refine x8 ?_ | refine rt_skip rfl rfl rfl ?_ | refine rt_skip0 rfl rfl ?_)) | (first | refine sq_n ?_ | refine sq_r ?_ | refine sq_e ?_ | refine bk_n ?_ | refine bk_r ?_ | refine bk_e rfl ?_ | refine bk_x rfl ?_ | refine ct_seq ?_ | refine ct_region rfl ?_ | refine ct_skip ?_ | refine ct_label ?_ | refine ct_block ?_ | refine ct_exit ?_ | refine ct_ret ?_ | refine ct_scope ?_ | refine ct_true rfl ?_ | refine ct_false rfl ?_ | refine lt_step ?_))
  refine ct_draw (masks := [0, 1, 0, 4, 0, 0, 51, 127]) (plan := [0, 1, 2, 3, 4, 5, 6, 7]) (E := [5]) (by kernel_rfl) (by kernel_rfl) (by kernel_rfl) (by kernel_rfl) ?_
  repeat (first | refine pl_nil ?_ | (refine isPlan ?_; first | refine y1 ?_ | refine y2 ?_ | refine pl_skip rfl rfl rfl rfl rfl ?_ | refine pl_skip0 rfl rfl rfl rfl ?_))
  refine pl_S' (late_has 5 rfl (made_alloc rfl rfl (zr rfl))) rfl rfl rfl rfl rfl rfl (st_alloc (zr rfl) fun b1 => ⟨by exact rec_auto, ?_⟩)
  repeat (first | refine pl_nil ?_ | (refine isPlan ?_; first | refine y1 ?_ | refine y2 ?_ | refine pl_skip rfl rfl rfl rfl rfl ?_ | refine pl_skip0 rfl rfl rfl rfl ?_))
  refine pl_S' (late_has 5 rfl (made_alloc rfl rfl (zr rfl))) rfl rfl rfl rfl rfl rfl (st_alloc (zr rfl) fun b2 => ⟨by exact rec_auto, ?_⟩)
  repeat (first | refine pl_nil ?_ | (refine isPlan ?_; first | refine y1 ?_ | refine y2 ?_ | refine pl_skip rfl rfl rfl rfl rfl ?_ | refine pl_skip0 rfl rfl rfl rfl ?_))
  refine pl_st' (late_no rfl) rfl rfl rfl rfl rfl rfl rfl rfl (by repeat (first | exact sV (sz rfl) rfl rfl | exact sW (sz rfl) rfl rfl rfl | exact sF (sz rfl) rfl rfl rfl | exact sG (sz rfl) rfl rfl | exact sM (f := vV) (sz rfl) rfl rfl (by omega) | exact sM (sz rfl) rfl rfl (by omega) | apply sS | apply sA)) (by exact rec_auto) ?_
  repeat (first | refine pl_nil ?_ | (refine isPlan ?_; first | refine y1 ?_ | refine y2 ?_ | refine pl_skip rfl rfl rfl rfl rfl ?_ | refine pl_skip0 rfl rfl rfl rfl ?_))
  refine pl_st' (late_no rfl) rfl rfl rfl rfl rfl rfl rfl rfl (by repeat (first | exact sV (sz rfl) rfl rfl | exact sW (sz rfl) rfl rfl rfl | exact sF (sz rfl) rfl rfl rfl | exact sG (sz rfl) rfl rfl | exact sM (f := vV) (sz rfl) rfl rfl (by omega) | exact sM (sz rfl) rfl rfl (by omega) | apply sS | apply sA)) (by exact rec_auto) ?_
  repeat (first | refine pl_nil ?_ | (refine isPlan ?_; first | refine y1 ?_ | refine y2 ?_ | refine pl_skip rfl rfl rfl rfl rfl ?_ | refine pl_skip0 rfl rfl rfl rfl ?_))
  repeat' (first | (first | refine rt_nil ?_ | (refine isRun ?_; first | refine x1 ?_ | refine x2 ?_ | refine x3 fun _ => ?_ | refine x4 fun _ => ?_ | refine x5 fun _ => ?_ | (refine rt_step rfl rfl rfl ?_; first | refine st_buildSlice rfl (zr rfl) rfl rfl rfl rfl rfl rfl fun _ => ?_ | refine st_A rfl rfl (fun _ => rfl) rfl fun _ => ?_) | refine x8 ?_ | refine rt_skip rfl rfl rfl ?_ | refine rt_skip0 rfl rfl ?_)) | (first | refine sq_n ?_ | refine sq_r ?_ | refine sq_e ?_ | refine bk_n ?_ | refine bk_r ?_ | refine bk_e rfl ?_ | refine bk_x rfl ?_ | refine ct_seq ?_ | refine ct_region rfl ?_ | refine ct_skip ?_ | refine ct_label ?_ | refine ct_block ?_ | refine ct_exit ?_ | refine ct_ret ?_ | refine ct_scope ?_ | refine ct_true rfl ?_ | refine ct_false rfl ?_ | refine lt_step ?_) | (first | refine pl_nil ?_ | (refine isPlan ?_; first | refine y1 ?_ | refine y2 ?_ | refine pl_skip rfl rfl rfl rfl rfl ?_ | refine pl_skip0 rfl rfl rfl rfl ?_)) | (refine isPlan ?_; refine y3 ?_) | (first | (refine isRun ?_; refine z1 (fun hc => ?_) (fun hc => ?_)) | refine z2 (fun hc => ?_) (fun hc => ?_) | (refine isPlan ?_; refine z3 (fun hc => ?_) (fun hc => ?_))))
  all_goals first | exact re_1 (H' := H) rfl rfl (by exact drop_auto) (by rwa [pkC_mac (by omega)] at hQ) | skip
  refine rt_step rfl rfl rfl (st_call rfl rfl rfl rfl (mc99_ct s.a0 (by omega) (by omega) ?_))
  have hm : ¬ (s.a0 > 281474976710655 ∨ s.a1 > 281474976710655) := by omega
  cases hmc : mcast s.a0 with
  | true => 
    repeat (first | (first | refine rt_nil ?_ | (refine isRun ?_; first | refine x1 ?_ | refine x2 ?_ | refine x3 fun _ => ?_ | refine x4 fun _ => ?_ | refine x5 fun _ => ?_ | (refine rt_step rfl rfl rfl ?_; first | refine st_buildSlice rfl (zr rfl) rfl rfl rfl rfl rfl rfl fun _ => ?_ | refine st_A rfl rfl (fun _ => rfl) rfl fun _ => ?_) | refine x8 ?_ | refine rt_skip rfl rfl rfl ?_ | refine rt_skip0 rfl rfl ?_)) | (first | refine sq_n ?_ | refine sq_r ?_ | refine sq_e ?_ | refine bk_n ?_ | refine bk_r ?_ | refine bk_e rfl ?_ | refine bk_x rfl ?_ | refine ct_seq ?_ | refine ct_region rfl ?_ | refine ct_skip ?_ | refine ct_label ?_ | refine ct_block ?_ | refine ct_exit ?_ | refine ct_ret ?_ | refine ct_scope ?_ | refine ct_true rfl ?_ | refine ct_false rfl ?_ | refine lt_step ?_))
    exact re_1 (H' := H) rfl rfl (by exact drop_auto) (by rwa [pkC_mc hm hmc] at hQ)
  | false =>
    clear hw hw'
    repeat' (first | (first | refine rt_nil ?_ | (refine isRun ?_; first | refine x1 ?_ | refine x2 ?_ | refine x3 fun _ => ?_ | refine x4 fun _ => ?_ | refine x5 fun _ => ?_ | (refine rt_step rfl rfl rfl ?_; first | refine st_buildSlice rfl (zr rfl) rfl rfl rfl rfl rfl rfl fun _ => ?_ | refine st_A rfl rfl (fun _ => rfl) rfl fun _ => ?_) | refine x8 ?_ | refine rt_skip rfl rfl rfl ?_ | refine rt_skip0 rfl rfl ?_)) | (first | refine sq_n ?_ | refine sq_r ?_ | refine sq_e ?_ | refine bk_n ?_ | refine bk_r ?_ | refine bk_e rfl ?_ | refine bk_x rfl ?_ | refine ct_seq ?_ | refine ct_region rfl ?_ | refine ct_skip ?_ | refine ct_label ?_ | refine ct_block ?_ | refine ct_exit ?_ | refine ct_ret ?_ | refine ct_scope ?_ | refine ct_true rfl ?_ | refine ct_false rfl ?_ | refine lt_step ?_) | (first | refine pl_nil ?_ | (refine isPlan ?_; first | refine y1 ?_ | refine y2 ?_ | refine pl_skip rfl rfl rfl rfl rfl ?_ | refine pl_skip0 rfl rfl rfl rfl ?_)) | (refine isPlan ?_; refine y3 ?_) | (first | (refine isRun ?_; refine z1 (fun hc => ?_) (fun hc => ?_)) | refine z2 (fun hc => ?_) (fun hc => ?_) | (refine isPlan ?_; refine z3 (fun hc => ?_) (fun hc => ?_))))
    all_goals try (exfalso; omega)
    all_goals first | exact re_1 (H' := H) rfl rfl (by exact drop_auto) (by rwa [pkC_kind hm hmc (by omega)] at hQ) | skip
    all_goals first | exact re_1 (H' := H) rfl rfl (by exact drop_auto) (by rwa [pkC_form hm hmc (by omega) (.inl ⟨by omega, arpN (by assumption)⟩)] at hQ) | exact re_1 (H' := H) rfl rfl (by exact drop_auto) (by rwa [pkC_form hm hmc (by omega) (.inr ⟨by omega, ipN (by assumption)⟩)] at hQ) | skip
    all_goals try (exfalso; first | exact arpN (by assumption) (arpT (by assumption)) | exact ipN (by assumption) (ipT (by assumption)))
    all_goals have hform : ¬ ((s.a2 ≠ 1 ∧ ¬ noArp s) ∨ (s.a2 ≠ 2 ∧ ¬ noIp s)) := (by rintro (⟨h1, h2⟩ | ⟨h1, h2⟩) <;> first | omega | exact h2 (arpT (by assumption)) | exact h2 (ipT (by assumption)))
    all_goals have hip : s.a2 = 2 ∨ noIp s := (by first | exact .inl (by omega) | exact .inr (ipT (by assumption)))
    all_goals unfold noIp at hip
    all_goals try (exfalso; omega)
    all_goals first
      | exact re_1 (H' := H) rfl rfl (by exact drop_auto) (by rwa [pkC_a2 hm hmc hform (by omega) (by omega)] at hQ)
      | exact re_1 (H' := H) rfl rfl (by exact drop_auto) (by rwa [pkC_i2 hm hmc hform (by omega) (by omega)] at hQ)
      | (refine rt_step rfl rfl rfl (st_call rfl rfl rfl rfl (ported60_ct s.a11 ?_))
         cases hp : ported s.a11 with
         | false =>
           repeat' (first | (first | refine rt_nil ?_ | (refine isRun ?_; first | refine x1 ?_ | refine x2 ?_ | refine x3 fun _ => ?_ | refine x4 fun _ => ?_ | refine x5 fun _ => ?_ | (refine rt_step rfl rfl rfl ?_; first | refine st_buildSlice rfl (zr rfl) rfl rfl rfl rfl rfl rfl fun _ => ?_ | refine st_A rfl rfl (fun _ => rfl) rfl fun _ => ?_) | refine x8 ?_ | refine rt_skip rfl rfl rfl ?_ | refine rt_skip0 rfl rfl ?_)) | (first | refine sq_n ?_ | refine sq_r ?_ | refine sq_e ?_ | refine bk_n ?_ | refine bk_r ?_ | refine bk_e rfl ?_ | refine bk_x rfl ?_ | refine ct_seq ?_ | refine ct_region rfl ?_ | refine ct_skip ?_ | refine ct_label ?_ | refine ct_block ?_ | refine ct_exit ?_ | refine ct_ret ?_ | refine ct_scope ?_ | refine ct_true rfl ?_ | refine ct_false rfl ?_ | refine lt_step ?_) | (first | refine pl_nil ?_ | (refine isPlan ?_; first | refine y1 ?_ | refine y2 ?_ | refine pl_skip rfl rfl rfl rfl rfl ?_ | refine pl_skip0 rfl rfl rfl rfl ?_)) | (refine isPlan ?_; refine y3 ?_) | (first | (refine isRun ?_; refine z1 (fun hc => ?_) (fun hc => ?_)) | refine z2 (fun hc => ?_) (fun hc => ?_) | (refine isPlan ?_; refine z3 (fun hc => ?_) (fun hc => ?_))))
           all_goals first
             | exact re_1 (H' := H) rfl rfl (by exact drop_auto) (by rwa [pkC_i3 hm hmc hform (by omega) (by omega) ⟨hp, by omega⟩] at hQ)
             | exact re_1 (H' := H) rfl rfl (by exact drop_auto) (by rwa [pkC_i0 hm hmc hform (by omega) (by omega) (by omega)] at hQ)
             | exact re_1 (H' := H) rfl rfl (by exact drop_auto) (by rwa [pkC_a0 hm hmc hform (by omega) (by omega)] at hQ)
             | exact re_1 (H' := H) rfl rfl (by exact drop_auto) (by rwa [pkC_d0 hm hmc hform (by omega)] at hQ)
             | (exfalso; omega)
         | true =>
           repeat' (first | (first | refine rt_nil ?_ | (refine isRun ?_; first | refine x1 ?_ | refine x2 ?_ | refine x3 fun _ => ?_ | refine x4 fun _ => ?_ | refine x5 fun _ => ?_ | (refine rt_step rfl rfl rfl ?_; first | refine st_buildSlice rfl (zr rfl) rfl rfl rfl rfl rfl rfl fun _ => ?_ | refine st_A rfl rfl (fun _ => rfl) rfl fun _ => ?_) | refine x8 ?_ | refine rt_skip rfl rfl rfl ?_ | refine rt_skip0 rfl rfl ?_)) | (first | refine sq_n ?_ | refine sq_r ?_ | refine sq_e ?_ | refine bk_n ?_ | refine bk_r ?_ | refine bk_e rfl ?_ | refine bk_x rfl ?_ | refine ct_seq ?_ | refine ct_region rfl ?_ | refine ct_skip ?_ | refine ct_label ?_ | refine ct_block ?_ | refine ct_exit ?_ | refine ct_ret ?_ | refine ct_scope ?_ | refine ct_true rfl ?_ | refine ct_false rfl ?_ | refine lt_step ?_) | (first | refine pl_nil ?_ | (refine isPlan ?_; first | refine y1 ?_ | refine y2 ?_ | refine pl_skip rfl rfl rfl rfl rfl ?_ | refine pl_skip0 rfl rfl rfl rfl ?_)) | (refine isPlan ?_; refine y3 ?_) | (first | (refine isRun ?_; refine z1 (fun hc => ?_) (fun hc => ?_)) | refine z2 (fun hc => ?_) (fun hc => ?_) | (refine isPlan ?_; refine z3 (fun hc => ?_) (fun hc => ?_))))
           first
             | exact re_1 (H' := H) rfl rfl (by exact drop_auto) (by rwa [pkC_i0 hm hmc hform (by omega) (by omega) (by rw [hp]; rintro ⟨h, _⟩; cases h)] at hQ)
             | exact re_1 (H' := H) rfl rfl (by exact drop_auto) (by rwa [pkC_a0 hm hmc hform (by omega) (by omega)] at hQ)
             | exact re_1 (H' := H) rfl rfl (by exact drop_auto) (by rwa [pkC_d0 hm hmc hform (by omega)] at hQ))
end
end Go.Proofs.Ytjdppdoakbojcaa.Abs
