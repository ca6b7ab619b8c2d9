/- The contract of the statement NlriOrder. -/
import Derived.Test.YtjdppdoakbojcaaNk3
import Derived.Test.YtjdppdoakbojcaaLives
namespace Go.Proofs.Ytjdppdoakbojcaa.Abs
open Go
set_option linter.unusedVariables false
theorem nl_first (a b c : S60) : nlC a b < -1 ∨ nlC a b > 1 ∨ nlC a b ≠ - nlC b a ∨ (nlC a b ≤ 0 ∧ nlC b c ≤ 0 ∧ nlC a c > 0) → False := by
  have h1 := lx_range (kv (keyS a)) (kv (keyS b))
  have h2 := lx_neg (kv (keyS a)) (kv (keyS b))
  have h3 := lx_trans (l := kv (keyS a)) (m := kv (keyS b)) (q := kv (keyS c)) rfl rfl
  unfold nlC
  omega
section
variable {B0 : Nat} {old : Nat → Option (List Value)} {n : Nat} {H : Hp} {Q : Value → Hp → Prop}
set_option maxRecDepth 10000
set_option maxHeartbeats 8000000
theorem nord9_ct (a b c : S60) (lab : Int) (hQ : ∀ H', Q (.bool true) H') : CallT (cx B0 old) (acall (cx B0 old) ansP (n + 7)) 9 [.agg ⟨en60 a⟩, .agg ⟨en60 b⟩, .agg ⟨en60 c⟩, .int .u32 lab] H Q := by
  have hab : ∀ {H1 : Hp} {Θ : Value → Hp → Prop}, Θ (.int .i64 (nlC a b)) H1 → CallT (cx B0 old) (acall (cx B0 old) ansP (n + 6)) 35 [.agg ⟨en60 a⟩, .agg ⟨en60 b⟩] H1 Θ := fun h => compare35_ct a b h
  have hbc : ∀ {H1 : Hp} {Θ : Value → Hp → Prop}, Θ (.int .i64 (nlC b c)) H1 → CallT (cx B0 old) (acall (cx B0 old) ansP (n + 6)) 35 [.agg ⟨en60 b⟩, .agg ⟨en60 c⟩] H1 Θ := fun h => compare35_ct b c h
  have hba : ∀ {H1 : Hp} {Θ : Value → Hp → Prop}, Θ (.int .i64 (nlC b a)) H1 → CallT (cx B0 old) (acall (cx B0 old) ansP (n + 6)) 35 [.agg ⟨en60 b⟩, .agg ⟨en60 a⟩] H1 Θ := fun h => compare35_ct b a h
  have hac : ∀ {H1 : Hp} {Θ : Value → Hp → Prop}, Θ (.int .i64 (nlC a c)) H1 → CallT (cx B0 old) (acall (cx B0 old) ansP (n + 6)) 35 [.agg ⟨en60 a⟩, .agg ⟨en60 c⟩] H1 Θ := fun h => compare35_ct a c h
  have had : ∀ {H1 : Hp} {Θ : Value → Hp → Prop}, Θ (.int .i64 0) H1 → CallT (cx B0 old) (acall (cx B0 old) ansP (n + 6)) 35 [.agg ⟨en60 a⟩, .agg ⟨en60 { a with a19 := lab, a20 := lab }⟩] H1 Θ := fun h => compare35_ct a _ (by rw [nlC_zero.2 (keyS_labels a lab lab).symm]; exact h)
  have hk1 : ∀ {H1 : Hp} {Θ : Value → Hp → Prop}, Θ (.agg ⟨en60 (keyS a)⟩) H1 → CallT (cx B0 old) (acall (cx B0 old) ansP (n + 6)) 36 [.agg ⟨en60 a⟩] H1 Θ := fun h => key36_ct a h
  have hk2 : ∀ {H1 : Hp} {Θ : Value → Hp → Prop}, Θ (.agg ⟨en60 (keyS b)⟩) H1 → CallT (cx B0 old) (acall (cx B0 old) ansP (n + 6)) 36 [.agg ⟨en60 b⟩] H1 Θ := fun h => key36_ct b h
  have hk3 : ∀ {H1 : Hp} {Θ : Value → Hp → Prop}, Θ (.agg ⟨en60 (keyS a)⟩) H1 → CallT (cx B0 old) (acall (cx B0 old) ansP (n + 6)) 36 [.agg ⟨en60 (keyS a)⟩] H1 Θ := fun h => key36_ct (keyS a) (by rw [keyS_key]; exact h)
  have hak : ∀ {H1 : Hp} {Θ : Value → Hp → Prop}, Θ (.int .i64 0) H1 → CallT (cx B0 old) (acall (cx B0 old) ansP (n + 6)) 35 [.agg ⟨en60 a⟩, .agg ⟨en60 (keyS a)⟩] H1 Θ := fun h => compare35_ct a _ (by rw [nlC_zero.2 (keyS_key a).symm]; exact h)
  have hz : leafsEq (en60 (keyS a)) (en60 (keyS b)) = (nlC a b == 0) := by
    by_cases h : keyS a = keyS b
    · rw [← h, leaf60, nlC_zero.2 h]; rfl
    · rw [leaf60_ne h, beq_eq_false_iff_ne.2 (fun e => h (nlC_zero.1 e))]
  have hs := leaf60 (keyS a)
  have e0 := keyS_a0 a
  have e1 := keyS_a1 a
  have hlaw := nl_first a b c
  have hrg := lx_range (kv (keyS b)) (kv (keyS a))
  rw [show lx (kv (keyS b)) (kv (keyS a)) = nlC b a from rfl] at hrg
  generalize nlC a b = ab at *
  generalize nlC b c = bc at *
  generalize nlC b a = ba at *
  generalize nlC a c = ac at *
  generalize keyS a = ka at *
  generalize keyS b = kb at *
  refine call_in4 95 rfl Try.func9 rfl rfl ?_
  unfold en60 at *
  repeat (first | (first | refine rt_nil ?_ | (refine isRun ?_; first | refine x1 ?_ | refine x2 ?_ | refine x3 fun _ => ?_ | refine x4 fun _ => ?_ | refine x5 fun _ => ?_ | (refine rt_step rfl rfl rfl ?_; first | refine st_buildSlice rfl (zr rfl) rfl rfl rfl rfl rfl rfl fun _ => ?_ | refine st_A rfl rfl (fun _ => rfl) rfl fun _ => ?_) | refine x8 ?_ | refine rt_skip rfl rfl rfl ?_ | refine rt_skip0 rfl rfl ?_)) | (first | refine sq_n ?_ | refine sq_r ?_ | refine sq_e ?_ | refine bk_n ?_ | refine bk_r ?_ | refine bk_e rfl ?_ | refine bk_x rfl ?_ | refine ct_seq ?_ | refine ct_region rfl ?_ | refine ct_skip ?_ | refine ct_label ?_ | refine ct_block ?_ | refine ct_exit ?_ | refine ct_ret ?_ | refine ct_scope ?_ | refine ct_true rfl ?_ | refine ct_false rfl ?_ | refine lt_step ?_))
  refine rt_step rfl rfl rfl (st_call rfl rfl rfl rfl (call_ext rfl ?_))
  repeat (first | (first | refine rt_nil ?_ | (refine isRun ?_; first | refine x1 ?_ | refine x2 ?_ | refine x3 fun _ => ?_ | refine x4 fun _ => ?_ | refine x5 fun _ => ?_ | (refine rt_step rfl rfl rfl ?_; first | refine st_buildSlice rfl (zr rfl) rfl rfl rfl rfl rfl rfl fun _ => ?_ | refine st_A rfl rfl (fun _ => rfl) rfl fun _ => ?_) | refine x8 ?_ | refine rt_skip rfl rfl rfl ?_ | refine rt_skip0 rfl rfl ?_)) | (first | refine sq_n ?_ | refine sq_r ?_ | refine sq_e ?_ | refine bk_n ?_ | refine bk_r ?_ | refine bk_e rfl ?_ | refine bk_x rfl ?_ | refine ct_seq ?_ | refine ct_region rfl ?_ | refine ct_skip ?_ | refine ct_label ?_ | refine ct_block ?_ | refine ct_exit ?_ | refine ct_ret ?_ | refine ct_scope ?_ | refine ct_true rfl ?_ | refine ct_false rfl ?_ | refine lt_step ?_))
  refine ct_draw (masks := [0, 0, 3, 0, 0, 31, 63, 127]) (plan := [0, 1, 3, 4, 2, 5, 6, 7]) (E := []) (by kernel_rfl) (by kernel_rfl) (by kernel_rfl) (by kernel_rfl) ?_
  repeat (first | refine pl_nil ?_ | (refine isPlan ?_; first | refine y1 ?_ | refine y2 ?_ | refine pl_skip rfl rfl rfl rfl rfl ?_ | refine pl_skip0 rfl rfl rfl rfl ?_))
  refine pl_S rfl rfl rfl rfl rfl rfl (st_call rfl rfl rfl rfl (hab ⟨by exact rec_auto, ?_⟩))
  repeat (first | refine pl_nil ?_ | (refine isPlan ?_; first | refine y1 ?_ | refine y2 ?_ | refine pl_skip rfl rfl rfl rfl rfl ?_ | refine pl_skip0 rfl rfl rfl rfl ?_))
  refine pl_S rfl rfl rfl rfl rfl rfl (st_call rfl rfl rfl rfl (hbc ⟨by exact rec_auto, ?_⟩))
  repeat (first | refine pl_nil ?_ | (refine isPlan ?_; first | refine y1 ?_ | refine y2 ?_ | refine pl_skip rfl rfl rfl rfl rfl ?_ | refine pl_skip0 rfl rfl rfl rfl ?_))
  repeat (first | (first | refine rt_nil ?_ | (refine isRun ?_; first | refine x1 ?_ | refine x2 ?_ | refine x3 fun _ => ?_ | refine x4 fun _ => ?_ | refine x5 fun _ => ?_ | (refine rt_step rfl rfl rfl ?_; first | refine st_buildSlice rfl (zr rfl) rfl rfl rfl rfl rfl rfl fun _ => ?_ | refine st_A rfl rfl (fun _ => rfl) rfl fun _ => ?_) | refine x8 ?_ | refine rt_skip rfl rfl rfl ?_ | refine rt_skip0 rfl rfl ?_)) | (first | refine sq_n ?_ | refine sq_r ?_ | refine sq_e ?_ | refine bk_n ?_ | refine bk_r ?_ | refine bk_e rfl ?_ | refine bk_x rfl ?_ | refine ct_seq ?_ | refine ct_region rfl ?_ | refine ct_skip ?_ | refine ct_label ?_ | refine ct_block ?_ | refine ct_exit ?_ | refine ct_ret ?_ | refine ct_scope ?_ | refine ct_true rfl ?_ | refine ct_false rfl ?_ | refine lt_step ?_))
  refine rt_step rfl rfl rfl (st_call rfl rfl rfl rfl (hk1 ?_))
  repeat (first | (first | refine rt_nil ?_ | (refine isRun ?_; first | refine x1 ?_ | refine x2 ?_ | refine x3 fun _ => ?_ | refine x4 fun _ => ?_ | refine x5 fun _ => ?_ | (refine rt_step rfl rfl rfl ?_; first | refine st_buildSlice rfl (zr rfl) rfl rfl rfl rfl rfl rfl fun _ => ?_ | refine st_A rfl rfl (fun _ => rfl) rfl fun _ => ?_) | refine x8 ?_ | refine rt_skip rfl rfl rfl ?_ | refine rt_skip0 rfl rfl ?_)) | (first | refine sq_n ?_ | refine sq_r ?_ | refine sq_e ?_ | refine bk_n ?_ | refine bk_r ?_ | refine bk_e rfl ?_ | refine bk_x rfl ?_ | refine ct_seq ?_ | refine ct_region rfl ?_ | refine ct_skip ?_ | refine ct_label ?_ | refine ct_block ?_ | refine ct_exit ?_ | refine ct_ret ?_ | refine ct_scope ?_ | refine ct_true rfl ?_ | refine ct_false rfl ?_ | refine lt_step ?_))
  refine ct_draw (masks := [0, 1, 3, 7, 15, 31, 63, 127, 127, 127, 895, 1919, 4095, 8191, 16383, 32767, 65535, 32767, 32767, 294911, 950271, 2097151, 4194303, 8388607, 16777215, 33554431, 67108863, 134217727, 268435455, 536870911, 1073741823, 2147483647, 2147483647, 8589934591, 17179869183, 34359738367, 68719476735]) (plan := [0, 1, 2, 3, 4, 5, 6, 7, 8, 9, 10, 11, 12, 13, 14, 15, 16, 17, 18, 19, 20, 21, 22, 23, 24, 25, 26, 27, 28, 29, 30, 31, 32, 33, 34, 35, 36]) (E := []) (by kernel_rfl) (by kernel_rfl) (by kernel_rfl) (by kernel_rfl) ?_
  repeat (first | refine pl_nil ?_ | (refine isPlan ?_; first | refine y1 ?_ | refine y2 ?_ | refine pl_skip rfl rfl rfl rfl rfl ?_ | refine pl_skip0 rfl rfl rfl rfl ?_))
  refine isPlan ?_
  refine z3 (fun g => (hlaw (.inl g)).elim) (fun g1 => ?_)
  repeat (first | refine pl_nil ?_ | (refine isPlan ?_; first | refine y1 ?_ | refine y2 ?_ | refine pl_skip rfl rfl rfl rfl rfl ?_ | refine pl_skip0 rfl rfl rfl rfl ?_))
  refine isPlan ?_
  refine z3 (fun g => (hlaw (.inr (.inl g))).elim) (fun g2 => ?_)
  repeat (first | refine pl_nil ?_ | (refine isPlan ?_; first | refine y1 ?_ | refine y2 ?_ | refine pl_skip rfl rfl rfl rfl rfl ?_ | refine pl_skip0 rfl rfl rfl rfl ?_))
  refine pl_S rfl rfl rfl rfl rfl rfl (st_call rfl rfl rfl rfl (hba ⟨by exact rec_auto, ?_⟩))
  repeat (first | refine pl_nil ?_ | (refine isPlan ?_; first | refine y1 ?_ | refine y2 ?_ | refine pl_skip rfl rfl rfl rfl rfl ?_ | refine pl_skip0 rfl rfl rfl rfl ?_))
  rw [show IntKind.i64.wrap (0 - ba) = -ba by rw [i64_k (by omega)]; omega]
  repeat (first | refine pl_nil ?_ | (refine isPlan ?_; first | refine y1 ?_ | refine y2 ?_ | refine pl_skip rfl rfl rfl rfl rfl ?_ | refine pl_skip0 rfl rfl rfl rfl ?_))
  refine isPlan ?_
  refine z3 (fun g => (hlaw (.inr (.inr (.inl g)))).elim) (fun g3 => ?_)
  repeat (first | refine pl_nil ?_ | (refine isPlan ?_; first | refine y1 ?_ | refine y2 ?_ | refine pl_skip rfl rfl rfl rfl rfl ?_ | refine pl_skip0 rfl rfl rfl rfl ?_))
  refine pl_S rfl rfl rfl rfl rfl rfl (st_call rfl rfl rfl rfl (hk2 ⟨by exact rec_auto, ?_⟩))
  repeat (first | refine pl_nil ?_ | (refine isPlan ?_; first | refine y1 ?_ | refine y2 ?_ | refine pl_skip rfl rfl rfl rfl rfl ?_ | refine pl_skip0 rfl rfl rfl rfl ?_))
  rw [hz]
  repeat (first | refine pl_nil ?_ | (refine isPlan ?_; first | refine y1 ?_ | refine y2 ?_ | refine pl_skip rfl rfl rfl rfl rfl ?_ | refine pl_skip0 rfl rfl rfl rfl ?_))
  rw [show ((ab == 0) == (ab == 0)) = true from beq_self_eq_true _]
  repeat (first | refine pl_nil ?_ | (refine isPlan ?_; first | refine y1 ?_ | refine y2 ?_ | refine pl_skip rfl rfl rfl rfl rfl ?_ | refine pl_skip0 rfl rfl rfl rfl ?_))
  refine isPlan ?_
  refine z3 (fun g4 => ?_) (fun g4 => ?_)
  · repeat (first | refine pl_nil ?_ | (refine isPlan ?_; first | refine y1 ?_ | refine y2 ?_ | refine pl_skip rfl rfl rfl rfl rfl ?_ | refine pl_skip0 rfl rfl rfl rfl ?_))
    refine isPlan ?_
    refine z3 (fun g5 => ?_) (fun g5 => ?_)
    · repeat (first | refine pl_nil ?_ | (refine isPlan ?_; first | refine y1 ?_ | refine y2 ?_ | refine pl_skip rfl rfl rfl rfl rfl ?_ | refine pl_skip0 rfl rfl rfl rfl ?_))
      refine pl_S rfl rfl rfl rfl rfl rfl (st_call rfl rfl rfl rfl (hac ⟨by exact rec_auto, ?_⟩))
      repeat (first | refine pl_nil ?_ | (refine isPlan ?_; first | refine y1 ?_ | refine y2 ?_ | refine pl_skip rfl rfl rfl rfl rfl ?_ | refine pl_skip0 rfl rfl rfl rfl ?_))
      repeat (first | (first | refine rt_nil ?_ | (refine isRun ?_; first | refine x1 ?_ | refine x2 ?_ | refine x3 fun _ => ?_ | refine x4 fun _ => ?_ | refine x5 fun _ => ?_ | (refine rt_step rfl rfl rfl ?_; first | refine st_buildSlice rfl (zr rfl) rfl rfl rfl rfl rfl rfl fun _ => ?_ | refine st_A rfl rfl (fun _ => rfl) rfl fun _ => ?_) | refine x8 ?_ | refine rt_skip rfl rfl rfl ?_ | refine rt_skip0 rfl rfl ?_)) | (first | refine sq_n ?_ | refine sq_r ?_ | refine sq_e ?_ | refine bk_n ?_ | refine bk_r ?_ | refine bk_e rfl ?_ | refine bk_x rfl ?_ | refine ct_seq ?_ | refine ct_region rfl ?_ | refine ct_skip ?_ | refine ct_label ?_ | refine ct_block ?_ | refine ct_exit ?_ | refine ct_ret ?_ | refine ct_scope ?_ | refine ct_true rfl ?_ | refine ct_false rfl ?_ | refine lt_step ?_))
      refine ct_condT te_d rfl (fun g => (hlaw (.inr (.inr (.inr ⟨g4, g5, g⟩)))).elim) (fun g6 => ?_)
      repeat (first | (first | refine rt_nil ?_ | (refine isRun ?_; first | refine x1 ?_ | refine x2 ?_ | refine x3 fun _ => ?_ | refine x4 fun _ => ?_ | refine x5 fun _ => ?_ | (refine rt_step rfl rfl rfl ?_; first | refine st_buildSlice rfl (zr rfl) rfl rfl rfl rfl rfl rfl fun _ => ?_ | refine st_A rfl rfl (fun _ => rfl) rfl fun _ => ?_) | refine x8 ?_ | refine rt_skip rfl rfl rfl ?_ | refine rt_skip0 rfl rfl ?_)) | (first | refine sq_n ?_ | refine sq_r ?_ | refine sq_e ?_ | refine bk_n ?_ | refine bk_r ?_ | refine bk_e rfl ?_ | refine bk_x rfl ?_ | refine ct_seq ?_ | refine ct_region rfl ?_ | refine ct_skip ?_ | refine ct_label ?_ | refine ct_block ?_ | refine ct_exit ?_ | refine ct_ret ?_ | refine ct_scope ?_ | refine ct_true rfl ?_ | refine ct_false rfl ?_ | refine lt_step ?_))
      refine ct_draw (masks := [0, 0, 3, 7, 15, 31, 63, 31, 255, 511, 1023, 2047, 2047, 8191, 16383, 32767, 65535, 131071, 262143, 131071, 655359, 2097151, 4194303, 8388607, 16777215, 33554431, 16777215, 83886079, 268435455, 536870911, 1073741823]) (plan := [0, 1, 2, 3, 4, 5, 7, 6, 8, 9, 10, 11, 12, 13, 14, 15, 16, 17, 18, 19, 20, 21, 22, 23, 24, 25, 26, 27, 28, 29, 30]) (E := []) (by kernel_rfl) (by kernel_rfl) (by kernel_rfl) (by kernel_rfl) ?_
      repeat (first | refine pl_nil ?_ | (refine isPlan ?_; first | refine y1 ?_ | refine y2 ?_ | refine pl_skip rfl rfl rfl rfl rfl ?_ | refine pl_skip0 rfl rfl rfl rfl ?_))
      refine pl_S rfl rfl rfl rfl rfl rfl (st_call rfl rfl rfl rfl (had ⟨by exact rec_auto, ?_⟩))
      repeat (first | refine pl_nil ?_ | (refine isPlan ?_; first | refine y1 ?_ | refine y2 ?_ | refine pl_skip rfl rfl rfl rfl rfl ?_ | refine pl_skip0 rfl rfl rfl rfl ?_))
      refine pl_S rfl rfl rfl rfl rfl rfl (st_call rfl rfl rfl rfl (hk3 ⟨by exact rec_auto, ?_⟩))
      repeat (first | refine pl_nil ?_ | (refine isPlan ?_; first | refine y1 ?_ | refine y2 ?_ | refine pl_skip rfl rfl rfl rfl rfl ?_ | refine pl_skip0 rfl rfl rfl rfl ?_))
      rw [hs]
      repeat (first | refine pl_nil ?_ | (refine isPlan ?_; first | refine y1 ?_ | refine y2 ?_ | refine pl_skip rfl rfl rfl rfl rfl ?_ | refine pl_skip0 rfl rfl rfl rfl ?_))
      refine pl_S rfl rfl rfl rfl rfl rfl (st_call rfl rfl rfl rfl (hak ⟨by exact rec_auto, ?_⟩))
      repeat (first | refine pl_nil ?_ | (refine isPlan ?_; first | refine y1 ?_ | refine y2 ?_ | refine pl_skip rfl rfl rfl rfl rfl ?_ | refine pl_skip0 rfl rfl rfl rfl ?_))
      rw [e0, beq_self_eq_true]
      repeat (first | refine pl_nil ?_ | (refine isPlan ?_; first | refine y1 ?_ | refine y2 ?_ | refine pl_skip rfl rfl rfl rfl rfl ?_ | refine pl_skip0 rfl rfl rfl rfl ?_))
      rw [e1, beq_self_eq_true]
      repeat (first | refine pl_nil ?_ | (refine isPlan ?_; first | refine y1 ?_ | refine y2 ?_ | refine pl_skip rfl rfl rfl rfl rfl ?_ | refine pl_skip0 rfl rfl rfl rfl ?_))
      repeat (first | (first | refine rt_nil ?_ | (refine isRun ?_; first | refine x1 ?_ | refine x2 ?_ | refine x3 fun _ => ?_ | refine x4 fun _ => ?_ | refine x5 fun _ => ?_ | (refine rt_step rfl rfl rfl ?_; first | refine st_buildSlice rfl (zr rfl) rfl rfl rfl rfl rfl rfl fun _ => ?_ | refine st_A rfl rfl (fun _ => rfl) rfl fun _ => ?_) | refine x8 ?_ | refine rt_skip rfl rfl rfl ?_ | refine rt_skip0 rfl rfl ?_)) | (first | refine sq_n ?_ | refine sq_r ?_ | refine sq_e ?_ | refine bk_n ?_ | refine bk_r ?_ | refine bk_e rfl ?_ | refine bk_x rfl ?_ | refine ct_seq ?_ | refine ct_region rfl ?_ | refine ct_skip ?_ | refine ct_label ?_ | refine ct_block ?_ | refine ct_exit ?_ | refine ct_ret ?_ | refine ct_scope ?_ | refine ct_true rfl ?_ | refine ct_false rfl ?_ | refine lt_step ?_))
      exact re_1 rfl rfl (List.Sublist.refl _) (by rw [beq_self_eq_true]; exact hQ _)
    · repeat (first | refine pl_nil ?_ | (refine isPlan ?_; first | refine y1 ?_ | refine y2 ?_ | refine pl_skip rfl rfl rfl rfl rfl ?_ | refine pl_skip0 rfl rfl rfl rfl ?_))
      repeat (first | (first | refine rt_nil ?_ | (refine isRun ?_; first | refine x1 ?_ | refine x2 ?_ | refine x3 fun _ => ?_ | refine x4 fun _ => ?_ | refine x5 fun _ => ?_ | (refine rt_step rfl rfl rfl ?_; first | refine st_buildSlice rfl (zr rfl) rfl rfl rfl rfl rfl rfl fun _ => ?_ | refine st_A rfl rfl (fun _ => rfl) rfl fun _ => ?_) | refine x8 ?_ | refine rt_skip rfl rfl rfl ?_ | refine rt_skip0 rfl rfl ?_)) | (first | refine sq_n ?_ | refine sq_r ?_ | refine sq_e ?_ | refine bk_n ?_ | refine bk_r ?_ | refine bk_e rfl ?_ | refine bk_x rfl ?_ | refine ct_seq ?_ | refine ct_region rfl ?_ | refine ct_skip ?_ | refine ct_label ?_ | refine ct_block ?_ | refine ct_exit ?_ | refine ct_ret ?_ | refine ct_scope ?_ | refine ct_true rfl ?_ | refine ct_false rfl ?_ | refine lt_step ?_))
      refine ct_draw (masks := [0, 0, 3, 7, 15, 31, 63, 31, 255, 511, 1023, 2047, 2047, 8191, 16383, 32767, 65535, 131071, 262143, 131071, 655359, 2097151, 4194303, 8388607, 16777215, 33554431, 16777215, 83886079, 268435455, 536870911, 1073741823]) (plan := [0, 1, 2, 3, 4, 5, 7, 6, 8, 9, 10, 11, 12, 13, 14, 15, 16, 17, 18, 19, 20, 21, 22, 23, 24, 25, 26, 27, 28, 29, 30]) (E := []) (by kernel_rfl) (by kernel_rfl) (by kernel_rfl) (by kernel_rfl) ?_
      repeat (first | refine pl_nil ?_ | (refine isPlan ?_; first | refine y1 ?_ | refine y2 ?_ | refine pl_skip rfl rfl rfl rfl rfl ?_ | refine pl_skip0 rfl rfl rfl rfl ?_))
      refine pl_S rfl rfl rfl rfl rfl rfl (st_call rfl rfl rfl rfl (had ⟨by exact rec_auto, ?_⟩))
      repeat (first | refine pl_nil ?_ | (refine isPlan ?_; first | refine y1 ?_ | refine y2 ?_ | refine pl_skip rfl rfl rfl rfl rfl ?_ | refine pl_skip0 rfl rfl rfl rfl ?_))
      refine pl_S rfl rfl rfl rfl rfl rfl (st_call rfl rfl rfl rfl (hk3 ⟨by exact rec_auto, ?_⟩))
      repeat (first | refine pl_nil ?_ | (refine isPlan ?_; first | refine y1 ?_ | refine y2 ?_ | refine pl_skip rfl rfl rfl rfl rfl ?_ | refine pl_skip0 rfl rfl rfl rfl ?_))
      rw [hs]
      repeat (first | refine pl_nil ?_ | (refine isPlan ?_; first | refine y1 ?_ | refine y2 ?_ | refine pl_skip rfl rfl rfl rfl rfl ?_ | refine pl_skip0 rfl rfl rfl rfl ?_))
      refine pl_S rfl rfl rfl rfl rfl rfl (st_call rfl rfl rfl rfl (hak ⟨by exact rec_auto, ?_⟩))
      repeat (first | refine pl_nil ?_ | (refine isPlan ?_; first | refine y1 ?_ | refine y2 ?_ | refine pl_skip rfl rfl rfl rfl rfl ?_ | refine pl_skip0 rfl rfl rfl rfl ?_))
      rw [e0, beq_self_eq_true]
      repeat (first | refine pl_nil ?_ | (refine isPlan ?_; first | refine y1 ?_ | refine y2 ?_ | refine pl_skip rfl rfl rfl rfl rfl ?_ | refine pl_skip0 rfl rfl rfl rfl ?_))
      rw [e1, beq_self_eq_true]
      repeat (first | refine pl_nil ?_ | (refine isPlan ?_; first | refine y1 ?_ | refine y2 ?_ | refine pl_skip rfl rfl rfl rfl rfl ?_ | refine pl_skip0 rfl rfl rfl rfl ?_))
      repeat (first | (first | refine rt_nil ?_ | (refine isRun ?_; first | refine x1 ?_ | refine x2 ?_ | refine x3 fun _ => ?_ | refine x4 fun _ => ?_ | refine x5 fun _ => ?_ | (refine rt_step rfl rfl rfl ?_; first | refine st_buildSlice rfl (zr rfl) rfl rfl rfl rfl rfl rfl fun _ => ?_ | refine st_A rfl rfl (fun _ => rfl) rfl fun _ => ?_) | refine x8 ?_ | refine rt_skip rfl rfl rfl ?_ | refine rt_skip0 rfl rfl ?_)) | (first | refine sq_n ?_ | refine sq_r ?_ | refine sq_e ?_ | refine bk_n ?_ | refine bk_r ?_ | refine bk_e rfl ?_ | refine bk_x rfl ?_ | refine ct_seq ?_ | refine ct_region rfl ?_ | refine ct_skip ?_ | refine ct_label ?_ | refine ct_block ?_ | refine ct_exit ?_ | refine ct_ret ?_ | refine ct_scope ?_ | refine ct_true rfl ?_ | refine ct_false rfl ?_ | refine lt_step ?_))
      exact re_1 rfl rfl (List.Sublist.refl _) (by rw [beq_self_eq_true]; exact hQ _)
  · repeat (first | refine pl_nil ?_ | (refine isPlan ?_; first | refine y1 ?_ | refine y2 ?_ | refine pl_skip rfl rfl rfl rfl rfl ?_ | refine pl_skip0 rfl rfl rfl rfl ?_))
    repeat (first | (first | refine rt_nil ?_ | (refine isRun ?_; first | refine x1 ?_ | refine x2 ?_ | refine x3 fun _ => ?_ | refine x4 fun _ => ?_ | refine x5 fun _ => ?_ | (refine rt_step rfl rfl rfl ?_; first | refine st_buildSlice rfl (zr rfl) rfl rfl rfl rfl rfl rfl fun _ => ?_ | refine st_A rfl rfl (fun _ => rfl) rfl fun _ => ?_) | refine x8 ?_ | refine rt_skip rfl rfl rfl ?_ | refine rt_skip0 rfl rfl ?_)) | (first | refine sq_n ?_ | refine sq_r ?_ | refine sq_e ?_ | refine bk_n ?_ | refine bk_r ?_ | refine bk_e rfl ?_ | refine bk_x rfl ?_ | refine ct_seq ?_ | refine ct_region rfl ?_ | refine ct_skip ?_ | refine ct_label ?_ | refine ct_block ?_ | refine ct_exit ?_ | refine ct_ret ?_ | refine ct_scope ?_ | refine ct_true rfl ?_ | refine ct_false rfl ?_ | refine lt_step ?_))
    refine ct_draw (masks := [0, 0, 3, 7, 15, 31, 63, 31, 255, 511, 1023, 2047, 2047, 8191, 16383, 32767, 65535, 131071, 262143, 131071, 655359, 2097151, 4194303, 8388607, 16777215, 33554431, 16777215, 83886079, 268435455, 536870911, 1073741823]) (plan := [0, 1, 2, 3, 4, 5, 7, 6, 8, 9, 10, 11, 12, 13, 14, 15, 16, 17, 18, 19, 20, 21, 22, 23, 24, 25, 26, 27, 28, 29, 30]) (E := []) (by kernel_rfl) (by kernel_rfl) (by kernel_rfl) (by kernel_rfl) ?_
    repeat (first | refine pl_nil ?_ | (refine isPlan ?_; first | refine y1 ?_ | refine y2 ?_ | refine pl_skip rfl rfl rfl rfl rfl ?_ | refine pl_skip0 rfl rfl rfl rfl ?_))
    refine pl_S rfl rfl rfl rfl rfl rfl (st_call rfl rfl rfl rfl (had ⟨by exact rec_auto, ?_⟩))
    repeat (first | refine pl_nil ?_ | (refine isPlan ?_; first | refine y1 ?_ | refine y2 ?_ | refine pl_skip rfl rfl rfl rfl rfl ?_ | refine pl_skip0 rfl rfl rfl rfl ?_))
    refine pl_S rfl rfl rfl rfl rfl rfl (st_call rfl rfl rfl rfl (hk3 ⟨by exact rec_auto, ?_⟩))
    repeat (first | refine pl_nil ?_ | (refine isPlan ?_; first | refine y1 ?_ | refine y2 ?_ | refine pl_skip rfl rfl rfl rfl rfl ?_ | refine pl_skip0 rfl rfl rfl rfl ?_))
    rw [hs]
    repeat (first | refine pl_nil ?_ | (refine isPlan ?_; first | refine y1 ?_ | refine y2 ?_ | refine pl_skip rfl rfl rfl rfl rfl ?_ | refine pl_skip0 rfl rfl rfl rfl ?_))
    refine pl_S rfl rfl rfl rfl rfl rfl (st_call rfl rfl rfl rfl (hak ⟨by exact rec_auto, ?_⟩))
    repeat (first | refine pl_nil ?_ | (refine isPlan ?_; first | refine y1 ?_ | refine y2 ?_ | refine pl_skip rfl rfl rfl rfl rfl ?_ | refine pl_skip0 rfl rfl rfl rfl ?_))
    rw [e0, beq_self_eq_true]
    repeat (first | refine pl_nil ?_ | (refine isPlan ?_; first | refine y1 ?_ | refine y2 ?_ | refine pl_skip rfl rfl rfl rfl rfl ?_ | refine pl_skip0 rfl rfl rfl rfl ?_))
    rw [e1, beq_self_eq_true]
    repeat (first | refine pl_nil ?_ | (refine isPlan ?_; first | refine y1 ?_ | refine y2 ?_ | refine pl_skip rfl rfl rfl rfl rfl ?_ | refine pl_skip0 rfl rfl rfl rfl ?_))
    repeat (first | (first | refine rt_nil ?_ | (refine isRun ?_; first | refine x1 ?_ | refine x2 ?_ | refine x3 fun _ => ?_ | refine x4 fun _ => ?_ | refine x5 fun _ => ?_ | (refine rt_step rfl rfl rfl ?_; first | refine st_buildSlice rfl (zr rfl) rfl rfl rfl rfl rfl rfl fun _ => ?_ | refine st_A rfl rfl (fun _ => rfl) rfl fun _ => ?_) | refine x8 ?_ | refine rt_skip rfl rfl rfl ?_ | refine rt_skip0 rfl rfl ?_)) | (first | refine sq_n ?_ | refine sq_r ?_ | refine sq_e ?_ | refine bk_n ?_ | refine bk_r ?_ | refine bk_e rfl ?_ | refine bk_x rfl ?_ | refine ct_seq ?_ | refine ct_region rfl ?_ | refine ct_skip ?_ | refine ct_label ?_ | refine ct_block ?_ | refine ct_exit ?_ | refine ct_ret ?_ | refine ct_scope ?_ | refine ct_true rfl ?_ | refine ct_false rfl ?_ | refine lt_step ?_))
    exact re_1 rfl rfl (List.Sublist.refl _) (by rw [beq_self_eq_true]; exact hQ _)
end
end Go.Proofs.Ytjdppdoakbojcaa.Abs
