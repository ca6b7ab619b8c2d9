/- Contracts of the statements PacketBack, PacketOnly, PacketSums. -/
import Derived.Test.YtjdppdoakbojcaaNe
namespace Go.Proofs.Ytjdppdoakbojcaa.Abs
open Go
set_option linter.unusedVariables false
theorem leafsEq_refl (l : List Value) (h : ∀ v ∈ l, leafEq v v = true) : leafsEq l l = true := by
  induction l with
  | nil => rfl
  | cons a l ih => rw [leafsEq, h a (List.mem_cons_self ..), ih fun v hv => h v (List.mem_cons_of_mem _ hv)]; rfl
theorem leaf31 (s : S31) : leafsEq (en31 s) (en31 s) = true := by
  unfold en31
  simp only [leafsEq, leaf0]
  simp
theorem set_at {L : List Int} {i : Nat} {x v : Int} (h : L[i]? = some x) (hv : isY v) (hy : ∀ y ∈ L, isY y) : ∀ y ∈ L.set i v, isY y := by
  intro y h
  rcases List.mem_or_eq_of_mem_set h with h | h
  · exact hy y h
  · subst h; exact hv
section
variable {B0 : Nat} {old : Nat → Option (List Value)} {n : Nat} {H : Hp} {Q : Value → Hp → Prop} {L M : List Int} {bv : Value} {ad ad2 : Option Addr} {c c2 : Nat}
set_option maxRecDepth 10000
set_option maxHeartbeats 4000000
theorem own31_ct (h1 : ArrW (cx B0 old) H ad 1 encY L) (hb : L.length ≤ 100000) (hQ : ∀ v Hs, Own encY 1 L v Hs → Q v (Hs ++ H)) : CallT (cx B0 old) (acall (cx B0 old) ansP (n + 1)) 31 [.slice ad L.length c] H Q := by
  refine call_in1 6 rfl Try.func31 rfl rfl ?_
  repeat (first | (first | refine rt_nil ?_ | (refine isRun ?_; first | refine x1 ?_ | refine x2 ?_ | refine x3 fun _ => ?_ | refine x4 fun _ => ?_ | refine x5 fun _ => ?_ | (refine rt_step rfl rfl rfl ?_; first | refine st_buildSlice rfl (zr rfl) rfl rfl rfl rfl rfl rfl fun _ => ?_ | refine st_A rfl rfl (fun _ => rfl) rfl fun _ => ?_) | refine x8 ?_ | refine rt_skip rfl rfl rfl ?_ | refine rt_skip0 rfl rfl ?_)) | (first | refine sq_n ?_ | refine sq_r ?_ | refine sq_e ?_ | refine bk_n ?_ | refine bk_r ?_ | refine bk_e rfl ?_ | refine bk_x rfl ?_ | refine ct_seq ?_ | refine ct_region rfl ?_ | refine ct_skip ?_ | refine ct_label ?_ | refine ct_block ?_ | refine ct_exit ?_ | refine ct_ret ?_ | refine ct_scope ?_ | refine ct_true rfl ?_ | refine ct_false rfl ?_ | refine lt_step ?_))
  refine rt_step rfl rfl rfl (st_appO (pre := []) (Hs := [_]) (Own.emp (en := encY) (k := 1) _ _) (fun _ => rfl) (fun _ => rfl) rfl rfl (ap rfl) (h1.weak (List.sublist_cons_self _ _)) (by show _ * (1 + 1) ≤ _; simp only [List.length_nil]; omega) fun v Hs ho => ?_)
  repeat (first | (first | refine rt_nil ?_ | (refine isRun ?_; first | refine x1 ?_ | refine x2 ?_ | refine x3 fun _ => ?_ | refine x4 fun _ => ?_ | refine x5 fun _ => ?_ | (refine rt_step rfl rfl rfl ?_; first | refine st_buildSlice rfl (zr rfl) rfl rfl rfl rfl rfl rfl fun _ => ?_ | refine st_A rfl rfl (fun _ => rfl) rfl fun _ => ?_) | refine x8 ?_ | refine rt_skip rfl rfl rfl ?_ | refine rt_skip0 rfl rfl ?_)) | (first | refine sq_n ?_ | refine sq_r ?_ | refine sq_e ?_ | refine bk_n ?_ | refine bk_r ?_ | refine bk_e rfl ?_ | refine bk_x rfl ?_ | refine ct_seq ?_ | refine ct_region rfl ?_ | refine ct_skip ?_ | refine ct_label ?_ | refine ct_block ?_ | refine ct_exit ?_ | refine ct_ret ?_ | refine ct_scope ?_ | refine ct_true rfl ?_ | refine ct_false rfl ?_ | refine lt_step ?_))
  exact re_1 rfl rfl (by exact drop_auto) (hQ v Hs ho)
theorem pick33_ct (x N : Int) (h0 : 0 < N) (hN : N ≤ 1000000) (hx : -9223372036854775808 ≤ x ∧ x ≤ 9223372036854775807) (hQ : ∀ y : Nat, (y : Int) < N → Q (.int .i64 (y : Int)) H) : CallT (cx B0 old) (acall (cx B0 old) ansP (n + 1)) 33 [.int .i64 x, .int .i64 N] H Q := by
  have hm1 : x.tmod N < N ∧ -N < x.tmod N := ⟨Int.tmod_lt_of_pos x h0, Int.lt_tmod_of_pos x h0⟩
  refine call_in2 14 rfl Try.func33 rfl rfl ?_
  repeat (first | (first | refine rt_nil ?_ | (refine isRun ?_; first | refine x1 ?_ | refine x2 ?_ | refine x3 fun _ => ?_ | refine x4 fun _ => ?_ | refine x5 fun _ => ?_ | (refine rt_step rfl rfl rfl ?_; first | refine st_buildSlice rfl (zr rfl) rfl rfl rfl rfl rfl rfl fun _ => ?_ | refine st_A rfl rfl (fun _ => rfl) rfl fun _ => ?_) | refine x8 ?_ | refine rt_skip rfl rfl rfl ?_ | refine rt_skip0 rfl rfl ?_)) | (first | refine sq_n ?_ | refine sq_r ?_ | refine sq_e ?_ | refine bk_n ?_ | refine bk_r ?_ | refine bk_e rfl ?_ | refine bk_x rfl ?_ | refine ct_seq ?_ | refine ct_region rfl ?_ | refine ct_skip ?_ | refine ct_label ?_ | refine ct_block ?_ | refine ct_exit ?_ | refine ct_ret ?_ | refine ct_scope ?_ | refine ct_true rfl ?_ | refine ct_false rfl ?_ | refine lt_step ?_))
  apply rt_p rfl rfl rfl
  case hp => exact p_rem rfl rfl (by omega)
  generalize x.tmod N = m at *
  repeat (first | (first | refine rt_nil ?_ | (refine isRun ?_; first | refine x1 ?_ | refine x2 ?_ | refine x3 fun _ => ?_ | refine x4 fun _ => ?_ | refine x5 fun _ => ?_ | (refine rt_step rfl rfl rfl ?_; first | refine st_buildSlice rfl (zr rfl) rfl rfl rfl rfl rfl rfl fun _ => ?_ | refine st_A rfl rfl (fun _ => rfl) rfl fun _ => ?_) | refine x8 ?_ | refine rt_skip rfl rfl rfl ?_ | refine rt_skip0 rfl rfl ?_)) | (first | refine sq_n ?_ | refine sq_r ?_ | refine sq_e ?_ | refine bk_n ?_ | refine bk_r ?_ | refine bk_e rfl ?_ | refine bk_x rfl ?_ | refine ct_seq ?_ | refine ct_region rfl ?_ | refine ct_skip ?_ | refine ct_label ?_ | refine ct_block ?_ | refine ct_exit ?_ | refine ct_ret ?_ | refine ct_scope ?_ | refine ct_true rfl ?_ | refine ct_false rfl ?_ | refine lt_step ?_))
  refine ct_condT te_d rfl (fun hc => ?_) (fun hc => ?_)
  · repeat (first | (first | refine rt_nil ?_ | (refine isRun ?_; first | refine x1 ?_ | refine x2 ?_ | refine x3 fun _ => ?_ | refine x4 fun _ => ?_ | refine x5 fun _ => ?_ | (refine rt_step rfl rfl rfl ?_; first | refine st_buildSlice rfl (zr rfl) rfl rfl rfl rfl rfl rfl fun _ => ?_ | refine st_A rfl rfl (fun _ => rfl) rfl fun _ => ?_) | refine x8 ?_ | refine rt_skip rfl rfl rfl ?_ | refine rt_skip0 rfl rfl ?_)) | (first | refine sq_n ?_ | refine sq_r ?_ | refine sq_e ?_ | refine bk_n ?_ | refine bk_r ?_ | refine bk_e rfl ?_ | refine bk_x rfl ?_ | refine ct_seq ?_ | refine ct_region rfl ?_ | refine ct_skip ?_ | refine ct_label ?_ | refine ct_block ?_ | refine ct_exit ?_ | refine ct_ret ?_ | refine ct_scope ?_ | refine ct_true rfl ?_ | refine ct_false rfl ?_ | refine lt_step ?_))
    obtain ⟨y, hy⟩ := Int.eq_ofNat_of_zero_le (show 0 ≤ m + N by omega)
    rw [hy]
    exact re_1 rfl rfl (by exact drop_auto) (hQ y (by omega))
  · repeat (first | (first | refine rt_nil ?_ | (refine isRun ?_; first | refine x1 ?_ | refine x2 ?_ | refine x3 fun _ => ?_ | refine x4 fun _ => ?_ | refine x5 fun _ => ?_ | (refine rt_step rfl rfl rfl ?_; first | refine st_buildSlice rfl (zr rfl) rfl rfl rfl rfl rfl rfl fun _ => ?_ | refine st_A rfl rfl (fun _ => rfl) rfl fun _ => ?_) | refine x8 ?_ | refine rt_skip rfl rfl rfl ?_ | refine rt_skip0 rfl rfl ?_)) | (first | refine sq_n ?_ | refine sq_r ?_ | refine sq_e ?_ | refine bk_n ?_ | refine bk_r ?_ | refine bk_e rfl ?_ | refine bk_x rfl ?_ | refine ct_seq ?_ | refine ct_region rfl ?_ | refine ct_skip ?_ | refine ct_label ?_ | refine ct_block ?_ | refine ct_exit ?_ | refine ct_ret ?_ | refine ct_scope ?_ | refine ct_true rfl ?_ | refine ct_false rfl ?_ | refine lt_step ?_))
    obtain ⟨y, rfl⟩ := Int.eq_ofNat_of_zero_le (show 0 ≤ m by omega)
    exact re_1 rfl rfl (by exact drop_auto) (hQ y (by omega))
/-- Few bytes are read, whatever slice holds them. -/
theorem short61_ct (hl : L.length < 14) (hQ : Q (pkV (pkR L)) H) : CallT (cx B0 old) (acall (cx B0 old) ansP (n + 9)) 61 [.slice ad L.length c] H Q := by
  have e : pkR L = (pkZ, 4, (L.length : Int)) := by unfold pkR; rw [if_pos (by omega)]
  rw [e] at hQ
  refine call_in1 57 rfl Try.func61 rfl rfl ?_
  repeat (first | (first | refine rt_nil ?_ | (refine isRun ?_; first | refine x1 ?_ | refine x2 ?_ | refine x3 fun _ => ?_ | refine x4 fun _ => ?_ | refine x5 fun _ => ?_ | (refine rt_step rfl rfl rfl ?_; first | refine st_buildSlice rfl (zr rfl) rfl rfl rfl rfl rfl rfl fun _ => ?_ | refine st_A rfl rfl (fun _ => rfl) rfl fun _ => ?_) | refine x8 ?_ | refine rt_skip rfl rfl rfl ?_ | refine rt_skip0 rfl rfl ?_)) | (first | refine sq_n ?_ | refine sq_r ?_ | refine sq_e ?_ | refine bk_n ?_ | refine bk_r ?_ | refine bk_e rfl ?_ | refine bk_x rfl ?_ | refine ct_seq ?_ | refine ct_region rfl ?_ | refine ct_skip ?_ | refine ct_label ?_ | refine ct_block ?_ | refine ct_exit ?_ | refine ct_ret ?_ | refine ct_scope ?_ | refine ct_true rfl ?_ | refine ct_false rfl ?_ | refine lt_step ?_))
  refine ct_condT te_d rfl (fun hc => ?_) (fun hc => ?_)
  · repeat (first | (first | refine rt_nil ?_ | (refine isRun ?_; first | refine x1 ?_ | refine x2 ?_ | refine x3 fun _ => ?_ | refine x4 fun _ => ?_ | refine x5 fun _ => ?_ | (refine rt_step rfl rfl rfl ?_; first | refine st_buildSlice rfl (zr rfl) rfl rfl rfl rfl rfl rfl fun _ => ?_ | refine st_A rfl rfl (fun _ => rfl) rfl fun _ => ?_) | refine x8 ?_ | refine rt_skip rfl rfl rfl ?_ | refine rt_skip0 rfl rfl ?_)) | (first | refine sq_n ?_ | refine sq_r ?_ | refine sq_e ?_ | refine bk_n ?_ | refine bk_r ?_ | refine bk_e rfl ?_ | refine bk_x rfl ?_ | refine ct_seq ?_ | refine ct_region rfl ?_ | refine ct_skip ?_ | refine ct_label ?_ | refine ct_block ?_ | refine ct_exit ?_ | refine ct_ret ?_ | refine ct_scope ?_ | refine ct_true rfl ?_ | refine ct_false rfl ?_ | refine lt_step ?_))
    exact re_r (by exact drop_auto) (res_cell rfl (.own _ _ hm1) rfl (sz rfl) rfl rfl (res_cell rfl (.own _ _ hm0) rfl (sz rfl) rfl rfl (res_nil hQ)))
  · exfalso; omega
theorem arg61_ct (h1 : ArrW (cx B0 old) H ad 1 encY L) (hc : L.length ≤ c) (hm : c < EL) (hy : ∀ y ∈ L, isY y) (hl : L.length ≤ 100000) (hQ : Q (pkV (pkR L)) H) : CallT (cx B0 old) (acall (cx B0 old) ansP (n + 9)) 61 [.slice ad L.length c] H Q := by
  by_cases he : L = []
  · exact short61_ct (by rw [he]; decide) hQ
  · exact read61_ct (arg_cutV h1 he hc hm) hy hl hQ
theorem back17_ct (s : S31) (hw : s.wf) (hQ : ∀ H', Q (.bool true) H') : CallT (cx B0 old) (acall (cx B0 old) ansP (n + 11)) 17 [.agg ⟨en31 s⟩] H Q := by
  have hb : ∀ {H1 : Hp} {Θ : Value → Hp → Prop}, (pkC s ≠ 0 → Θ (.tuple #[.slice none 0 0, .int .i64 (pkC s)]) H1) → (pkC s = 0 → ∀ v G, Own encY 1 (pkB s) v G → Θ (.tuple #[v, .int .i64 0]) (G ++ H1)) → CallT (cx B0 old) (acall (cx B0 old) ansP (n + 10)) 53 [.agg ⟨en31 s⟩] H1 Θ := fun a b => bytes53_ct s hw a b
  have hck : ∀ {H1 : Hp} {Θ : Value → Hp → Prop}, Θ (.int .i64 (pkC s)) H1 → CallT (cx B0 old) (acall (cx B0 old) ansP (n + 10)) 55 [.agg ⟨en31 s⟩] H1 Θ := fun h => check55_ct s hw h
  have hE := leaf31 s
  refine call_in1 36 rfl Try.func17 rfl rfl ?_
  unfold en31 at hb hck hE ⊢
  repeat (first | (first | refine rt_nil ?_ | (refine isRun ?_; first | refine x1 ?_ | refine x2 ?_ | refine x3 fun _ => ?_ | refine x4 fun _ => ?_ | refine x5 fun _ => ?_ | (refine rt_step rfl rfl rfl ?_; first | refine st_buildSlice rfl (zr rfl) rfl rfl rfl rfl rfl rfl fun _ => ?_ | refine st_A rfl rfl (fun _ => rfl) rfl fun _ => ?_) | refine x8 ?_ | refine rt_skip rfl rfl rfl ?_ | refine rt_skip0 rfl rfl ?_)) | (first | refine sq_n ?_ | refine sq_r ?_ | refine sq_e ?_ | refine bk_n ?_ | refine bk_r ?_ | refine bk_e rfl ?_ | refine bk_x rfl ?_ | refine ct_seq ?_ | refine ct_region rfl ?_ | refine ct_skip ?_ | refine ct_label ?_ | refine ct_block ?_ | refine ct_exit ?_ | refine ct_ret ?_ | refine ct_scope ?_ | refine ct_true rfl ?_ | refine ct_false rfl ?_ | refine lt_step ?_))
  refine rt_step rfl rfl rfl (st_call rfl rfl rfl rfl (call_ext rfl ?_))
  repeat (first | (first | refine rt_nil ?_ | (refine isRun ?_; first | refine x1 ?_ | refine x2 ?_ | refine x3 fun _ => ?_ | refine x4 fun _ => ?_ | refine x5 fun _ => ?_ | (refine rt_step rfl rfl rfl ?_; first | refine st_buildSlice rfl (zr rfl) rfl rfl rfl rfl rfl rfl fun _ => ?_ | refine st_A rfl rfl (fun _ => rfl) rfl fun _ => ?_) | refine x8 ?_ | refine rt_skip rfl rfl rfl ?_ | refine rt_skip0 rfl rfl ?_)) | (first | refine sq_n ?_ | refine sq_r ?_ | refine sq_e ?_ | refine bk_n ?_ | refine bk_r ?_ | refine bk_e rfl ?_ | refine bk_x rfl ?_ | refine ct_seq ?_ | refine ct_region rfl ?_ | refine ct_skip ?_ | refine ct_label ?_ | refine ct_block ?_ | refine ct_exit ?_ | refine ct_ret ?_ | refine ct_scope ?_ | refine ct_true rfl ?_ | refine ct_false rfl ?_ | refine lt_step ?_))
  refine rt_step rfl rfl rfl (st_call rfl rfl rfl rfl (hb (fun hne => ?_) (fun h0 v G ho => ?_)))
  · repeat (first | (first | refine rt_nil ?_ | (refine isRun ?_; first | refine x1 ?_ | refine x2 ?_ | refine x3 fun _ => ?_ | refine x4 fun _ => ?_ | refine x5 fun _ => ?_ | (refine rt_step rfl rfl rfl ?_; first | refine st_buildSlice rfl (zr rfl) rfl rfl rfl rfl rfl rfl fun _ => ?_ | refine st_A rfl rfl (fun _ => rfl) rfl fun _ => ?_) | refine x8 ?_ | refine rt_skip rfl rfl rfl ?_ | refine rt_skip0 rfl rfl ?_)) | (first | refine sq_n ?_ | refine sq_r ?_ | refine sq_e ?_ | refine bk_n ?_ | refine bk_r ?_ | refine bk_e rfl ?_ | refine bk_x rfl ?_ | refine ct_seq ?_ | refine ct_region rfl ?_ | refine ct_skip ?_ | refine ct_label ?_ | refine ct_block ?_ | refine ct_exit ?_ | refine ct_ret ?_ | refine ct_scope ?_ | refine ct_true rfl ?_ | refine ct_false rfl ?_ | refine lt_step ?_))
    refine rt_step rfl rfl rfl (st_call rfl rfl rfl rfl (hck ?_))
    repeat (first | (first | refine rt_nil ?_ | (refine isRun ?_; first | refine x1 ?_ | refine x2 ?_ | refine x3 fun _ => ?_ | refine x4 fun _ => ?_ | refine x5 fun _ => ?_ | (refine rt_step rfl rfl rfl ?_; first | refine st_buildSlice rfl (zr rfl) rfl rfl rfl rfl rfl rfl fun _ => ?_ | refine st_A rfl rfl (fun _ => rfl) rfl fun _ => ?_) | refine x8 ?_ | refine rt_skip rfl rfl rfl ?_ | refine rt_skip0 rfl rfl ?_)) | (first | refine sq_n ?_ | refine sq_r ?_ | refine sq_e ?_ | refine bk_n ?_ | refine bk_r ?_ | refine bk_e rfl ?_ | refine bk_x rfl ?_ | refine ct_seq ?_ | refine ct_region rfl ?_ | refine ct_skip ?_ | refine ct_label ?_ | refine ct_block ?_ | refine ct_exit ?_ | refine ct_ret ?_ | refine ct_scope ?_ | refine ct_true rfl ?_ | refine ct_false rfl ?_ | refine lt_step ?_))
    refine ct_condT te_ne rfl (fun hc => absurd rfl hc) (fun hc => ?_)
    repeat (first | (first | refine rt_nil ?_ | (refine isRun ?_; first | refine x1 ?_ | refine x2 ?_ | refine x3 fun _ => ?_ | refine x4 fun _ => ?_ | refine x5 fun _ => ?_ | (refine rt_step rfl rfl rfl ?_; first | refine st_buildSlice rfl (zr rfl) rfl rfl rfl rfl rfl rfl fun _ => ?_ | refine st_A rfl rfl (fun _ => rfl) rfl fun _ => ?_) | refine x8 ?_ | refine rt_skip rfl rfl rfl ?_ | refine rt_skip0 rfl rfl ?_)) | (first | refine sq_n ?_ | refine sq_r ?_ | refine sq_e ?_ | refine bk_n ?_ | refine bk_r ?_ | refine bk_e rfl ?_ | refine bk_x rfl ?_ | refine ct_seq ?_ | refine ct_region rfl ?_ | refine ct_skip ?_ | refine ct_label ?_ | refine ct_block ?_ | refine ct_exit ?_ | refine ct_ret ?_ | refine ct_scope ?_ | refine ct_true rfl ?_ | refine ct_false rfl ?_ | refine lt_step ?_))
    refine ct_condT te_ne rfl (fun hc => ?_) (fun hc => absurd hc hne)
    repeat (first | (first | refine rt_nil ?_ | (refine isRun ?_; first | refine x1 ?_ | refine x2 ?_ | refine x3 fun _ => ?_ | refine x4 fun _ => ?_ | refine x5 fun _ => ?_ | (refine rt_step rfl rfl rfl ?_; first | refine st_buildSlice rfl (zr rfl) rfl rfl rfl rfl rfl rfl fun _ => ?_ | refine st_A rfl rfl (fun _ => rfl) rfl fun _ => ?_) | refine x8 ?_ | refine rt_skip rfl rfl rfl ?_ | refine rt_skip0 rfl rfl ?_)) | (first | refine sq_n ?_ | refine sq_r ?_ | refine sq_e ?_ | refine bk_n ?_ | refine bk_r ?_ | refine bk_e rfl ?_ | refine bk_x rfl ?_ | refine ct_seq ?_ | refine ct_region rfl ?_ | refine ct_skip ?_ | refine ct_label ?_ | refine ct_block ?_ | refine ct_exit ?_ | refine ct_ret ?_ | refine ct_scope ?_ | refine ct_true rfl ?_ | refine ct_false rfl ?_ | refine lt_step ?_))
    exact re_1 rfl rfl (List.Sublist.refl _) (hQ _)
  · obtain ⟨a1, c1, e1, g1⟩ := ho.arrW (C := cx B0 old) encY_len
    have hcv : ∀ X, CutV (cx B0 old) (G ++ X) encY 1 (pkB s) v := fun X => ho.cutV (pre := []) encY_len
    subst e1
    have hln : (pkB s).length ≤ 100000 := by rw [pkB_len]; unfold pkSz; split <;> (try split) <;> (try split) <;> decide
    have hrd : ∀ {H1 : Hp} {Θ : Value → Hp → Prop}, CutV (cx B0 old) H1 encY 1 (pkB s) (.slice a1 (pkB s).length c1) → Θ (pkV (s, 0, 0)) H1 → CallT (cx B0 old) (acall (cx B0 old) ansP (n + 10)) 61 [.slice a1 (pkB s).length c1] H1 Θ := fun h1 h2 => read61_ct h1 (pkB_Y s) hln (by rw [pkR_B hw (pkC_ok.1 h0)]; exact h2)
    unfold pkV en31 at hrd
    rw [h0] at hck
    repeat (first | (first | refine rt_nil ?_ | (refine isRun ?_; first | refine x1 ?_ | refine x2 ?_ | refine x3 fun _ => ?_ | refine x4 fun _ => ?_ | refine x5 fun _ => ?_ | (refine rt_step rfl rfl rfl ?_; first | refine st_buildSlice rfl (zr rfl) rfl rfl rfl rfl rfl rfl fun _ => ?_ | refine st_A rfl rfl (fun _ => rfl) rfl fun _ => ?_) | refine x8 ?_ | refine rt_skip rfl rfl rfl ?_ | refine rt_skip0 rfl rfl ?_)) | (first | refine sq_n ?_ | refine sq_r ?_ | refine sq_e ?_ | refine bk_n ?_ | refine bk_r ?_ | refine bk_e rfl ?_ | refine bk_x rfl ?_ | refine ct_seq ?_ | refine ct_region rfl ?_ | refine ct_skip ?_ | refine ct_label ?_ | refine ct_block ?_ | refine ct_exit ?_ | refine ct_ret ?_ | refine ct_scope ?_ | refine ct_true rfl ?_ | refine ct_false rfl ?_ | refine lt_step ?_))
    refine rt_step rfl rfl rfl (st_call rfl rfl rfl rfl (hck ?_))
    repeat (first | (first | refine rt_nil ?_ | (refine isRun ?_; first | refine x1 ?_ | refine x2 ?_ | refine x3 fun _ => ?_ | refine x4 fun _ => ?_ | refine x5 fun _ => ?_ | (refine rt_step rfl rfl rfl ?_; first | refine st_buildSlice rfl (zr rfl) rfl rfl rfl rfl rfl rfl fun _ => ?_ | refine st_A rfl rfl (fun _ => rfl) rfl fun _ => ?_) | refine x8 ?_ | refine rt_skip rfl rfl rfl ?_ | refine rt_skip0 rfl rfl ?_)) | (first | refine sq_n ?_ | refine sq_r ?_ | refine sq_e ?_ | refine bk_n ?_ | refine bk_r ?_ | refine bk_e rfl ?_ | refine bk_x rfl ?_ | refine ct_seq ?_ | refine ct_region rfl ?_ | refine ct_skip ?_ | refine ct_label ?_ | refine ct_block ?_ | refine ct_exit ?_ | refine ct_ret ?_ | refine ct_scope ?_ | refine ct_true rfl ?_ | refine ct_false rfl ?_ | refine lt_step ?_))
    refine rt_step rfl rfl rfl (st_call rfl rfl rfl rfl (hrd (hcv _) ?_))
    repeat (first | (first | refine rt_nil ?_ | (refine isRun ?_; first | refine x1 ?_ | refine x2 ?_ | refine x3 fun _ => ?_ | refine x4 fun _ => ?_ | refine x5 fun _ => ?_ | (refine rt_step rfl rfl rfl ?_; first | refine st_buildSlice rfl (zr rfl) rfl rfl rfl rfl rfl rfl fun _ => ?_ | refine st_A rfl rfl (fun _ => rfl) rfl fun _ => ?_) | refine x8 ?_ | refine rt_skip rfl rfl rfl ?_ | refine rt_skip0 rfl rfl ?_)) | (first | refine sq_n ?_ | refine sq_r ?_ | refine sq_e ?_ | refine bk_n ?_ | refine bk_r ?_ | refine bk_e rfl ?_ | refine bk_x rfl ?_ | refine ct_seq ?_ | refine ct_region rfl ?_ | refine ct_skip ?_ | refine ct_label ?_ | refine ct_block ?_ | refine ct_exit ?_ | refine ct_ret ?_ | refine ct_scope ?_ | refine ct_true rfl ?_ | refine ct_false rfl ?_ | refine lt_step ?_))
    rw [hE]
    exact re_1 rfl rfl (List.Sublist.refl _) (hQ _)
end
end Go.Proofs.Ytjdppdoakbojcaa.Abs

/- Contract of the statement PacketOnly. -/
namespace Go.Proofs.Ytjdppdoakbojcaa.Abs
open Go
set_option linter.unusedVariables false
section
variable {B0 : Nat} {old : Nat → Option (List Value)} {n : Nat} {H : Hp} {Q : Value → Hp → Prop} {L M : List Int} {bv : Value} {ad ad2 : Option Addr} {c c2 : Nat}
set_option maxRecDepth 10000
set_option maxHeartbeats 8000000
theorem only18_ct (h1 : ArrW (cx B0 old) H ad 1 encY L) (hc1 : L.length ≤ c) (hm1 : c < EL) (hy1 : ∀ y ∈ L, isY y) (h2 : ArrW (cx B0 old) H ad2 1 encY M) (hy2 : ∀ y ∈ M, isY y) (k : Int) (hk : -9223372036854775808 ≤ k ∧ k ≤ 9223372036854775807) (hll : L.length ≤ 9223372036854775807) (hml : M.length ≤ 9223372036854775807) (hQ : ∀ H', Q (.bool true) H') :
    CallT (cx B0 old) (acall (cx B0 old) ansP (n + 11)) 18 [.slice ad L.length c, .int .i64 k, .slice ad2 M.length c2] H Q := by
  have hQb : ∀ (b : Bool) H', b = true → Q (.bool b) H' := fun b H' e => by rw [e]; exact hQ _
  refine call_in3 107 rfl Try.func18 rfl rfl ?_
  repeat (first | (first | refine rt_nil ?_ | (refine isRun ?_; first | refine x1 ?_ | refine x2 ?_ | refine x3 fun _ => ?_ | refine x4 fun _ => ?_ | refine x5 fun _ => ?_ | (refine rt_step rfl rfl rfl ?_; first | refine st_buildSlice rfl (zr rfl) rfl rfl rfl rfl rfl rfl fun _ => ?_ | refine st_A rfl rfl (fun _ => rfl) rfl fun _ => ?_) | refine x8 ?_ | refine rt_skip rfl rfl rfl ?_ | refine rt_skip0 rfl rfl ?_)) | (first | refine sq_n ?_ | refine sq_r ?_ | refine sq_e ?_ | refine bk_n ?_ | refine bk_r ?_ | refine bk_e rfl ?_ | refine bk_x rfl ?_ | refine ct_seq ?_ | refine ct_region rfl ?_ | refine ct_skip ?_ | refine ct_label ?_ | refine ct_block ?_ | refine ct_exit ?_ | refine ct_ret ?_ | refine ct_scope ?_ | refine ct_true rfl ?_ | refine ct_false rfl ?_ | refine lt_step ?_))
  refine rt_step rfl rfl rfl (st_call rfl rfl rfl rfl (call_ext rfl ?_))
  repeat' (first | (first | refine rt_nil ?_ | (refine isRun ?_; first | refine x1 ?_ | refine x2 ?_ | refine x3 fun _ => ?_ | refine x4 fun _ => ?_ | refine x5 fun _ => ?_ | (refine rt_step rfl rfl rfl ?_; first | refine st_buildSlice rfl (zr rfl) rfl rfl rfl rfl rfl rfl fun _ => ?_ | refine st_A rfl rfl (fun _ => rfl) rfl fun _ => ?_) | refine x8 ?_ | refine rt_skip rfl rfl rfl ?_ | refine rt_skip0 rfl rfl ?_)) | (first | refine sq_n ?_ | refine sq_r ?_ | refine sq_e ?_ | refine bk_n ?_ | refine bk_r ?_ | refine bk_e rfl ?_ | refine bk_x rfl ?_ | refine ct_seq ?_ | refine ct_region rfl ?_ | refine ct_skip ?_ | refine ct_label ?_ | refine ct_block ?_ | refine ct_exit ?_ | refine ct_ret ?_ | refine ct_scope ?_ | refine ct_true rfl ?_ | refine ct_false rfl ?_ | refine lt_step ?_) | (first | refine pl_nil ?_ | (refine isPlan ?_; first | refine y1 ?_ | refine y2 ?_ | refine pl_skip rfl rfl rfl rfl rfl ?_ | refine pl_skip0 rfl rfl rfl rfl ?_)) | (refine isPlan ?_; refine y3 ?_) | (first | (refine isRun ?_; refine z1 (fun hc => ?_) (fun hc => ?_)) | refine z2 (fun hc => ?_) (fun hc => ?_) | (refine isPlan ?_; refine z3 (fun hc => ?_) (fun hc => ?_))))
  all_goals first | exact re_1 rfl rfl (List.Sublist.refl _) (hQ _) | skip
  have hl : L.length ≤ 300 := by omega
  have hm : M.length ≤ 300 := by omega
  by_cases he : (pkR L).2.1 = 0
  rotate_left
  · obtain ⟨e1, e2, e3⟩ := pkR_bad he
    have hrd : ∀ {H1 : Hp} {Θ : Value → Hp → Prop}, ArrW (cx B0 old) H1 ad 1 encY L → Θ (pkV (pkZ, (pkR L).2.1, (pkR L).2.2)) H1 → CallT (cx B0 old) (acall (cx B0 old) ansP (n + 10)) 61 [.slice ad L.length c] H1 Θ := fun h g => arg61_ct h hc1 hm1 hy1 (by omega) (by rw [show pkR L = (pkZ, (pkR L).2.1, (pkR L).2.2) by rw [← e1]]; exact g)
    generalize (pkR L).2.1 = er at *
    generalize (pkR L).2.2 = ea at *
    unfold pkV en31 pkZ at hrd
    refine rt_step rfl rfl rfl (st_call rfl rfl rfl rfl (hrd (h1.weak (by exact drop_auto)) ?_))
    repeat (first | (first | refine rt_nil ?_ | (refine isRun ?_; first | refine x1 ?_ | refine x2 ?_ | refine x3 fun _ => ?_ | refine x4 fun _ => ?_ | refine x5 fun _ => ?_ | (refine rt_step rfl rfl rfl ?_; first | refine st_buildSlice rfl (zr rfl) rfl rfl rfl rfl rfl rfl fun _ => ?_ | refine st_A rfl rfl (fun _ => rfl) rfl fun _ => ?_) | refine x8 ?_ | refine rt_skip rfl rfl rfl ?_ | refine rt_skip0 rfl rfl ?_)) | (first | refine sq_n ?_ | refine sq_r ?_ | refine sq_e ?_ | refine bk_n ?_ | refine bk_r ?_ | refine bk_e rfl ?_ | refine bk_x rfl ?_ | refine ct_seq ?_ | refine ct_region rfl ?_ | refine ct_skip ?_ | refine ct_label ?_ | refine ct_block ?_ | refine ct_exit ?_ | refine ct_ret ?_ | refine ct_scope ?_ | refine ct_true rfl ?_ | refine ct_false rfl ?_ | refine lt_step ?_))
    refine ct_condT te_ne rfl (fun hc => ?_) (fun hc => absurd hc he)
    repeat (first | (first | refine rt_nil ?_ | (refine isRun ?_; first | refine x1 ?_ | refine x2 ?_ | refine x3 fun _ => ?_ | refine x4 fun _ => ?_ | refine x5 fun _ => ?_ | (refine rt_step rfl rfl rfl ?_; first | refine st_buildSlice rfl (zr rfl) rfl rfl rfl rfl rfl rfl fun _ => ?_ | refine st_A rfl rfl (fun _ => rfl) rfl fun _ => ?_) | refine x8 ?_ | refine rt_skip rfl rfl rfl ?_ | refine rt_skip0 rfl rfl ?_)) | (first | refine sq_n ?_ | refine sq_r ?_ | refine sq_e ?_ | refine bk_n ?_ | refine bk_r ?_ | refine bk_e rfl ?_ | refine bk_x rfl ?_ | refine ct_seq ?_ | refine ct_region rfl ?_ | refine ct_skip ?_ | refine ct_label ?_ | refine ct_block ?_ | refine ct_exit ?_ | refine ct_ret ?_ | refine ct_scope ?_ | refine ct_true rfl ?_ | refine ct_false rfl ?_ | refine lt_step ?_))
    refine isRun ?_
    refine z1 (fun hc => ?_) (fun hc => absurd e2 hc)
    repeat (first | (first | refine rt_nil ?_ | (refine isRun ?_; first | refine x1 ?_ | refine x2 ?_ | refine x3 fun _ => ?_ | refine x4 fun _ => ?_ | refine x5 fun _ => ?_ | (refine rt_step rfl rfl rfl ?_; first | refine st_buildSlice rfl (zr rfl) rfl rfl rfl rfl rfl rfl fun _ => ?_ | refine st_A rfl rfl (fun _ => rfl) rfl fun _ => ?_) | refine x8 ?_ | refine rt_skip rfl rfl rfl ?_ | refine rt_skip0 rfl rfl ?_)) | (first | refine sq_n ?_ | refine sq_r ?_ | refine sq_e ?_ | refine bk_n ?_ | refine bk_r ?_ | refine bk_e rfl ?_ | refine bk_x rfl ?_ | refine ct_seq ?_ | refine ct_region rfl ?_ | refine ct_skip ?_ | refine ct_label ?_ | refine ct_block ?_ | refine ct_exit ?_ | refine ct_ret ?_ | refine ct_scope ?_ | refine ct_true rfl ?_ | refine ct_false rfl ?_ | refine lt_step ?_))
    exact re_1 rfl rfl (List.Sublist.refl _) (by rw [decide_eq_true e3]; exact hQ _)
  have ok := pkR_ok he
  have h14 := ok.l14
  have hLne : L ≠ [] := fun e => by rw [e] at h14; simp at h14
  have hw := pkD_wf hy1
  have hcv : ∀ {H1}, H.Sublist H1 → CutV (cx B0 old) H1 encY 1 L (.slice ad L.length c) := fun hs => arg_cutV (h1.weak hs) hLne hc1 hm1
  have hrd : ∀ {H1 : Hp} {Θ : Value → Hp → Prop}, H.Sublist H1 → Θ (pkV (pkD L, 0, 0)) H1 → CallT (cx B0 old) (acall (cx B0 old) ansP (n + 10)) 61 [.slice ad L.length c] H1 Θ := fun h g => read61_ct (hcv h) hy1 (by omega) (by rw [ok.res]; exact g)
  have hb : ∀ {H1 : Hp} {Θ : Value → Hp → Prop}, (∀ v G, Own encY 1 L v G → Θ (.tuple #[v, .int .i64 0]) (G ++ H1)) → CallT (cx B0 old) (acall (cx B0 old) ansP (n + 10)) 53 [.agg ⟨en31 (pkD L)⟩] H1 Θ := fun b => bytes53_ct _ hw (fun h => absurd ok.ck h) (fun _ v G ho => b v G (by rw [ok.eq] at ho; exact ho))
  have hcut := fun c hc => ok.cut (c := c) hc
  have hmore := fun hne => ok.more (m := M) hne
  have hres := ok.res
  clear ok
  generalize pkD L = s at *
  unfold pkV en31 at hrd
  unfold en31 at hb
  refine rt_step rfl rfl rfl (st_call rfl rfl rfl rfl (hrd (by exact drop_auto) ?_))
  repeat (first | (first | refine rt_nil ?_ | (refine isRun ?_; first | refine x1 ?_ | refine x2 ?_ | refine x3 fun _ => ?_ | refine x4 fun _ => ?_ | refine x5 fun _ => ?_ | (refine rt_step rfl rfl rfl ?_; first | refine st_buildSlice rfl (zr rfl) rfl rfl rfl rfl rfl rfl fun _ => ?_ | refine st_A rfl rfl (fun _ => rfl) rfl fun _ => ?_) | refine x8 ?_ | refine rt_skip rfl rfl rfl ?_ | refine rt_skip0 rfl rfl ?_)) | (first | refine sq_n ?_ | refine sq_r ?_ | refine sq_e ?_ | refine bk_n ?_ | refine bk_r ?_ | refine bk_e rfl ?_ | refine bk_x rfl ?_ | refine ct_seq ?_ | refine ct_region rfl ?_ | refine ct_skip ?_ | refine ct_label ?_ | refine ct_block ?_ | refine ct_exit ?_ | refine ct_ret ?_ | refine ct_scope ?_ | refine ct_true rfl ?_ | refine ct_false rfl ?_ | refine lt_step ?_))
  refine rt_step rfl rfl rfl (st_call rfl rfl rfl rfl (hb fun v G ho => ?_))
  obtain ⟨a1, c1, e1, g1⟩ := ho.arrW (C := cx B0 old) encY_len
  subst e1
  repeat (first | (first | refine rt_nil ?_ | (refine isRun ?_; first | refine x1 ?_ | refine x2 ?_ | refine x3 fun _ => ?_ | refine x4 fun _ => ?_ | refine x5 fun _ => ?_ | (refine rt_step rfl rfl rfl ?_; first | refine st_buildSlice rfl (zr rfl) rfl rfl rfl rfl rfl rfl fun _ => ?_ | refine st_A rfl rfl (fun _ => rfl) rfl fun _ => ?_) | refine x8 ?_ | refine rt_skip rfl rfl rfl ?_ | refine rt_skip0 rfl rfl ?_)) | (first | refine sq_n ?_ | refine sq_r ?_ | refine sq_e ?_ | refine bk_n ?_ | refine bk_r ?_ | refine bk_e rfl ?_ | refine bk_x rfl ?_ | refine ct_seq ?_ | refine ct_region rfl ?_ | refine ct_skip ?_ | refine ct_label ?_ | refine ct_block ?_ | refine ct_exit ?_ | refine ct_ret ?_ | refine ct_scope ?_ | refine ct_true rfl ?_ | refine ct_false rfl ?_ | refine lt_step ?_))
  apply rt_r rfl rfl rfl
  case hp => exact rd_str (g1 [] _) rfl rfl rfl rfl (.inl hLne)
  repeat (first | (first | refine rt_nil ?_ | (refine isRun ?_; first | refine x1 ?_ | refine x2 ?_ | refine x3 fun _ => ?_ | refine x4 fun _ => ?_ | refine x5 fun _ => ?_ | (refine rt_step rfl rfl rfl ?_; first | refine st_buildSlice rfl (zr rfl) rfl rfl rfl rfl rfl rfl fun _ => ?_ | refine st_A rfl rfl (fun _ => rfl) rfl fun _ => ?_) | refine x8 ?_ | refine rt_skip rfl rfl rfl ?_ | refine rt_skip0 rfl rfl ?_)) | (first | refine sq_n ?_ | refine sq_r ?_ | refine sq_e ?_ | refine bk_n ?_ | refine bk_r ?_ | refine bk_e rfl ?_ | refine bk_x rfl ?_ | refine ct_seq ?_ | refine ct_region rfl ?_ | refine ct_skip ?_ | refine ct_label ?_ | refine ct_block ?_ | refine ct_exit ?_ | refine ct_ret ?_ | refine ct_scope ?_ | refine ct_true rfl ?_ | refine ct_false rfl ?_ | refine lt_step ?_))
  apply rt_r rfl rfl rfl
  case hp => exact rd_str (h1.weak (by exact drop_auto)) rfl rfl rfl rfl (.inl hLne)
  apply rt_p rfl rfl rfl
  case hp => exact p_neqStr rfl rfl hy1 hy1
  rw [decide_eq_true (rfl : L = L)]
  repeat (first | (first | refine rt_nil ?_ | (refine isRun ?_; first | refine x1 ?_ | refine x2 ?_ | refine x3 fun _ => ?_ | refine x4 fun _ => ?_ | refine x5 fun _ => ?_ | (refine rt_step rfl rfl rfl ?_; first | refine st_buildSlice rfl (zr rfl) rfl rfl rfl rfl rfl rfl fun _ => ?_ | refine st_A rfl rfl (fun _ => rfl) rfl fun _ => ?_) | refine x8 ?_ | refine rt_skip rfl rfl rfl ?_ | refine rt_skip0 rfl rfl ?_)) | (first | refine sq_n ?_ | refine sq_r ?_ | refine sq_e ?_ | refine bk_n ?_ | refine bk_r ?_ | refine bk_e rfl ?_ | refine bk_x rfl ?_ | refine ct_seq ?_ | refine ct_region rfl ?_ | refine ct_skip ?_ | refine ct_label ?_ | refine ct_block ?_ | refine ct_exit ?_ | refine ct_ret ?_ | refine ct_scope ?_ | refine ct_true rfl ?_ | refine ct_false rfl ?_ | refine lt_step ?_))
  refine rt_step rfl rfl rfl (st_call rfl rfl rfl rfl (pick33_ct k L.length (by omega) (by omega) hk fun y hyl => ?_))
  have hyl : y < L.length := by omega
  have hny : (some (Value.int .i64 (y : Int))).bind natOf = some y := by simp [natOf]
  obtain ⟨v2, e2, _⟩ := (hcv (List.Sublist.refl _)).part encY_len (t := 34) (e := 5) (lo := none) (hi := some (.int .i64 (y : Int))) 0 y rfl (sz rfl) (by omega) (by omega) (.inr ⟨rfl, rfl⟩) (.inl hny)
  have g2 : ∀ {H1}, H.Sublist H1 → CutV (cx B0 old) H1 encY 1 (L.take y) v2 := fun hs => by
    obtain ⟨v2', e2', g2⟩ := (hcv hs).part encY_len (t := 34) (e := 5) (lo := none) (hi := some (.int .i64 (y : Int))) 0 y rfl (sz rfl) (by omega) (by omega) (.inr ⟨rfl, rfl⟩) (.inl hny)
    rw [e2] at e2'
    cases e2'
    exact g2
  have hrd2 : ∀ {H1 : Hp} {Θ : Value → Hp → Prop}, H.Sublist H1 → Θ (pkV (pkZ, 4, (y : Int))) H1 → CallT (cx B0 old) (acall (cx B0 old) ansP (n + 10)) 61 [v2] H1 Θ := fun h g => read61_ct (g2 h) (take_Y hy1 y) (by rw [List.length_take]; omega) (by rw [hcut y hyl]; exact g)
  unfold pkV en31 pkZ at hrd2
  repeat (first | (first | refine rt_nil ?_ | (refine isRun ?_; first | refine x1 ?_ | refine x2 ?_ | refine x3 fun _ => ?_ | refine x4 fun _ => ?_ | refine x5 fun _ => ?_ | (refine rt_step rfl rfl rfl ?_; first | refine st_buildSlice rfl (zr rfl) rfl rfl rfl rfl rfl rfl fun _ => ?_ | refine st_A rfl rfl (fun _ => rfl) rfl fun _ => ?_) | refine x8 ?_ | refine rt_skip rfl rfl rfl ?_ | refine rt_skip0 rfl rfl ?_)) | (first | refine sq_n ?_ | refine sq_r ?_ | refine sq_e ?_ | refine bk_n ?_ | refine bk_r ?_ | refine bk_e rfl ?_ | refine bk_x rfl ?_ | refine ct_seq ?_ | refine ct_region rfl ?_ | refine ct_skip ?_ | refine ct_label ?_ | refine ct_block ?_ | refine ct_exit ?_ | refine ct_ret ?_ | refine ct_scope ?_ | refine ct_true rfl ?_ | refine ct_false rfl ?_ | refine lt_step ?_))
  apply rt_p rfl rfl rfl
  case hp => exact p_slc rfl rfl rfl e2
  refine rt_step rfl rfl rfl (st_call rfl rfl rfl rfl (hrd2 (by exact drop_auto) ?_))
  repeat (first | (first | refine rt_nil ?_ | (refine isRun ?_; first | refine x1 ?_ | refine x2 ?_ | refine x3 fun _ => ?_ | refine x4 fun _ => ?_ | refine x5 fun _ => ?_ | (refine rt_step rfl rfl rfl ?_; first | refine st_buildSlice rfl (zr rfl) rfl rfl rfl rfl rfl rfl fun _ => ?_ | refine st_A rfl rfl (fun _ => rfl) rfl fun _ => ?_) | refine x8 ?_ | refine rt_skip rfl rfl rfl ?_ | refine rt_skip0 rfl rfl ?_)) | (first | refine sq_n ?_ | refine sq_r ?_ | refine sq_e ?_ | refine bk_n ?_ | refine bk_r ?_ | refine bk_e rfl ?_ | refine bk_x rfl ?_ | refine ct_seq ?_ | refine ct_region rfl ?_ | refine ct_skip ?_ | refine ct_label ?_ | refine ct_block ?_ | refine ct_exit ?_ | refine ct_ret ?_ | refine ct_scope ?_ | refine ct_true rfl ?_ | refine ct_false rfl ?_ | refine lt_step ?_))
  refine rt_step rfl rfl rfl (st_call rfl rfl rfl rfl (own31_ct (h1.weak (by exact drop_auto)) (by omega) fun v3 G3 o3 => ?_))
  repeat (first | (first | refine rt_nil ?_ | (refine isRun ?_; first | refine x1 ?_ | refine x2 ?_ | refine x3 fun _ => ?_ | refine x4 fun _ => ?_ | refine x5 fun _ => ?_ | (refine rt_step rfl rfl rfl ?_; first | refine st_buildSlice rfl (zr rfl) rfl rfl rfl rfl rfl rfl fun _ => ?_ | refine st_A rfl rfl (fun _ => rfl) rfl fun _ => ?_) | refine x8 ?_ | refine rt_skip rfl rfl rfl ?_ | refine rt_skip0 rfl rfl ?_)) | (first | refine sq_n ?_ | refine sq_r ?_ | refine sq_e ?_ | refine bk_n ?_ | refine bk_r ?_ | refine bk_e rfl ?_ | refine bk_x rfl ?_ | refine ct_seq ?_ | refine ct_region rfl ?_ | refine ct_skip ?_ | refine ct_label ?_ | refine ct_block ?_ | refine ct_exit ?_ | refine ct_ret ?_ | refine ct_scope ?_ | refine ct_true rfl ?_ | refine ct_false rfl ?_ | refine lt_step ?_))
  refine rt_step rfl rfl rfl (st_appO (pre := []) (M := M) (c := c2) o3 encY_len encY_one rfl rfl (ap rfl) (h2.weak (by exact drop_auto)) (by show _ * (1 + 1) ≤ _; omega) fun v4 G4 o4 => ?_)
  have hy4 := app_Y hy1 hy2
  have hEy : leafsEq [.int .i64 4, .int .i64 (y : Int)] [.int .i64 4, .int .i64 (y : Int)] = true := by simp [leafsEq, leaf0]
  by_cases hM : M = []
  · have hrd3 : ∀ {H1 : Hp} {Θ : Value → Hp → Prop}, CutV (cx B0 old) H1 encY 1 (L ++ M) v4 → Θ (pkV (s, 0, 0)) H1 → CallT (cx B0 old) (acall (cx B0 old) ansP (n + 10)) 61 [v4] H1 Θ := fun h g => read61_ct h hy4 (by rw [List.length_append]; omega) (by rw [hM, List.append_nil, hres]; exact g)
    unfold pkV en31 at hrd3
    refine rt_step rfl rfl rfl (st_call rfl rfl rfl rfl (hrd3 (o4.cutV (pre := []) encY_len) ?_))
    have hM0 : M.length = 0 := by rw [hM]; rfl
    repeat (first | (first | refine rt_nil ?_ | (refine isRun ?_; first | refine x1 ?_ | refine x2 ?_ | refine x3 fun _ => ?_ | refine x4 fun _ => ?_ | refine x5 fun _ => ?_ | (refine rt_step rfl rfl rfl ?_; first | refine st_buildSlice rfl (zr rfl) rfl rfl rfl rfl rfl rfl fun _ => ?_ | refine st_A rfl rfl (fun _ => rfl) rfl fun _ => ?_) | refine x8 ?_ | refine rt_skip rfl rfl rfl ?_ | refine rt_skip0 rfl rfl ?_)) | (first | refine sq_n ?_ | refine sq_r ?_ | refine sq_e ?_ | refine bk_n ?_ | refine bk_r ?_ | refine bk_e rfl ?_ | refine bk_x rfl ?_ | refine ct_seq ?_ | refine ct_region rfl ?_ | refine ct_skip ?_ | refine ct_label ?_ | refine ct_block ?_ | refine ct_exit ?_ | refine ct_ret ?_ | refine ct_scope ?_ | refine ct_true rfl ?_ | refine ct_false rfl ?_ | refine lt_step ?_))
    refine isRun ?_
    refine z1 (fun hc => ?_) (fun hc => Bool.noConfusion (hEy.symm.trans hc))
    clear hc
    repeat (first | (first | refine rt_nil ?_ | (refine isRun ?_; first | refine x1 ?_ | refine x2 ?_ | refine x3 fun _ => ?_ | refine x4 fun _ => ?_ | refine x5 fun _ => ?_ | (refine rt_step rfl rfl rfl ?_; first | refine st_buildSlice rfl (zr rfl) rfl rfl rfl rfl rfl rfl fun _ => ?_ | refine st_A rfl rfl (fun _ => rfl) rfl fun _ => ?_) | refine x8 ?_ | refine rt_skip rfl rfl rfl ?_ | refine rt_skip0 rfl rfl ?_)) | (first | refine sq_n ?_ | refine sq_r ?_ | refine sq_e ?_ | refine bk_n ?_ | refine bk_r ?_ | refine bk_e rfl ?_ | refine bk_x rfl ?_ | refine ct_seq ?_ | refine ct_region rfl ?_ | refine ct_skip ?_ | refine ct_label ?_ | refine ct_block ?_ | refine ct_exit ?_ | refine ct_ret ?_ | refine ct_scope ?_ | refine ct_true rfl ?_ | refine ct_false rfl ?_ | refine lt_step ?_))
    refine isRun ?_
    refine z1 (fun hc => ?_) (fun hc => ?_)
    · repeat (first | (first | refine rt_nil ?_ | (refine isRun ?_; first | refine x1 ?_ | refine x2 ?_ | refine x3 fun _ => ?_ | refine x4 fun _ => ?_ | refine x5 fun _ => ?_ | (refine rt_step rfl rfl rfl ?_; first | refine st_buildSlice rfl (zr rfl) rfl rfl rfl rfl rfl rfl fun _ => ?_ | refine st_A rfl rfl (fun _ => rfl) rfl fun _ => ?_) | refine x8 ?_ | refine rt_skip rfl rfl rfl ?_ | refine rt_skip0 rfl rfl ?_)) | (first | refine sq_n ?_ | refine sq_r ?_ | refine sq_e ?_ | refine bk_n ?_ | refine bk_r ?_ | refine bk_e rfl ?_ | refine bk_x rfl ?_ | refine ct_seq ?_ | refine ct_region rfl ?_ | refine ct_skip ?_ | refine ct_label ?_ | refine ct_block ?_ | refine ct_exit ?_ | refine ct_ret ?_ | refine ct_scope ?_ | refine ct_true rfl ?_ | refine ct_false rfl ?_ | refine lt_step ?_))
      exact re_1 rfl rfl (List.Sublist.refl _) (hQ _)
    · exfalso; omega
  · have hrd3 : ∀ {H1 : Hp} {Θ : Value → Hp → Prop}, CutV (cx B0 old) H1 encY 1 (L ++ M) v4 → Θ (pkV (pkZ, 5, (L.length : Int))) H1 → CallT (cx B0 old) (acall (cx B0 old) ansP (n + 10)) 61 [v4] H1 Θ := fun h g => read61_ct h hy4 (by rw [List.length_append]; omega) (by rw [hmore hM]; exact g)
    unfold pkV en31 pkZ at hrd3
    have hEl : leafsEq [.int .i64 5, .int .i64 (L.length : Int)] [.int .i64 5, .int .i64 (L.length : Int)] = true := by simp [leafsEq, leaf0]
    refine rt_step rfl rfl rfl (st_call rfl rfl rfl rfl (hrd3 (o4.cutV (pre := []) encY_len) ?_))
    have hM0 : 0 < M.length := List.length_pos_iff.2 hM
    repeat (first | (first | refine rt_nil ?_ | (refine isRun ?_; first | refine x1 ?_ | refine x2 ?_ | refine x3 fun _ => ?_ | refine x4 fun _ => ?_ | refine x5 fun _ => ?_ | (refine rt_step rfl rfl rfl ?_; first | refine st_buildSlice rfl (zr rfl) rfl rfl rfl rfl rfl rfl fun _ => ?_ | refine st_A rfl rfl (fun _ => rfl) rfl fun _ => ?_) | refine x8 ?_ | refine rt_skip rfl rfl rfl ?_ | refine rt_skip0 rfl rfl ?_)) | (first | refine sq_n ?_ | refine sq_r ?_ | refine sq_e ?_ | refine bk_n ?_ | refine bk_r ?_ | refine bk_e rfl ?_ | refine bk_x rfl ?_ | refine ct_seq ?_ | refine ct_region rfl ?_ | refine ct_skip ?_ | refine ct_label ?_ | refine ct_block ?_ | refine ct_exit ?_ | refine ct_ret ?_ | refine ct_scope ?_ | refine ct_true rfl ?_ | refine ct_false rfl ?_ | refine lt_step ?_))
    refine isRun ?_
    refine z1 (fun hc => ?_) (fun hc => Bool.noConfusion (hEy.symm.trans hc))
    clear hc
    repeat (first | (first | refine rt_nil ?_ | (refine isRun ?_; first | refine x1 ?_ | refine x2 ?_ | refine x3 fun _ => ?_ | refine x4 fun _ => ?_ | refine x5 fun _ => ?_ | (refine rt_step rfl rfl rfl ?_; first | refine st_buildSlice rfl (zr rfl) rfl rfl rfl rfl rfl rfl fun _ => ?_ | refine st_A rfl rfl (fun _ => rfl) rfl fun _ => ?_) | refine x8 ?_ | refine rt_skip rfl rfl rfl ?_ | refine rt_skip0 rfl rfl ?_)) | (first | refine sq_n ?_ | refine sq_r ?_ | refine sq_e ?_ | refine bk_n ?_ | refine bk_r ?_ | refine bk_e rfl ?_ | refine bk_x rfl ?_ | refine ct_seq ?_ | refine ct_region rfl ?_ | refine ct_skip ?_ | refine ct_label ?_ | refine ct_block ?_ | refine ct_exit ?_ | refine ct_ret ?_ | refine ct_scope ?_ | refine ct_true rfl ?_ | refine ct_false rfl ?_ | refine lt_step ?_))
    refine isRun ?_
    refine z1 (fun hc => ?_) (fun hc => ?_)
    · exfalso; omega
    repeat (first | (first | refine rt_nil ?_ | (refine isRun ?_; first | refine x1 ?_ | refine x2 ?_ | refine x3 fun _ => ?_ | refine x4 fun _ => ?_ | refine x5 fun _ => ?_ | (refine rt_step rfl rfl rfl ?_; first | refine st_buildSlice rfl (zr rfl) rfl rfl rfl rfl rfl rfl fun _ => ?_ | refine st_A rfl rfl (fun _ => rfl) rfl fun _ => ?_) | refine x8 ?_ | refine rt_skip rfl rfl rfl ?_ | refine rt_skip0 rfl rfl ?_)) | (first | refine sq_n ?_ | refine sq_r ?_ | refine sq_e ?_ | refine bk_n ?_ | refine bk_r ?_ | refine bk_e rfl ?_ | refine bk_x rfl ?_ | refine ct_seq ?_ | refine ct_region rfl ?_ | refine ct_skip ?_ | refine ct_label ?_ | refine ct_block ?_ | refine ct_exit ?_ | refine ct_ret ?_ | refine ct_scope ?_ | refine ct_true rfl ?_ | refine ct_false rfl ?_ | refine lt_step ?_))
    refine isRun ?_
    refine z1 (fun hc => ?_) (fun hc => ?_)
    · repeat (first | (first | refine rt_nil ?_ | (refine isRun ?_; first | refine x1 ?_ | refine x2 ?_ | refine x3 fun _ => ?_ | refine x4 fun _ => ?_ | refine x5 fun _ => ?_ | (refine rt_step rfl rfl rfl ?_; first | refine st_buildSlice rfl (zr rfl) rfl rfl rfl rfl rfl rfl fun _ => ?_ | refine st_A rfl rfl (fun _ => rfl) rfl fun _ => ?_) | refine x8 ?_ | refine rt_skip rfl rfl rfl ?_ | refine rt_skip0 rfl rfl ?_)) | (first | refine sq_n ?_ | refine sq_r ?_ | refine sq_e ?_ | refine bk_n ?_ | refine bk_r ?_ | refine bk_e rfl ?_ | refine bk_x rfl ?_ | refine ct_seq ?_ | refine ct_region rfl ?_ | refine ct_skip ?_ | refine ct_label ?_ | refine ct_block ?_ | refine ct_exit ?_ | refine ct_ret ?_ | refine ct_scope ?_ | refine ct_true rfl ?_ | refine ct_false rfl ?_ | refine lt_step ?_))
      exact re_1 rfl rfl (List.Sublist.refl _) (hQb _ _ hEl)
    · exfalso; omega
end
end Go.Proofs.Ytjdppdoakbojcaa.Abs

/- Contract of the statement PacketSums. -/
namespace Go.Proofs.Ytjdppdoakbojcaa.Abs
open Go
set_option linter.unusedVariables false
section
variable {B0 : Nat} {old : Nat → Option (List Value)} {n : Nat} {H : Hp} {Q : Value → Hp → Prop}
set_option maxRecDepth 10000
set_option maxHeartbeats 8000000
theorem sums19_ct (s : S31) (hw : s.wf) (k val : Int) (hk : -9223372036854775808 ≤ k ∧ k ≤ 9223372036854775807) (hv : isY val) (hQ : ∀ H', Q (.bool true) H') :
    CallT (cx B0 old) (acall (cx B0 old) ansP (n + 11)) 19 [.agg ⟨en31 s⟩, .int .i64 k, .int .u8 val] H Q := by
  have hQb : ∀ (b : Bool) H', b = true → Q (.bool b) H' := fun b H' e => by rw [e]; exact hQ _
  have hb : ∀ {H1 : Hp} {Θ : Value → Hp → Prop}, (pkC s ≠ 0 → Θ (.tuple #[.slice none 0 0, .int .i64 (pkC s)]) H1) → (pkC s = 0 → ∀ v G, Own encY 1 (pkB s) v G → Θ (.tuple #[v, .int .i64 0]) (G ++ H1)) → CallT (cx B0 old) (acall (cx B0 old) ansP (n + 10)) 53 [.agg ⟨en31 s⟩] H1 Θ := fun a b => bytes53_ct s hw a b
  refine call_in3 60 rfl Try.func19 rfl rfl ?_
  unfold en31 at hb ⊢
  repeat (first | (first | refine rt_nil ?_ | (refine isRun ?_; first | refine x1 ?_ | refine x2 ?_ | refine x3 fun _ => ?_ | refine x4 fun _ => ?_ | refine x5 fun _ => ?_ | (refine rt_step rfl rfl rfl ?_; first | refine st_buildSlice rfl (zr rfl) rfl rfl rfl rfl rfl rfl fun _ => ?_ | refine st_A rfl rfl (fun _ => rfl) rfl fun _ => ?_) | refine x8 ?_ | refine rt_skip rfl rfl rfl ?_ | refine rt_skip0 rfl rfl ?_)) | (first | refine sq_n ?_ | refine sq_r ?_ | refine sq_e ?_ | refine bk_n ?_ | refine bk_r ?_ | refine bk_e rfl ?_ | refine bk_x rfl ?_ | refine ct_seq ?_ | refine ct_region rfl ?_ | refine ct_skip ?_ | refine ct_label ?_ | refine ct_block ?_ | refine ct_exit ?_ | refine ct_ret ?_ | refine ct_scope ?_ | refine ct_true rfl ?_ | refine ct_false rfl ?_ | refine lt_step ?_))
  refine rt_step rfl rfl rfl (st_call rfl rfl rfl rfl (call_ext rfl ?_))
  repeat (first | (first | refine rt_nil ?_ | (refine isRun ?_; first | refine x1 ?_ | refine x2 ?_ | refine x3 fun _ => ?_ | refine x4 fun _ => ?_ | refine x5 fun _ => ?_ | (refine rt_step rfl rfl rfl ?_; first | refine st_buildSlice rfl (zr rfl) rfl rfl rfl rfl rfl rfl fun _ => ?_ | refine st_A rfl rfl (fun _ => rfl) rfl fun _ => ?_) | refine x8 ?_ | refine rt_skip rfl rfl rfl ?_ | refine rt_skip0 rfl rfl ?_)) | (first | refine sq_n ?_ | refine sq_r ?_ | refine sq_e ?_ | refine bk_n ?_ | refine bk_r ?_ | refine bk_e rfl ?_ | refine bk_x rfl ?_ | refine ct_seq ?_ | refine ct_region rfl ?_ | refine ct_skip ?_ | refine ct_label ?_ | refine ct_block ?_ | refine ct_exit ?_ | refine ct_ret ?_ | refine ct_scope ?_ | refine ct_true rfl ?_ | refine ct_false rfl ?_ | refine lt_step ?_))
  refine rt_step rfl rfl rfl (st_call rfl rfl rfl rfl (hb (fun hne => ?_) (fun h0 v G ho => ?_)))
  · repeat (first | (first | refine rt_nil ?_ | (refine isRun ?_; first | refine x1 ?_ | refine x2 ?_ | refine x3 fun _ => ?_ | refine x4 fun _ => ?_ | refine x5 fun _ => ?_ | (refine rt_step rfl rfl rfl ?_; first | refine st_buildSlice rfl (zr rfl) rfl rfl rfl rfl rfl rfl fun _ => ?_ | refine st_A rfl rfl (fun _ => rfl) rfl fun _ => ?_) | refine x8 ?_ | refine rt_skip rfl rfl rfl ?_ | refine rt_skip0 rfl rfl ?_)) | (first | refine sq_n ?_ | refine sq_r ?_ | refine sq_e ?_ | refine bk_n ?_ | refine bk_r ?_ | refine bk_e rfl ?_ | refine bk_x rfl ?_ | refine ct_seq ?_ | refine ct_region rfl ?_ | refine ct_skip ?_ | refine ct_label ?_ | refine ct_block ?_ | refine ct_exit ?_ | refine ct_ret ?_ | refine ct_scope ?_ | refine ct_true rfl ?_ | refine ct_false rfl ?_ | refine lt_step ?_))
    refine isRun ?_
    refine z1 (fun hc => ?_) (fun hc => absurd hc hne)
    repeat (first | (first | refine rt_nil ?_ | (refine isRun ?_; first | refine x1 ?_ | refine x2 ?_ | refine x3 fun _ => ?_ | refine x4 fun _ => ?_ | refine x5 fun _ => ?_ | (refine rt_step rfl rfl rfl ?_; first | refine st_buildSlice rfl (zr rfl) rfl rfl rfl rfl rfl rfl fun _ => ?_ | refine st_A rfl rfl (fun _ => rfl) rfl fun _ => ?_) | refine x8 ?_ | refine rt_skip rfl rfl rfl ?_ | refine rt_skip0 rfl rfl ?_)) | (first | refine sq_n ?_ | refine sq_r ?_ | refine sq_e ?_ | refine bk_n ?_ | refine bk_r ?_ | refine bk_e rfl ?_ | refine bk_x rfl ?_ | refine ct_seq ?_ | refine ct_region rfl ?_ | refine ct_skip ?_ | refine ct_label ?_ | refine ct_block ?_ | refine ct_exit ?_ | refine ct_ret ?_ | refine ct_scope ?_ | refine ct_true rfl ?_ | refine ct_false rfl ?_ | refine lt_step ?_))
    exact re_1 rfl rfl (List.Sublist.refl _) (hQ _)
  obtain ⟨a1, c1, e1, g1⟩ := ho.arrW (C := cx B0 old) encY_len
  have hcv : ∀ X, CutV (cx B0 old) (G ++ X) encY 1 (pkB s) v := fun X => ho.cutV (pre := []) encY_len
  have hok := pkC_ok.1 h0
  have hYs := pkB_Y s
  subst e1
  repeat (first | (first | refine rt_nil ?_ | (refine isRun ?_; first | refine x1 ?_ | refine x2 ?_ | refine x3 fun _ => ?_ | refine x4 fun _ => ?_ | refine x5 fun _ => ?_ | (refine rt_step rfl rfl rfl ?_; first | refine st_buildSlice rfl (zr rfl) rfl rfl rfl rfl rfl rfl fun _ => ?_ | refine st_A rfl rfl (fun _ => rfl) rfl fun _ => ?_) | refine x8 ?_ | refine rt_skip rfl rfl rfl ?_ | refine rt_skip0 rfl rfl ?_)) | (first | refine sq_n ?_ | refine sq_r ?_ | refine sq_e ?_ | refine bk_n ?_ | refine bk_r ?_ | refine bk_e rfl ?_ | refine bk_x rfl ?_ | refine ct_seq ?_ | refine ct_region rfl ?_ | refine ct_skip ?_ | refine ct_label ?_ | refine ct_block ?_ | refine ct_exit ?_ | refine ct_ret ?_ | refine ct_scope ?_ | refine ct_true rfl ?_ | refine ct_false rfl ?_ | refine lt_step ?_))
  refine ct_condT te_ne rfl (fun hc => ?_) (fun hc => ?_)
  · repeat (first | (first | refine rt_nil ?_ | (refine isRun ?_; first | refine x1 ?_ | refine x2 ?_ | refine x3 fun _ => ?_ | refine x4 fun _ => ?_ | refine x5 fun _ => ?_ | (refine rt_step rfl rfl rfl ?_; first | refine st_buildSlice rfl (zr rfl) rfl rfl rfl rfl rfl rfl fun _ => ?_ | refine st_A rfl rfl (fun _ => rfl) rfl fun _ => ?_) | refine x8 ?_ | refine rt_skip rfl rfl rfl ?_ | refine rt_skip0 rfl rfl ?_)) | (first | refine sq_n ?_ | refine sq_r ?_ | refine sq_e ?_ | refine bk_n ?_ | refine bk_r ?_ | refine bk_e rfl ?_ | refine bk_x rfl ?_ | refine ct_seq ?_ | refine ct_region rfl ?_ | refine ct_skip ?_ | refine ct_label ?_ | refine ct_block ?_ | refine ct_exit ?_ | refine ct_ret ?_ | refine ct_scope ?_ | refine ct_true rfl ?_ | refine ct_false rfl ?_ | refine lt_step ?_))
    exact re_1 rfl rfl (List.Sublist.refl _) (hQ _)
  have hlen : 42 ≤ (pkB s).length ∧ (pkB s).length ≤ 50 := by
    rw [pkB_len]; unfold pkSz
    rw [if_neg (by omega), if_pos hc]
    split <;> decide
  repeat (first | (first | refine rt_nil ?_ | (refine isRun ?_; first | refine x1 ?_ | refine x2 ?_ | refine x3 fun _ => ?_ | refine x4 fun _ => ?_ | refine x5 fun _ => ?_ | (refine rt_step rfl rfl rfl ?_; first | refine st_buildSlice rfl (zr rfl) rfl rfl rfl rfl rfl rfl fun _ => ?_ | refine st_A rfl rfl (fun _ => rfl) rfl fun _ => ?_) | refine x8 ?_ | refine rt_skip rfl rfl rfl ?_ | refine rt_skip0 rfl rfl ?_)) | (first | refine sq_n ?_ | refine sq_r ?_ | refine sq_e ?_ | refine bk_n ?_ | refine bk_r ?_ | refine bk_e rfl ?_ | refine bk_x rfl ?_ | refine ct_seq ?_ | refine ct_region rfl ?_ | refine ct_skip ?_ | refine ct_label ?_ | refine ct_block ?_ | refine ct_exit ?_ | refine ct_ret ?_ | refine ct_scope ?_ | refine ct_true rfl ?_ | refine ct_false rfl ?_ | refine lt_step ?_))
  refine ct_condT te_d rfl (fun hd => ?_) (fun hd => ?_)
  · exfalso; omega
  repeat (first | (first | refine rt_nil ?_ | (refine isRun ?_; first | refine x1 ?_ | refine x2 ?_ | refine x3 fun _ => ?_ | refine x4 fun _ => ?_ | refine x5 fun _ => ?_ | (refine rt_step rfl rfl rfl ?_; first | refine st_buildSlice rfl (zr rfl) rfl rfl rfl rfl rfl rfl fun _ => ?_ | refine st_A rfl rfl (fun _ => rfl) rfl fun _ => ?_) | refine x8 ?_ | refine rt_skip rfl rfl rfl ?_ | refine rt_skip0 rfl rfl ?_)) | (first | refine sq_n ?_ | refine sq_r ?_ | refine sq_e ?_ | refine bk_n ?_ | refine bk_r ?_ | refine bk_e rfl ?_ | refine bk_x rfl ?_ | refine ct_seq ?_ | refine ct_region rfl ?_ | refine ct_skip ?_ | refine ct_label ?_ | refine ct_block ?_ | refine ct_exit ?_ | refine ct_ret ?_ | refine ct_scope ?_ | refine ct_true rfl ?_ | refine ct_false rfl ?_ | refine lt_step ?_))
  refine rt_step rfl rfl rfl (st_call rfl rfl rfl rfl (pick33_ct k 20 (by decide) (by decide) hk fun y hyl => ?_))
  have hyl : y < 20 := by omega
  obtain ⟨v2, e2, _⟩ := (hcv []).part encY_len (t := 34) (e := 5) (lo := some (.int .i64 14)) (hi := some (.int .i64 34)) 14 34 rfl (sz rfl) (by omega) (by omega) (.inl rfl) (.inl rfl)
  have g2 : ∀ X, CutV (cx B0 old) (G ++ X) encY 1 (sub (pkB s) 14 20) v2 := fun X => by
    obtain ⟨v2', e2', g2⟩ := (hcv X).part encY_len (t := 34) (e := 5) (lo := some (.int .i64 14)) (hi := some (.int .i64 34)) 14 34 rfl (sz rfl) (by omega) (by omega) (.inl rfl) (.inl rfl)
    rw [e2] at e2'
    cases e2'
    exact g2
  obtain ⟨ad2, c2, e3, _⟩ := (g2 []).arr
  subst e3
  have g3 : ∀ X, Arr (cx B0 old) (G ++ X) ad2 1 encY (sub (pkB s) 14 20) := fun X => by
    obtain ⟨ad2', c2', e3', g3, _⟩ := (g2 X).arr
    cases e3'
    exact g3.arr encY_len
  obtain ⟨hck, _⟩ := pkB_ck hc
  obtain ⟨x, hx⟩ : ∃ x, (pkB s)[14 + y]? = some x := ⟨_, List.getElem?_eq_getElem (by omega)⟩
  have hxy := getY hYs hx
  have hset := pkR_set hw hok hc (i := 14 + y) (by omega) (by omega) hx hxy hv
  obtain ⟨G2, o2, b1, c3, e4, hst⟩ := ho.set (C := cx B0 old) (t := 5) (f := 0) (a' := val) (u := .int .u8 val) encY_len hx (sz rfl) rfl rfl
  cases e4
  have hL0 : ∀ X, ∀ H', (G ++ X).Sublist H' → LdT (cx B0 old) 5 H' b1 (0 + (14 + (y : Int)).toNat * 1) (.int .u8 x) := fun X H' hs => by
    obtain ⟨bb, oo, e5, hL⟩ := ((g1 [] X).arr encY_len).ld1 5 hx rfl rfl (sz rfl)
    cases e5
    rw [show (14 + (y : Int)).toNat = 14 + y by omega]
    exact hL H' hs
  repeat (first | (first | refine rt_nil ?_ | (refine isRun ?_; first | refine x1 ?_ | refine x2 ?_ | refine x3 fun _ => ?_ | refine x4 fun _ => ?_ | refine x5 fun _ => ?_ | (refine rt_step rfl rfl rfl ?_; first | refine st_buildSlice rfl (zr rfl) rfl rfl rfl rfl rfl rfl fun _ => ?_ | refine st_A rfl rfl (fun _ => rfl) rfl fun _ => ?_) | refine x8 ?_ | refine rt_skip rfl rfl rfl ?_ | refine rt_skip0 rfl rfl ?_)) | (first | refine sq_n ?_ | refine sq_r ?_ | refine sq_e ?_ | refine bk_n ?_ | refine bk_r ?_ | refine bk_e rfl ?_ | refine bk_x rfl ?_ | refine ct_seq ?_ | refine ct_region rfl ?_ | refine ct_skip ?_ | refine ct_label ?_ | refine ct_block ?_ | refine ct_exit ?_ | refine ct_ret ?_ | refine ct_scope ?_ | refine ct_true rfl ?_ | refine ct_false rfl ?_ | refine lt_step ?_))
  apply rt_p rfl rfl rfl
  case hp => exact p_slc rfl rfl rfl e2
  refine rt_step rfl rfl rfl (st_call rfl rfl rfl rfl (sum57_ct (g3 _) (sub_Y hYs _ _) (by have := sub_le (pkB s) 14 20; omega) ?_))
  rw [hck]
  refine RunT.weak (H' := G ++ H) ?_ (by exact drop_auto)
  have hL0 := hL0 H
  repeat (first | (first | refine rt_nil ?_ | (refine isRun ?_; first | refine x1 ?_ | refine x2 ?_ | refine x3 fun _ => ?_ | refine x4 fun _ => ?_ | refine x5 fun _ => ?_ | (refine rt_step rfl rfl rfl ?_; first | refine st_buildSlice rfl (zr rfl) rfl rfl rfl rfl rfl rfl fun _ => ?_ | refine st_A rfl rfl (fun _ => rfl) rfl fun _ => ?_) | refine x8 ?_ | refine rt_skip rfl rfl rfl ?_ | refine rt_skip0 rfl rfl ?_)) | (first | refine sq_n ?_ | refine sq_r ?_ | refine sq_e ?_ | refine bk_n ?_ | refine bk_r ?_ | refine bk_e rfl ?_ | refine bk_x rfl ?_ | refine ct_seq ?_ | refine ct_region rfl ?_ | refine ct_skip ?_ | refine ct_label ?_ | refine ct_block ?_ | refine ct_exit ?_ | refine ct_ret ?_ | refine ct_scope ?_ | refine ct_true rfl ?_ | refine ct_false rfl ?_ | refine lt_step ?_))
  refine rt_st (H' := G2 ++ H) rfl rfl rfl rfl rfl ?_ ?_
  · have := hst [] H
    rw [show (14 + (y : Int)).toNat = 14 + y by omega]
    exact this
  have hY2 := set_at hx hv hYs
  have hcv2 : ∀ X, CutV (cx B0 old) (G2 ++ X) encY 1 ((pkB s).set (14 + y) val) (.slice (some ⟨b1, 0, none⟩) (pkB s).length c1) := fun X => o2.cutV (pre := []) encY_len
  have hrd : ∀ {H1 : Hp} {Θ : Value → Hp → Prop}, CutV (cx B0 old) H1 encY 1 ((pkB s).set (14 + y) val) (.slice (some ⟨b1, 0, none⟩) (pkB s).length c1) → Θ (pkV (pkR ((pkB s).set (14 + y) val))) H1 → CallT (cx B0 old) (acall (cx B0 old) ansP (n + 10)) 61 [.slice (some ⟨b1, 0, none⟩) (pkB s).length c1] H1 Θ := fun h g => read61_ct h hY2 (by rw [List.length_set]; omega) g
  generalize pkR ((pkB s).set (14 + y) val) = r at *
  clear hL0
  unfold pkV en31 at hrd
  repeat (first | (first | refine rt_nil ?_ | (refine isRun ?_; first | refine x1 ?_ | refine x2 ?_ | refine x3 fun _ => ?_ | refine x4 fun _ => ?_ | refine x5 fun _ => ?_ | (refine rt_step rfl rfl rfl ?_; first | refine st_buildSlice rfl (zr rfl) rfl rfl rfl rfl rfl rfl fun _ => ?_ | refine st_A rfl rfl (fun _ => rfl) rfl fun _ => ?_) | refine x8 ?_ | refine rt_skip rfl rfl rfl ?_ | refine rt_skip0 rfl rfl ?_)) | (first | refine sq_n ?_ | refine sq_r ?_ | refine sq_e ?_ | refine bk_n ?_ | refine bk_r ?_ | refine bk_e rfl ?_ | refine bk_x rfl ?_ | refine ct_seq ?_ | refine ct_region rfl ?_ | refine ct_skip ?_ | refine ct_label ?_ | refine ct_block ?_ | refine ct_exit ?_ | refine ct_ret ?_ | refine ct_scope ?_ | refine ct_true rfl ?_ | refine ct_false rfl ?_ | refine lt_step ?_))
  refine rt_step rfl rfl rfl (st_call rfl rfl rfl rfl (hrd (hcv2 _) ?_))
  repeat (first | (first | refine rt_nil ?_ | (refine isRun ?_; first | refine x1 ?_ | refine x2 ?_ | refine x3 fun _ => ?_ | refine x4 fun _ => ?_ | refine x5 fun _ => ?_ | (refine rt_step rfl rfl rfl ?_; first | refine st_buildSlice rfl (zr rfl) rfl rfl rfl rfl rfl rfl fun _ => ?_ | refine st_A rfl rfl (fun _ => rfl) rfl fun _ => ?_) | refine x8 ?_ | refine rt_skip rfl rfl rfl ?_ | refine rt_skip0 rfl rfl ?_)) | (first | refine sq_n ?_ | refine sq_r ?_ | refine sq_e ?_ | refine bk_n ?_ | refine bk_r ?_ | refine bk_e rfl ?_ | refine bk_x rfl ?_ | refine ct_seq ?_ | refine ct_region rfl ?_ | refine ct_skip ?_ | refine ct_label ?_ | refine ct_block ?_ | refine ct_exit ?_ | refine ct_ret ?_ | refine ct_scope ?_ | refine ct_true rfl ?_ | refine ct_false rfl ?_ | refine lt_step ?_))
  refine re_1 rfl rfl (List.Sublist.refl _) (hQb _ _ ?_)
  by_cases hE : val = x
  · rw [hset.2 hE, hE]
    simp
  · have : ¬ r.2.1 = 0 := fun h => hE (hset.1 h)
    rw [beq_eq_false_iff_ne.2 this, beq_eq_false_iff_ne.2 hE]
    rfl
end
end Go.Proofs.Ytjdppdoakbojcaa.Abs
