/- The program's valid. -/
import Derived.Test.YtdaigoiekkofoaaMc
import Derived.Test.YtdaigoiekkofoaaSep13
namespace Go.Proofs.Ytdaigoiekkofoaa.Abs
open Go
set_option linter.unusedVariables false
section
variable {B0 : Nat} {old : Nat → Option (List Value)} {n : Nat} {H : Hp} {Q : Value → Hp → Prop}
set_option maxRecDepth 10000
set_option maxHeartbeats 4000000
theorem outside_ct (x N : Int) (b ez : Nat) (el : Bool) (hN : (b, AObj.row [.int .i64 N] ez el) ∈ H) (h1 : (x < 0 ∨ N ≤ x) → Q (.bool true) H) (h0 : 0 ≤ x → x < N → Q (.bool false) H) :
    CallT (cx B0 old) (acall (cx B0 old) ansP (n + 1)) 47 [.int .i64 x, .pointer (some ⟨b, 0, none⟩)] H Q := by
  refine call_in2 11 rfl Try.func47 rfl rfl ?_
  have hL0 : ∀ H', H.Sublist H' → LdT (cx B0 old) 3 H' b 0 (.int .i64 N) := fun H' hs => ld1 (.own _ _ (hs.subset hN)) rfl (sz rfl) rfl
  repeat (first | (first | refine rt_nil ?_ | (refine isRun ?_; first | refine x1 ?_ | refine x2 ?_ | refine x3 fun _ => ?_ | refine x4 fun _ => ?_ | refine x5 fun _ => ?_ | (refine rt_step rfl rfl rfl ?_; first | refine st_buildSlice rfl (zr rfl) rfl rfl rfl rfl rfl rfl fun _ => ?_ | refine st_A rfl rfl (fun _ => rfl) rfl fun _ => ?_) | refine x8 ?_ | refine rt_skip rfl rfl rfl ?_ | refine rt_skip0 rfl rfl ?_)) | (first | refine sq_n ?_ | refine sq_r ?_ | refine sq_e ?_ | refine bk_n ?_ | refine bk_r ?_ | refine bk_e rfl ?_ | refine bk_x rfl ?_ | refine ct_seq ?_ | refine ct_region rfl ?_ | refine ct_skip ?_ | refine ct_label ?_ | refine ct_block ?_ | refine ct_exit ?_ | refine ct_ret ?_ | refine ct_scope ?_ | refine ct_true rfl ?_ | refine ct_false rfl ?_ | refine lt_step ?_))
  refine rt_guardT te_d rfl rfl rfl rfl (fun hc => ?_) (fun hc => ?_)
  · repeat (first | (first | refine rt_nil ?_ | (refine isRun ?_; first | refine x1 ?_ | refine x2 ?_ | refine x3 fun _ => ?_ | refine x4 fun _ => ?_ | refine x5 fun _ => ?_ | (refine rt_step rfl rfl rfl ?_; first | refine st_buildSlice rfl (zr rfl) rfl rfl rfl rfl rfl rfl fun _ => ?_ | refine st_A rfl rfl (fun _ => rfl) rfl fun _ => ?_) | refine x8 ?_ | refine rt_skip rfl rfl rfl ?_ | refine rt_skip0 rfl rfl ?_)) | (first | refine sq_n ?_ | refine sq_r ?_ | refine sq_e ?_ | refine bk_n ?_ | refine bk_r ?_ | refine bk_e rfl ?_ | refine bk_x rfl ?_ | refine ct_seq ?_ | refine ct_region rfl ?_ | refine ct_skip ?_ | refine ct_label ?_ | refine ct_block ?_ | refine ct_exit ?_ | refine ct_ret ?_ | refine ct_scope ?_ | refine ct_true rfl ?_ | refine ct_false rfl ?_ | refine lt_step ?_))
    exact re_1 rfl rfl (by exact drop_auto) (h1 (.inl hc))
  · repeat (first | (first | refine rt_nil ?_ | (refine isRun ?_; first | refine x1 ?_ | refine x2 ?_ | refine x3 fun _ => ?_ | refine x4 fun _ => ?_ | refine x5 fun _ => ?_ | (refine rt_step rfl rfl rfl ?_; first | refine st_buildSlice rfl (zr rfl) rfl rfl rfl rfl rfl rfl fun _ => ?_ | refine st_A rfl rfl (fun _ => rfl) rfl fun _ => ?_) | refine x8 ?_ | refine rt_skip rfl rfl rfl ?_ | refine rt_skip0 rfl rfl ?_)) | (first | refine sq_n ?_ | refine sq_r ?_ | refine sq_e ?_ | refine bk_n ?_ | refine bk_r ?_ | refine bk_e rfl ?_ | refine bk_x rfl ?_ | refine ct_seq ?_ | refine ct_region rfl ?_ | refine ct_skip ?_ | refine ct_label ?_ | refine ct_block ?_ | refine ct_exit ?_ | refine ct_ret ?_ | refine ct_scope ?_ | refine ct_true rfl ?_ | refine ct_false rfl ?_ | refine lt_step ?_))
    by_cases g : x ≥ N
    · rw [show decide (x ≥ N) = true from decide_eq_true g]
      exact re_1 rfl rfl (by exact drop_auto) (h1 (.inr g))
    · rw [show decide (x ≥ N) = false from decide_eq_false g]
      exact re_1 rfl rfl (by exact drop_auto) (h0 (by omega) (by omega))
theorem index_ct (N : Int) (b ez : Nat) (el : Bool) (E : List Int) (ad : Option Addr) (c : Nat) (hE : Arr (cx B0 old) H ad 1 encI E) (hl : E.length ≤ 1000) (hN : (b, AObj.row [.int .i64 N] ez el) ∈ H)
    (h1 : ¬ (∀ e ∈ E, 0 ≤ e ∧ e < N) → ∀ i : Int, 0 ≤ i → Q (.int .i64 i) H) (h0 : (∀ e ∈ E, 0 ≤ e ∧ e < N) → Q (.int .i64 (-1)) H) :
    CallT (cx B0 old) (acall (cx B0 old) ansP (n + 2)) 54 [.slice ad E.length c, .func (.func 47) #[] #[.pointer (some ⟨b, 0, none⟩)]] H Q := by
  refine call_in2 19 rfl Try.func54 rfl rfl ?_
  repeat (first | (first | refine rt_nil ?_ | (refine isRun ?_; first | refine x1 ?_ | refine x2 ?_ | refine x3 fun _ => ?_ | refine x4 fun _ => ?_ | refine x5 fun _ => ?_ | (refine rt_step rfl rfl rfl ?_; first | refine st_buildSlice rfl (zr rfl) rfl rfl rfl rfl rfl rfl fun _ => ?_ | refine st_A rfl rfl (fun _ => rfl) rfl fun _ => ?_) | refine x8 ?_ | refine rt_skip rfl rfl rfl ?_ | refine rt_skip0 rfl rfl ?_)) | (first | refine sq_n ?_ | refine sq_r ?_ | refine sq_e ?_ | refine bk_n ?_ | refine bk_r ?_ | refine bk_e rfl ?_ | refine bk_x rfl ?_ | refine ct_seq ?_ | refine ct_region rfl ?_ | refine ct_skip ?_ | refine ct_label ?_ | refine ct_block ?_ | refine ct_exit ?_ | refine ct_ret ?_ | refine ct_scope ?_ | refine ct_true rfl ?_ | refine ct_false rfl ?_ | refine lt_step ?_))
  refine loop_ind (ι := Nat) 0 (fun i => E.length - i) (fun i => i ≤ E.length ∧ ∀ j e, j < i → E[j]? = some e → 0 ≤ e ∧ e < N)
    (fun i => [(8, .int .i64 (i : Int)), (7, .int .i64 E.length), (0, .slice ad E.length c), (1, .func (.func 47) #[] #[.pointer (some ⟨b, 0, none⟩)])])
    (fun i => H) ⟨Nat.zero_le _, fun j e hj => absurd hj (by omega)⟩ (by repeat (first | exact SubL.nil | refine SubL.cons rfl ?_)) (by exact drop_auto) ?_
  rintro i ⟨hi, hall⟩
  repeat (first | (first | refine rt_nil ?_ | (refine isRun ?_; first | refine x1 ?_ | refine x2 ?_ | refine x3 fun _ => ?_ | refine x4 fun _ => ?_ | refine x5 fun _ => ?_ | (refine rt_step rfl rfl rfl ?_; first | refine st_buildSlice rfl (zr rfl) rfl rfl rfl rfl rfl rfl fun _ => ?_ | refine st_A rfl rfl (fun _ => rfl) rfl fun _ => ?_) | refine x8 ?_ | refine rt_skip rfl rfl rfl ?_ | refine rt_skip0 rfl rfl ?_)) | (first | refine sq_n ?_ | refine sq_r ?_ | refine sq_e ?_ | refine bk_n ?_ | refine bk_r ?_ | refine bk_e rfl ?_ | refine bk_x rfl ?_ | refine ct_seq ?_ | refine ct_region rfl ?_ | refine ct_skip ?_ | refine ct_label ?_ | refine ct_block ?_ | refine ct_exit ?_ | refine ct_ret ?_ | refine ct_scope ?_ | refine ct_true rfl ?_ | refine ct_false rfl ?_ | refine lt_step ?_))
  refine ct_condT te_d rfl (fun hc => ?_) (fun hc => ?_)
  rotate_left
  · have hc : i = E.length := by omega
    subst hc
    repeat (first | (first | refine rt_nil ?_ | (refine isRun ?_; first | refine x1 ?_ | refine x2 ?_ | refine x3 fun _ => ?_ | refine x4 fun _ => ?_ | refine x5 fun _ => ?_ | (refine rt_step rfl rfl rfl ?_; first | refine st_buildSlice rfl (zr rfl) rfl rfl rfl rfl rfl rfl fun _ => ?_ | refine st_A rfl rfl (fun _ => rfl) rfl fun _ => ?_) | refine x8 ?_ | refine rt_skip rfl rfl rfl ?_ | refine rt_skip0 rfl rfl ?_)) | (first | refine sq_n ?_ | refine sq_r ?_ | refine sq_e ?_ | refine bk_n ?_ | refine bk_r ?_ | refine bk_e rfl ?_ | refine bk_x rfl ?_ | refine ct_seq ?_ | refine ct_region rfl ?_ | refine ct_skip ?_ | refine ct_label ?_ | refine ct_block ?_ | refine ct_exit ?_ | refine ct_ret ?_ | refine ct_scope ?_ | refine ct_true rfl ?_ | refine ct_false rfl ?_ | refine lt_step ?_))
    refine re_1 rfl rfl (by exact drop_auto) (h0 fun e he => ?_)
    obtain ⟨j, hj⟩ := List.getElem?_of_mem he
    exact hall j e (List.getElem?_eq_some_iff.1 hj).1 hj
  obtain ⟨x, hx⟩ : ∃ x, E[i]? = some x := ⟨_, List.getElem?_eq_getElem (by omega)⟩
  obtain ⟨b1, o1, rfl, hL0⟩ := hE.ld1 3 hx rfl rfl (sz rfl)
  repeat (first | (first | refine rt_nil ?_ | (refine isRun ?_; first | refine x1 ?_ | refine x2 ?_ | refine x3 fun _ => ?_ | refine x4 fun _ => ?_ | refine x5 fun _ => ?_ | (refine rt_step rfl rfl rfl ?_; first | refine st_buildSlice rfl (zr rfl) rfl rfl rfl rfl rfl rfl fun _ => ?_ | refine st_A rfl rfl (fun _ => rfl) rfl fun _ => ?_) | refine x8 ?_ | refine rt_skip rfl rfl rfl ?_ | refine rt_skip0 rfl rfl ?_)) | (first | refine sq_n ?_ | refine sq_r ?_ | refine sq_e ?_ | refine bk_n ?_ | refine bk_r ?_ | refine bk_e rfl ?_ | refine bk_x rfl ?_ | refine ct_seq ?_ | refine ct_region rfl ?_ | refine ct_skip ?_ | refine ct_label ?_ | refine ct_block ?_ | refine ct_exit ?_ | refine ct_ret ?_ | refine ct_scope ?_ | refine ct_true rfl ?_ | refine ct_false rfl ?_ | refine lt_step ?_))
  refine rt_step rfl rfl rfl (st_call rfl rfl rfl rfl (outside_ct x N b ez el hN (fun g => ?_) (fun g g2 => ?_)))
  · repeat (first | (first | refine rt_nil ?_ | (refine isRun ?_; first | refine x1 ?_ | refine x2 ?_ | refine x3 fun _ => ?_ | refine x4 fun _ => ?_ | refine x5 fun _ => ?_ | (refine rt_step rfl rfl rfl ?_; first | refine st_buildSlice rfl (zr rfl) rfl rfl rfl rfl rfl rfl fun _ => ?_ | refine st_A rfl rfl (fun _ => rfl) rfl fun _ => ?_) | refine x8 ?_ | refine rt_skip rfl rfl rfl ?_ | refine rt_skip0 rfl rfl ?_)) | (first | refine sq_n ?_ | refine sq_r ?_ | refine sq_e ?_ | refine bk_n ?_ | refine bk_r ?_ | refine bk_e rfl ?_ | refine bk_x rfl ?_ | refine ct_seq ?_ | refine ct_region rfl ?_ | refine ct_skip ?_ | refine ct_label ?_ | refine ct_block ?_ | refine ct_exit ?_ | refine ct_ret ?_ | refine ct_scope ?_ | refine ct_true rfl ?_ | refine ct_false rfl ?_ | refine lt_step ?_))
    exact re_1 rfl rfl (by exact drop_auto) (h1 (fun h => by have := h x (List.mem_of_getElem? hx); omega) _ (by omega))
  · repeat (first | (first | refine rt_nil ?_ | (refine isRun ?_; first | refine x1 ?_ | refine x2 ?_ | refine x3 fun _ => ?_ | refine x4 fun _ => ?_ | refine x5 fun _ => ?_ | (refine rt_step rfl rfl rfl ?_; first | refine st_buildSlice rfl (zr rfl) rfl rfl rfl rfl rfl rfl fun _ => ?_ | refine st_A rfl rfl (fun _ => rfl) rfl fun _ => ?_) | refine x8 ?_ | refine rt_skip rfl rfl rfl ?_ | refine rt_skip0 rfl rfl ?_)) | (first | refine sq_n ?_ | refine sq_r ?_ | refine sq_e ?_ | refine bk_n ?_ | refine bk_r ?_ | refine bk_e rfl ?_ | refine bk_x rfl ?_ | refine ct_seq ?_ | refine ct_region rfl ?_ | refine ct_skip ?_ | refine ct_label ?_ | refine ct_block ?_ | refine ct_exit ?_ | refine ct_ret ?_ | refine ct_scope ?_ | refine ct_true rfl ?_ | refine ct_false rfl ?_ | refine lt_step ?_))
    refine ⟨i + 1, ⟨by omega, fun j e hj he => ?_⟩, by omega, by repeat (first | exact SubL.nil | refine SubL.cons rfl ?_), by exact drop_auto⟩
    by_cases g3 : j = i
    · subst g3; rw [hx] at he; cases he; exact ⟨g, g2⟩
    · exact hall j e (by omega) he
theorem contains_ct (N : Int) (b ez : Nat) (el : Bool) (E : List Int) (ad : Option Addr) (c : Nat) (hE : Arr (cx B0 old) H ad 1 encI E) (hl : E.length ≤ 1000) (hN : (b, AObj.row [.int .i64 N] ez el) ∈ H)
    (h1 : ¬ (∀ e ∈ E, 0 ≤ e ∧ e < N) → Q (.bool true) H) (h0 : (∀ e ∈ E, 0 ≤ e ∧ e < N) → Q (.bool false) H) :
    CallT (cx B0 old) (acall (cx B0 old) ansP (n + 3)) 48 [.slice ad E.length c, .func (.func 47) #[] #[.pointer (some ⟨b, 0, none⟩)]] H Q := by
  refine call_in2 9 rfl Try.func48 rfl rfl ?_
  repeat (first | (first | refine rt_nil ?_ | (refine isRun ?_; first | refine x1 ?_ | refine x2 ?_ | refine x3 fun _ => ?_ | refine x4 fun _ => ?_ | refine x5 fun _ => ?_ | (refine rt_step rfl rfl rfl ?_; first | refine st_buildSlice rfl (zr rfl) rfl rfl rfl rfl rfl rfl fun _ => ?_ | refine st_A rfl rfl (fun _ => rfl) rfl fun _ => ?_) | refine x8 ?_ | refine rt_skip rfl rfl rfl ?_ | refine rt_skip0 rfl rfl ?_)) | (first | refine sq_n ?_ | refine sq_r ?_ | refine sq_e ?_ | refine bk_n ?_ | refine bk_r ?_ | refine bk_e rfl ?_ | refine bk_x rfl ?_ | refine ct_seq ?_ | refine ct_region rfl ?_ | refine ct_skip ?_ | refine ct_label ?_ | refine ct_block ?_ | refine ct_exit ?_ | refine ct_ret ?_ | refine ct_scope ?_ | refine ct_true rfl ?_ | refine ct_false rfl ?_ | refine lt_step ?_))
  refine rt_step rfl rfl rfl (st_call rfl rfl rfl rfl (index_ct N b ez el E ad c hE hl hN (fun g i hi => ?_) (fun g => ?_)))
  · repeat (first | (first | refine rt_nil ?_ | (refine isRun ?_; first | refine x1 ?_ | refine x2 ?_ | refine x3 fun _ => ?_ | refine x4 fun _ => ?_ | refine x5 fun _ => ?_ | (refine rt_step rfl rfl rfl ?_; first | refine st_buildSlice rfl (zr rfl) rfl rfl rfl rfl rfl rfl fun _ => ?_ | refine st_A rfl rfl (fun _ => rfl) rfl fun _ => ?_) | refine x8 ?_ | refine rt_skip rfl rfl rfl ?_ | refine rt_skip0 rfl rfl ?_)) | (first | refine sq_n ?_ | refine sq_r ?_ | refine sq_e ?_ | refine bk_n ?_ | refine bk_r ?_ | refine bk_e rfl ?_ | refine bk_x rfl ?_ | refine ct_seq ?_ | refine ct_region rfl ?_ | refine ct_skip ?_ | refine ct_label ?_ | refine ct_block ?_ | refine ct_exit ?_ | refine ct_ret ?_ | refine ct_scope ?_ | refine ct_true rfl ?_ | refine ct_false rfl ?_ | refine lt_step ?_))
    rw [show decide (i ≥ 0) = true from decide_eq_true hi]
    exact re_1 rfl rfl (by exact drop_auto) (h1 g)
  · repeat (first | (first | refine rt_nil ?_ | (refine isRun ?_; first | refine x1 ?_ | refine x2 ?_ | refine x3 fun _ => ?_ | refine x4 fun _ => ?_ | refine x5 fun _ => ?_ | (refine rt_step rfl rfl rfl ?_; first | refine st_buildSlice rfl (zr rfl) rfl rfl rfl rfl rfl rfl fun _ => ?_ | refine st_A rfl rfl (fun _ => rfl) rfl fun _ => ?_) | refine x8 ?_ | refine rt_skip rfl rfl rfl ?_ | refine rt_skip0 rfl rfl ?_)) | (first | refine sq_n ?_ | refine sq_r ?_ | refine sq_e ?_ | refine bk_n ?_ | refine bk_r ?_ | refine bk_e rfl ?_ | refine bk_x rfl ?_ | refine ct_seq ?_ | refine ct_region rfl ?_ | refine ct_skip ?_ | refine ct_label ?_ | refine ct_block ?_ | refine ct_exit ?_ | refine ct_ret ?_ | refine ct_scope ?_ | refine ct_true rfl ?_ | refine ct_false rfl ?_ | refine lt_step ?_))
    exact re_1 rfl rfl (by exact drop_auto) (h0 g)
theorem pvalid_ct (N : Int) (ad ad2 ad3 : Option Addr) (c c2 c3 : Nat) (L : List Ln) (U : List Bool) (E : List Int) (h1 : Arr (cx B0 old) H ad 3 encLn L) (hl : L.length ≤ 9223372036854775807) (hE : Arr (cx B0 old) H ad3 1 encI E) (hle : E.length ≤ 1000)
    (hgood : netOk N L U → (∀ e ∈ E, 0 ≤ e ∧ e < N) → Q (.bool true) H) (hbad : ¬ (netOk N L U ∧ ∀ e ∈ E, 0 ≤ e ∧ e < N) → Q (.bool false) H) :
    CallT (cx B0 old) (acall (cx B0 old) ansP (n + 4)) 37 [.int .i64 N, .slice ad L.length c, .slice ad2 U.length c2, .slice ad3 E.length c3] H Q := by
  refine call_in4 69 rfl Try.func37 rfl rfl ?_
  have hnk : netOk N L U → 1 ≤ N ∧ N ≤ 32 ∧ L.length ≤ 128 ∧ U.length = L.length := fun h => ⟨h.1, h.2.1, h.2.2.1, h.2.2.2.1⟩
  repeat' (first | (first | refine rt_nil ?_ | (refine isRun ?_; first | refine x1 ?_ | refine x2 ?_ | refine x3 fun _ => ?_ | refine x4 fun _ => ?_ | refine x5 fun _ => ?_ | (refine rt_step rfl rfl rfl ?_; first | refine st_buildSlice rfl (zr rfl) rfl rfl rfl rfl rfl rfl fun _ => ?_ | refine st_A rfl rfl (fun _ => rfl) rfl fun _ => ?_) | refine x8 ?_ | refine rt_skip rfl rfl rfl ?_ | refine rt_skip0 rfl rfl ?_)) | (first | refine sq_n ?_ | refine sq_r ?_ | refine sq_e ?_ | refine bk_n ?_ | refine bk_r ?_ | refine bk_e rfl ?_ | refine bk_x rfl ?_ | refine ct_seq ?_ | refine ct_region rfl ?_ | refine ct_skip ?_ | refine ct_label ?_ | refine ct_block ?_ | refine ct_exit ?_ | refine ct_ret ?_ | refine ct_scope ?_ | refine ct_true rfl ?_ | refine ct_false rfl ?_ | refine lt_step ?_) | (first | refine pl_nil ?_ | (refine isPlan ?_; first | refine y1 ?_ | refine y2 ?_ | refine pl_skip rfl rfl rfl rfl rfl ?_ | refine pl_skip0 rfl rfl rfl rfl ?_)) | (refine isPlan ?_; refine y3 ?_) | (first | (refine isRun ?_; refine z1 (fun hc => ?_) (fun hc => ?_)) | refine z2 (fun hc => ?_) (fun hc => ?_) | (refine isPlan ?_; refine z3 (fun hc => ?_) (fun hc => ?_))))
  all_goals try exact re_1 rfl rfl (by exact drop_auto) (hbad fun h => by have := hnk h.1; omega)
  rename_i b4 _ _ _
  refine loop_ind (ι := Nat) 0 (fun i => L.length - i) (fun i => i ≤ L.length ∧ ∀ j x, j < i → L[j]? = some x → goodL N x)
    (fun i => [(33, .int .i64 (i : Int)), (32, .int .i64 L.length), (31, .slice ad L.length c), (9, .func (.func 47) #[] #[.pointer (some ⟨b4, 0, none⟩)]), (3, .slice ad3 E.length c3), (1, .slice ad L.length c)])
    (fun i => (b4, .row [.int .i64 N] 1 false) :: H) ⟨Nat.zero_le _, fun j x hj => absurd hj (by omega)⟩ (by repeat (first | exact SubL.nil | refine SubL.cons rfl ?_)) (by exact drop_auto) ?_
  rintro i ⟨hi, hall⟩
  repeat (first | (first | refine rt_nil ?_ | (refine isRun ?_; first | refine x1 ?_ | refine x2 ?_ | refine x3 fun _ => ?_ | refine x4 fun _ => ?_ | refine x5 fun _ => ?_ | (refine rt_step rfl rfl rfl ?_; first | refine st_buildSlice rfl (zr rfl) rfl rfl rfl rfl rfl rfl fun _ => ?_ | refine st_A rfl rfl (fun _ => rfl) rfl fun _ => ?_) | refine x8 ?_ | refine rt_skip rfl rfl rfl ?_ | refine rt_skip0 rfl rfl ?_)) | (first | refine sq_n ?_ | refine sq_r ?_ | refine sq_e ?_ | refine bk_n ?_ | refine bk_r ?_ | refine bk_e rfl ?_ | refine bk_x rfl ?_ | refine ct_seq ?_ | refine ct_region rfl ?_ | refine ct_skip ?_ | refine ct_label ?_ | refine ct_block ?_ | refine ct_exit ?_ | refine ct_ret ?_ | refine ct_scope ?_ | refine ct_true rfl ?_ | refine ct_false rfl ?_ | refine lt_step ?_))
  refine ct_condT te_d rfl (fun hlt => ?_) (fun hge => ?_)
  · obtain ⟨x, hx⟩ : ∃ x, L[i]? = some x := ⟨_, List.getElem?_eq_getElem (by omega)⟩
    have hb : ¬ goodL N x → ¬ (netOk N L U ∧ ∀ e ∈ E, 0 ≤ e ∧ e < N) := fun hn h => hn (h.1.2.2.2.2 x (List.mem_of_getElem? hx))
    unfold goodL at hb
    obtain ⟨b1, o1, rfl, hL0⟩ := h1.ldW 27 hx rfl (sz rfl)
    repeat (first | (first | refine rt_nil ?_ | (refine isRun ?_; first | refine x1 ?_ | refine x2 ?_ | refine x3 fun _ => ?_ | refine x4 fun _ => ?_ | refine x5 fun _ => ?_ | (refine rt_step rfl rfl rfl ?_; first | refine st_buildSlice rfl (zr rfl) rfl rfl rfl rfl rfl rfl fun _ => ?_ | refine st_A rfl rfl (fun _ => rfl) rfl fun _ => ?_) | refine x8 ?_ | refine rt_skip rfl rfl rfl ?_ | refine rt_skip0 rfl rfl ?_)) | (first | refine sq_n ?_ | refine sq_r ?_ | refine sq_e ?_ | refine bk_n ?_ | refine bk_r ?_ | refine bk_e rfl ?_ | refine bk_x rfl ?_ | refine ct_seq ?_ | refine ct_region rfl ?_ | refine ct_skip ?_ | refine ct_label ?_ | refine ct_block ?_ | refine ct_exit ?_ | refine ct_ret ?_ | refine ct_scope ?_ | refine ct_true rfl ?_ | refine ct_false rfl ?_ | refine lt_step ?_))
    refine rt_step rfl rfl rfl (st_call rfl rfl rfl rfl (outside_ct x.a N b4 1 false hm1 (fun g => ?_) (fun g g2 => ?_)))
    · repeat (first | (first | refine rt_nil ?_ | (refine isRun ?_; first | refine x1 ?_ | refine x2 ?_ | refine x3 fun _ => ?_ | refine x4 fun _ => ?_ | refine x5 fun _ => ?_ | (refine rt_step rfl rfl rfl ?_; first | refine st_buildSlice rfl (zr rfl) rfl rfl rfl rfl rfl rfl fun _ => ?_ | refine st_A rfl rfl (fun _ => rfl) rfl fun _ => ?_) | refine x8 ?_ | refine rt_skip rfl rfl rfl ?_ | refine rt_skip0 rfl rfl ?_)) | (first | refine sq_n ?_ | refine sq_r ?_ | refine sq_e ?_ | refine bk_n ?_ | refine bk_r ?_ | refine bk_e rfl ?_ | refine bk_x rfl ?_ | refine ct_seq ?_ | refine ct_region rfl ?_ | refine ct_skip ?_ | refine ct_label ?_ | refine ct_block ?_ | refine ct_exit ?_ | refine ct_ret ?_ | refine ct_scope ?_ | refine ct_true rfl ?_ | refine ct_false rfl ?_ | refine lt_step ?_))
      exact re_1 rfl rfl (by exact drop_auto) (hbad (hb (by omega)))
    repeat (first | (first | refine rt_nil ?_ | (refine isRun ?_; first | refine x1 ?_ | refine x2 ?_ | refine x3 fun _ => ?_ | refine x4 fun _ => ?_ | refine x5 fun _ => ?_ | (refine rt_step rfl rfl rfl ?_; first | refine st_buildSlice rfl (zr rfl) rfl rfl rfl rfl rfl rfl fun _ => ?_ | refine st_A rfl rfl (fun _ => rfl) rfl fun _ => ?_) | refine x8 ?_ | refine rt_skip rfl rfl rfl ?_ | refine rt_skip0 rfl rfl ?_)) | (first | refine sq_n ?_ | refine sq_r ?_ | refine sq_e ?_ | refine bk_n ?_ | refine bk_r ?_ | refine bk_e rfl ?_ | refine bk_x rfl ?_ | refine ct_seq ?_ | refine ct_region rfl ?_ | refine ct_skip ?_ | refine ct_label ?_ | refine ct_block ?_ | refine ct_exit ?_ | refine ct_ret ?_ | refine ct_scope ?_ | refine ct_true rfl ?_ | refine ct_false rfl ?_ | refine lt_step ?_))
    refine rt_step rfl rfl rfl (st_call rfl rfl rfl rfl (outside_ct x.b N b4 1 false hm1 (fun g => ?_) (fun g3 g4 => ?_)))
    · repeat (first | (first | refine rt_nil ?_ | (refine isRun ?_; first | refine x1 ?_ | refine x2 ?_ | refine x3 fun _ => ?_ | refine x4 fun _ => ?_ | refine x5 fun _ => ?_ | (refine rt_step rfl rfl rfl ?_; first | refine st_buildSlice rfl (zr rfl) rfl rfl rfl rfl rfl rfl fun _ => ?_ | refine st_A rfl rfl (fun _ => rfl) rfl fun _ => ?_) | refine x8 ?_ | refine rt_skip rfl rfl rfl ?_ | refine rt_skip0 rfl rfl ?_)) | (first | refine sq_n ?_ | refine sq_r ?_ | refine sq_e ?_ | refine bk_n ?_ | refine bk_r ?_ | refine bk_e rfl ?_ | refine bk_x rfl ?_ | refine ct_seq ?_ | refine ct_region rfl ?_ | refine ct_skip ?_ | refine ct_label ?_ | refine ct_block ?_ | refine ct_exit ?_ | refine ct_ret ?_ | refine ct_scope ?_ | refine ct_true rfl ?_ | refine ct_false rfl ?_ | refine lt_step ?_))
      exact re_1 rfl rfl (by exact drop_auto) (hbad (hb (by omega)))
    repeat' (first | (first | refine rt_nil ?_ | (refine isRun ?_; first | refine x1 ?_ | refine x2 ?_ | refine x3 fun _ => ?_ | refine x4 fun _ => ?_ | refine x5 fun _ => ?_ | (refine rt_step rfl rfl rfl ?_; first | refine st_buildSlice rfl (zr rfl) rfl rfl rfl rfl rfl rfl fun _ => ?_ | refine st_A rfl rfl (fun _ => rfl) rfl fun _ => ?_) | refine x8 ?_ | refine rt_skip rfl rfl rfl ?_ | refine rt_skip0 rfl rfl ?_)) | (first | refine sq_n ?_ | refine sq_r ?_ | refine sq_e ?_ | refine bk_n ?_ | refine bk_r ?_ | refine bk_e rfl ?_ | refine bk_x rfl ?_ | refine ct_seq ?_ | refine ct_region rfl ?_ | refine ct_skip ?_ | refine ct_label ?_ | refine ct_block ?_ | refine ct_exit ?_ | refine ct_ret ?_ | refine ct_scope ?_ | refine ct_true rfl ?_ | refine ct_false rfl ?_ | refine lt_step ?_) | (first | refine pl_nil ?_ | (refine isPlan ?_; first | refine y1 ?_ | refine y2 ?_ | refine pl_skip rfl rfl rfl rfl rfl ?_ | refine pl_skip0 rfl rfl rfl rfl ?_)) | (refine isPlan ?_; refine y3 ?_) | (first | (refine isRun ?_; refine z1 (fun hc => ?_) (fun hc => ?_)) | refine z2 (fun hc => ?_) (fun hc => ?_) | (refine isPlan ?_; refine z3 (fun hc => ?_) (fun hc => ?_))))
    all_goals first | exact re_1 rfl rfl (by exact drop_auto) (hbad (hb (by omega))) | skip
    all_goals (
      refine ⟨i + 1, ⟨by omega, fun j y hj hy => ?_⟩, by omega, by repeat (first | exact SubL.nil | refine SubL.cons rfl ?_), by exact drop_auto⟩
      by_cases g : j = i
      · subst g
        rw [hx] at hy
        cases hy
        unfold goodL
        omega
      · exact hall j y (by omega) hy)
  · have hge' : i = L.length := by omega
    subst hge'
    have hok : netOk N L U := ⟨by omega, by omega, by omega, by omega, fun x hx => by
      obtain ⟨j, hj⟩ := List.getElem?_of_mem hx
      exact hall j x (List.getElem?_eq_some_iff.1 hj).1 hj⟩
    repeat (first | (first | refine rt_nil ?_ | (refine isRun ?_; first | refine x1 ?_ | refine x2 ?_ | refine x3 fun _ => ?_ | refine x4 fun _ => ?_ | refine x5 fun _ => ?_ | (refine rt_step rfl rfl rfl ?_; first | refine st_buildSlice rfl (zr rfl) rfl rfl rfl rfl rfl rfl fun _ => ?_ | refine st_A rfl rfl (fun _ => rfl) rfl fun _ => ?_) | refine x8 ?_ | refine rt_skip rfl rfl rfl ?_ | refine rt_skip0 rfl rfl ?_)) | (first | refine sq_n ?_ | refine sq_r ?_ | refine sq_e ?_ | refine bk_n ?_ | refine bk_r ?_ | refine bk_e rfl ?_ | refine bk_x rfl ?_ | refine ct_seq ?_ | refine ct_region rfl ?_ | refine ct_skip ?_ | refine ct_label ?_ | refine ct_block ?_ | refine ct_exit ?_ | refine ct_ret ?_ | refine ct_scope ?_ | refine ct_true rfl ?_ | refine ct_false rfl ?_ | refine lt_step ?_))
    refine rt_step rfl rfl rfl (st_call rfl rfl rfl rfl (contains_ct N b4 1 false E ad3 c3 (hE.weak (by exact drop_auto)) hle hm0 (fun g => ?_) (fun g => ?_)))
    · repeat (first | (first | refine rt_nil ?_ | (refine isRun ?_; first | refine x1 ?_ | refine x2 ?_ | refine x3 fun _ => ?_ | refine x4 fun _ => ?_ | refine x5 fun _ => ?_ | (refine rt_step rfl rfl rfl ?_; first | refine st_buildSlice rfl (zr rfl) rfl rfl rfl rfl rfl rfl fun _ => ?_ | refine st_A rfl rfl (fun _ => rfl) rfl fun _ => ?_) | refine x8 ?_ | refine rt_skip rfl rfl rfl ?_ | refine rt_skip0 rfl rfl ?_)) | (first | refine sq_n ?_ | refine sq_r ?_ | refine sq_e ?_ | refine bk_n ?_ | refine bk_r ?_ | refine bk_e rfl ?_ | refine bk_x rfl ?_ | refine ct_seq ?_ | refine ct_region rfl ?_ | refine ct_skip ?_ | refine ct_label ?_ | refine ct_block ?_ | refine ct_exit ?_ | refine ct_ret ?_ | refine ct_scope ?_ | refine ct_true rfl ?_ | refine ct_false rfl ?_ | refine lt_step ?_))
      exact re_1 rfl rfl (by exact drop_auto) (hbad fun h => g h.2)
    · repeat (first | (first | refine rt_nil ?_ | (refine isRun ?_; first | refine x1 ?_ | refine x2 ?_ | refine x3 fun _ => ?_ | refine x4 fun _ => ?_ | refine x5 fun _ => ?_ | (refine rt_step rfl rfl rfl ?_; first | refine st_buildSlice rfl (zr rfl) rfl rfl rfl rfl rfl rfl fun _ => ?_ | refine st_A rfl rfl (fun _ => rfl) rfl fun _ => ?_) | refine x8 ?_ | refine rt_skip rfl rfl rfl ?_ | refine rt_skip0 rfl rfl ?_)) | (first | refine sq_n ?_ | refine sq_r ?_ | refine sq_e ?_ | refine bk_n ?_ | refine bk_r ?_ | refine bk_e rfl ?_ | refine bk_x rfl ?_ | refine ct_seq ?_ | refine ct_region rfl ?_ | refine ct_skip ?_ | refine ct_label ?_ | refine ct_block ?_ | refine ct_exit ?_ | refine ct_ret ?_ | refine ct_scope ?_ | refine ct_true rfl ?_ | refine ct_false rfl ?_ | refine lt_step ?_))
      exact re_1 rfl rfl (by exact drop_auto) (hgood hok g)
end
end Go.Proofs.Ytdaigoiekkofoaa.Abs

/- Edges by node: in plain Lean, and how slices of slices hold them. -/
namespace Go.Proofs.Ytdaigoiekkofoaa.Abs
open Go
set_option linter.unusedVariables false
structure Ed where
  l : Int
  n : Int
  c : Int
def encE (e : Ed) : List Value := [.int .i64 e.l, .int .i64 e.n, .int .i64 e.c]
theorem encE_len (x : Ed) : (encE x).length = 3 := rfl
theorem encE_one (x : Ed) : (encE x).all Value.oneCell' = true := rfl
/-- The edge that link i adds at node n. -/
def edOf (L : List Ln) (U : List Bool) (n i : Nat) : List Ed := match L[i]?, U[i]? with
  | some x, some true => if x.a = n then [⟨i, x.b, x.c⟩] else if x.b = n then [⟨i, x.a, x.c⟩] else []
  | _, _ => []
/-- The edges at node n among the first i links. -/
def edL (L : List Ln) (U : List Bool) (n : Nat) : Nat → List Ed
  | 0 => []
  | i + 1 => edL L U n i ++ edOf L U n i
def edA (L : List Ln) (U : List Bool) (M i : Nat) : List (List Ed) := (List.range M).map fun n => edL L U n i
theorem edA_len (L : List Ln) (U : List Bool) (M i : Nat) : (edA L U M i).length = M := by unfold edA; simp
theorem edA_get {L : List Ln} {U : List Bool} {M i n : Nat} (h : n < M) : (edA L U M i)[n]? = some (edL L U n i) := by
  unfold edA
  rw [List.getElem?_map, List.getElem?_range h]
  rfl
theorem edOf_len (L : List Ln) (U : List Bool) (n i : Nat) : (edOf L U n i).length ≤ 1 := by
  unfold edOf
  split
  · split
    · simp
    · split <;> simp
  · simp
theorem edL_len (L : List Ln) (U : List Bool) (n : Nat) : ∀ i, (edL L U n i).length ≤ i
  | 0 => Nat.le_refl _
  | i + 1 => by
    unfold edL
    rw [List.length_append]
    have := edL_len L U n i
    have := edOf_len L U n i
    omega
theorem edA_down {L : List Ln} {U : List Bool} {M i : Nat} (hu : U[i]? = some false) : edA L U M (i + 1) = edA L U M i := by
  unfold edA
  refine List.map_congr_left fun n _ => ?_
  show edL L U n i ++ edOf L U n i = edL L U n i
  have : edOf L U n i = [] := by
    unfold edOf
    rw [hu]
    cases L[i]? <;> rfl
  rw [this, List.append_nil]
theorem edA_up {L : List Ln} {U : List Bool} {M i : Nat} {x : Ln} (hx : L[i]? = some x) (hu : U[i]? = some true) (hg : goodL M x) :
    edA L U M (i + 1) = ((edA L U M i).set x.a.toNat (edL L U x.a.toNat i ++ [⟨i, x.b, x.c⟩])).set x.b.toNat (edL L U x.b.toNat i ++ [⟨i, x.a, x.c⟩]) := by
  unfold goodL at hg
  refine List.ext_getElem? fun n => ?_
  rw [List.getElem?_set, List.getElem?_set, List.length_set, edA_len]
  by_cases hn : n < M
  · rw [edA_get hn, edA_get hn]
    have e : edL L U n (i + 1) = edL L U n i ++ edOf L U n i := by rw [edL]
    rw [e]
    have e2 : edOf L U n i = if x.a = n then [⟨i, x.b, x.c⟩] else if x.b = n then [⟨i, x.a, x.c⟩] else [] := by unfold edOf; rw [hx, hu]
    rw [e2]
    by_cases h1 : x.b.toNat = n
    · subst h1
      rw [if_pos rfl, if_pos hn, if_neg (by omega), if_pos (by omega)]
    · rw [if_neg h1]
      by_cases h2 : x.a.toNat = n
      · subst h2
        rw [if_pos rfl, if_pos hn, if_pos (by omega)]
      · rw [if_neg h2, if_neg (by omega), if_neg (by omega), List.append_nil]
  · rw [if_neg (by omega), if_neg (by omega), List.getElem?_eq_none (by rw [edA_len]; omega), List.getElem?_eq_none (by rw [edA_len]; omega)]
/-- Slices that a run owns, one for each list. -/
inductive Rows {α : Type} (en : α → List Value) (k : Nat) : List (List α) → List Value → Hp → Prop where
  | nil : Rows en k [] [] []
  | cons {L : List α} {LL : List (List α)} {v : Value} {vs : List Value} {H1 H2 : Hp} (h : Own en k L v H1) (hs : Rows en k LL vs H2) : Rows en k (L :: LL) (v :: vs) (H1 ++ H2)
theorem Rows.length {α : Type} {en : α → List Value} {k : Nat} {LL : List (List α)} {vs : List Value} {Hs : Hp} (h : Rows en k LL vs Hs) : vs.length = LL.length := by
  induction h with
  | nil => rfl
  | cons h hs ih => simp [ih]
theorem Rows.at {α : Type} {en : α → List Value} {k : Nat} {LL : List (List α)} {vs : List Value} {Hs : Hp} (h : Rows en k LL vs Hs) : ∀ {i : Nat} {L : List α}, LL[i]? = some L →
    ∃ v A Hi B, vs[i]? = some v ∧ Hs = A ++ (Hi ++ B) ∧ Own en k L v Hi ∧ ∀ L' v' Hi', Own en k L' v' Hi' → Rows en k (LL.set i L') (vs.set i v') (A ++ (Hi' ++ B)) := by
  induction h with
  | nil => intro i L hi; simp at hi
  | @cons L0 LL v0 vs H1 H2 h0 hs ih =>
    intro i L hi
    cases i with
    | zero =>
      simp only [List.getElem?_cons_zero, Option.some.injEq] at hi
      subst hi
      exact ⟨v0, [], H1, H2, rfl, rfl, h0, fun L' v' Hi' h' => show Rows en k _ _ (Hi' ++ H2) from .cons h' hs⟩
    | succ i =>
      rw [List.getElem?_cons_succ] at hi
      obtain ⟨v, A, Hi, B, e1, e2, e3, e4⟩ := ih hi
      refine ⟨v, H1 ++ A, Hi, B, e1, by rw [e2, List.append_assoc], e3, fun L' v' Hi' h' => ?_⟩
      rw [List.append_assoc]
      exact .cons h0 (e4 L' v' Hi' h')
theorem Rows.replicate {α : Type} {en : α → List Value} {k : Nat} : ∀ n : Nat, Rows en k (List.replicate n ([] : List α)) (List.replicate n (.slice none 0 0)) []
  | 0 => .nil
  | n + 1 => .cons (H1 := []) .nil (Rows.replicate n)
abbrev vV (v : Value) : Value := v
end Go.Proofs.Ytdaigoiekkofoaa.Abs

/- The program's edges: a range over a function. -/
namespace Go.Proofs.Ytdaigoiekkofoaa.Abs
open Go
set_option linter.unusedVariables false
section
variable {B0 : Nat} {old : Nat → Option (List Value)} {n : Nat} {H : Hp} {Q : Value → Hp → Prop}
set_option maxRecDepth 10000
set_option maxHeartbeats 8000000
theorem enabled_ct (ad ad2 : Option Addr) (len len2 c c2 : Nat) (hk : ∀ b2 b3, Q (.func (.func 55) #[] #[.pointer (some ⟨b2, 0, none⟩), .pointer (some ⟨b3, 0, none⟩)]) ((b3, .row [.slice ad2 len2 c2] 1 false) :: (b2, .row [.slice ad len c] 1 false) :: H)) :
    CallT (cx B0 old) (acall (cx B0 old) ansP (n + 1)) 49 [.slice ad len c, .slice ad2 len2 c2] H Q := by
  refine call_in2 6 rfl Try.func49 rfl rfl ?_
  repeat (first | (first | refine rt_nil ?_ | (refine isRun ?_; first | refine x1 ?_ | refine x2 ?_ | refine x3 fun _ => ?_ | refine x4 fun _ => ?_ | refine x5 fun _ => ?_ | (refine rt_step rfl rfl rfl ?_; first | refine st_buildSlice rfl (zr rfl) rfl rfl rfl rfl rfl rfl fun _ => ?_ | refine st_A rfl rfl (fun _ => rfl) rfl fun _ => ?_) | refine x8 ?_ | refine rt_skip rfl rfl rfl ?_ | refine rt_skip0 rfl rfl ?_)) | (first | refine sq_n ?_ | refine sq_r ?_ | refine sq_e ?_ | refine bk_n ?_ | refine bk_r ?_ | refine bk_e rfl ?_ | refine bk_x rfl ?_ | refine ct_seq ?_ | refine ct_region rfl ?_ | refine ct_skip ?_ | refine ct_label ?_ | refine ct_block ?_ | refine ct_exit ?_ | refine ct_ret ?_ | refine ct_scope ?_ | refine ct_true rfl ?_ | refine ct_false rfl ?_ | refine lt_step ?_))
  exact re_1 rfl rfl (by exact drop_auto) (hk _ _)
/-- What is left of a round. -/
def RndQ (Lp : Nat) (fr : Fr) (ps : List Nat) (A B : Code) (St : Hp → Prop) (v : Value) (H' : Hp) : Prop := v = .bool true ∧ ∃ R, St R ∧ ((Lp, .loop 0 none fr ps A B) :: R).Sublist H'
/-- The iterator calls a round for each link that is up. -/
theorem iter_ct (L : List Ln) (U : List Bool) (ad ad2 : Option Addr) (c c2 b2 b3 Lp nt : Nat) (lf : Sl) (fr : Fr) (ps : List Nat) (A B : Code) (St : Nat → Hp → Prop) (R0 : Hp) (hps : ps.length = 2) (hfr : FrHas nt lf fr)
    (h1 : Arr (cx B0 old) H ad 3 encLn L) (h2 : Arr (cx B0 old) H ad2 1 (fun b => [.bool b]) U) (hl : L.length ≤ 128) (hUL : U.length = L.length)
    (hst : ∀ i R, St i R → H.Sublist R ∧ (b2, AObj.row [.slice ad L.length c] 1 false) ∈ R ∧ (b3, AObj.row [.slice ad2 U.length c2] 1 false) ∈ R) (h0 : St 0 R0)
    (hdown : ∀ i R, U[i]? = some false → St i R → St (i + 1) R)
    (hround : ∀ i x R E q, L[i]? = some x → U[i]? = some true → St i R → CodeT (cx B0 old) (ahand (cx B0 old) ansP n) true nt A (parL nt ps [.int .i64 (i : Int), .agg ⟨encLn x⟩] lf) ((Lp, .loop 0 q fr ps A B) :: (E ++ R)) fun e l2 H2 => match e with
      | .normal => ∃ q' H3, H2.Perm ((Lp, .loop 0 q' fr ps A B) :: H3) ∧ CodeT (cx B0 old) (ahand (cx B0 old) ansP n) true nt B l2 ((Lp, .loop 1 q' fr ps A B) :: H3) fun e l3 H4 => rndΦ Lp fr ps A B (RndQ Lp fr ps A B (St (i + 1))) e H4
      | _ => False)
    (hQ : ∀ R v, St L.length R → Q v ((Lp, .loop 0 none fr ps A B) :: R)) :
    CallT (cx B0 old) (acall (cx B0 old) ansP (n + 2)) 55 [.func (.yield Lp) #[] #[], .pointer (some ⟨b2, 0, none⟩), .pointer (some ⟨b3, 0, none⟩)] ((Lp, .loop 0 none fr ps A B) :: R0) Q := by
  refine call_in3 25 rfl Try.func55 rfl rfl ?_
  obtain ⟨g1, g2, g3⟩ := hst 0 R0 h0
  have hL2 : ∀ H', R0.Sublist H' → LdT (cx B0 old) 22 H' b2 0 (.slice ad L.length c) := fun H' hs => ld1 (.own _ _ (hs.subset g2)) rfl (sz rfl) rfl
  repeat (first | (first | refine rt_nil ?_ | (refine isRun ?_; first | refine x1 ?_ | refine x2 ?_ | refine x3 fun _ => ?_ | refine x4 fun _ => ?_ | refine x5 fun _ => ?_ | (refine rt_step rfl rfl rfl ?_; first | refine st_buildSlice rfl (zr rfl) rfl rfl rfl rfl rfl rfl fun _ => ?_ | refine st_A rfl rfl (fun _ => rfl) rfl fun _ => ?_) | refine x8 ?_ | refine rt_skip rfl rfl rfl ?_ | refine rt_skip0 rfl rfl ?_)) | (first | refine sq_n ?_ | refine sq_r ?_ | refine sq_e ?_ | refine bk_n ?_ | refine bk_r ?_ | refine bk_e rfl ?_ | refine bk_x rfl ?_ | refine ct_seq ?_ | refine ct_region rfl ?_ | refine ct_skip ?_ | refine ct_label ?_ | refine ct_block ?_ | refine ct_exit ?_ | refine ct_ret ?_ | refine ct_scope ?_ | refine ct_true rfl ?_ | refine ct_false rfl ?_ | refine lt_step ?_))
  refine loop_ind (ι := Nat × Hp) (0, R0) (fun i => L.length - i.1) (fun i => i.1 ≤ L.length ∧ St i.1 i.2)
    (fun i => [(8, .int .i64 (i.1 : Int)), (7, .int .i64 L.length), (6, .slice ad L.length c), (0, .func (.yield Lp) #[] #[]), (2, .pointer (some ⟨b3, 0, none⟩))])
    (fun i => (Lp, .loop 0 none fr ps A B) :: i.2) ⟨Nat.zero_le _, h0⟩ (by repeat (first | exact SubL.nil | refine SubL.cons rfl ?_)) (by exact drop_auto) ?_
  clear hL2 g1 g2 g3
  rintro ⟨i, R⟩ ⟨hi, hs⟩
  simp only at hi hs ⊢
  obtain ⟨g1, g2, g3⟩ := hst i R hs
  repeat (first | (first | refine rt_nil ?_ | (refine isRun ?_; first | refine x1 ?_ | refine x2 ?_ | refine x3 fun _ => ?_ | refine x4 fun _ => ?_ | refine x5 fun _ => ?_ | (refine rt_step rfl rfl rfl ?_; first | refine st_buildSlice rfl (zr rfl) rfl rfl rfl rfl rfl rfl fun _ => ?_ | refine st_A rfl rfl (fun _ => rfl) rfl fun _ => ?_) | refine x8 ?_ | refine rt_skip rfl rfl rfl ?_ | refine rt_skip0 rfl rfl ?_)) | (first | refine sq_n ?_ | refine sq_r ?_ | refine sq_e ?_ | refine bk_n ?_ | refine bk_r ?_ | refine bk_e rfl ?_ | refine bk_x rfl ?_ | refine ct_seq ?_ | refine ct_region rfl ?_ | refine ct_skip ?_ | refine ct_label ?_ | refine ct_block ?_ | refine ct_exit ?_ | refine ct_ret ?_ | refine ct_scope ?_ | refine ct_true rfl ?_ | refine ct_false rfl ?_ | refine lt_step ?_))
  refine ct_condT te_d rfl (fun hc => ?_) (fun hc => ?_)
  rotate_left
  · have hc : i = L.length := by omega
    subst hc
    repeat (first | (first | refine rt_nil ?_ | (refine isRun ?_; first | refine x1 ?_ | refine x2 ?_ | refine x3 fun _ => ?_ | refine x4 fun _ => ?_ | refine x5 fun _ => ?_ | (refine rt_step rfl rfl rfl ?_; first | refine st_buildSlice rfl (zr rfl) rfl rfl rfl rfl rfl rfl fun _ => ?_ | refine st_A rfl rfl (fun _ => rfl) rfl fun _ => ?_) | refine x8 ?_ | refine rt_skip rfl rfl rfl ?_ | refine rt_skip0 rfl rfl ?_)) | (first | refine sq_n ?_ | refine sq_r ?_ | refine sq_e ?_ | refine bk_n ?_ | refine bk_r ?_ | refine bk_e rfl ?_ | refine bk_x rfl ?_ | refine ct_seq ?_ | refine ct_region rfl ?_ | refine ct_skip ?_ | refine ct_label ?_ | refine ct_block ?_ | refine ct_exit ?_ | refine ct_ret ?_ | refine ct_scope ?_ | refine ct_true rfl ?_ | refine ct_false rfl ?_ | refine lt_step ?_))
    exact re_0 rfl (by exact drop_auto) (fun v => hQ R v hs)
  obtain ⟨x, hx⟩ : ∃ x, L[i]? = some x := ⟨_, List.getElem?_eq_getElem (by omega)⟩
  obtain ⟨u, hu⟩ : ∃ u, U[i]? = some u := ⟨_, List.getElem?_eq_getElem (by omega)⟩
  obtain ⟨b4, o4, rfl, hL0⟩ := (h1.weak g1).ldW 27 hx rfl (sz rfl)
  obtain ⟨b5, o5, rfl, hL1⟩ := (h2.weak g1).ld1 4 hu rfl rfl (sz rfl)
  have hL2 : ∀ H', R.Sublist H' → LdT (cx B0 old) 23 H' b3 0 (.slice (some ⟨b5, o5, none⟩) U.length c2) := fun H' hs => ld1 (.own _ _ (hs.subset g3)) rfl (sz rfl) rfl
  repeat (first | (first | refine rt_nil ?_ | (refine isRun ?_; first | refine x1 ?_ | refine x2 ?_ | refine x3 fun _ => ?_ | refine x4 fun _ => ?_ | refine x5 fun _ => ?_ | (refine rt_step rfl rfl rfl ?_; first | refine st_buildSlice rfl (zr rfl) rfl rfl rfl rfl rfl rfl fun _ => ?_ | refine st_A rfl rfl (fun _ => rfl) rfl fun _ => ?_) | refine x8 ?_ | refine rt_skip rfl rfl rfl ?_ | refine rt_skip0 rfl rfl ?_)) | (first | refine sq_n ?_ | refine sq_r ?_ | refine sq_e ?_ | refine bk_n ?_ | refine bk_r ?_ | refine bk_e rfl ?_ | refine bk_x rfl ?_ | refine ct_seq ?_ | refine ct_region rfl ?_ | refine ct_skip ?_ | refine ct_label ?_ | refine ct_block ?_ | refine ct_exit ?_ | refine ct_ret ?_ | refine ct_scope ?_ | refine ct_true rfl ?_ | refine ct_false rfl ?_ | refine lt_step ?_))
  cases u with
  | false =>
    repeat (first | (first | refine rt_nil ?_ | (refine isRun ?_; first | refine x1 ?_ | refine x2 ?_ | refine x3 fun _ => ?_ | refine x4 fun _ => ?_ | refine x5 fun _ => ?_ | (refine rt_step rfl rfl rfl ?_; first | refine st_buildSlice rfl (zr rfl) rfl rfl rfl rfl rfl rfl fun _ => ?_ | refine st_A rfl rfl (fun _ => rfl) rfl fun _ => ?_) | refine x8 ?_ | refine rt_skip rfl rfl rfl ?_ | refine rt_skip0 rfl rfl ?_)) | (first | refine sq_n ?_ | refine sq_r ?_ | refine sq_e ?_ | refine bk_n ?_ | refine bk_r ?_ | refine bk_e rfl ?_ | refine bk_x rfl ?_ | refine ct_seq ?_ | refine ct_region rfl ?_ | refine ct_skip ?_ | refine ct_label ?_ | refine ct_block ?_ | refine ct_exit ?_ | refine ct_ret ?_ | refine ct_scope ?_ | refine ct_true rfl ?_ | refine ct_false rfl ?_ | refine lt_step ?_))
    exact ⟨(i + 1, R), ⟨by omega, hdown i R hu hs⟩, by dsimp only; omega, by repeat (first | exact SubL.nil | refine SubL.cons rfl ?_), by exact drop_auto⟩
  | true =>
    repeat (first | (first | refine rt_nil ?_ | (refine isRun ?_; first | refine x1 ?_ | refine x2 ?_ | refine x3 fun _ => ?_ | refine x4 fun _ => ?_ | refine x5 fun _ => ?_ | (refine rt_step rfl rfl rfl ?_; first | refine st_buildSlice rfl (zr rfl) rfl rfl rfl rfl rfl rfl fun _ => ?_ | refine st_A rfl rfl (fun _ => rfl) rfl fun _ => ?_) | refine x8 ?_ | refine rt_skip rfl rfl rfl ?_ | refine rt_skip0 rfl rfl ?_)) | (first | refine sq_n ?_ | refine sq_r ?_ | refine sq_e ?_ | refine bk_n ?_ | refine bk_r ?_ | refine bk_e rfl ?_ | refine bk_x rfl ?_ | refine ct_seq ?_ | refine ct_region rfl ?_ | refine ct_skip ?_ | refine ct_label ?_ | refine ct_block ?_ | refine ct_exit ?_ | refine ct_ret ?_ | refine ct_scope ?_ | refine ct_true rfl ?_ | refine ct_false rfl ?_ | refine lt_step ?_))
    rename_i bx
    refine rt_step rfl rfl rfl (st_yield rfl rfl rfl (by rw [hps]; rfl) (pm1 (H := R)) hfr ((hround i x R [(bx, .row (encLn x) 3 false)] none hx hu hs).mono ?_))
    intro e l2 H2 h
    cases e with
    | exit j => exact h
    | ret => exact h
    | normal =>
      obtain ⟨q', H3, hp, h⟩ := h
      refine ⟨q', H3, hp, h.mono fun e l3 H4 h => ?_⟩
      obtain ⟨st, q2, H5, hp2, h⟩ := h
      refine ⟨st, q2, H5, hp2, ?_⟩
      cases e with
      | normal =>
        obtain ⟨_, R', hs', hsub⟩ := h
        repeat (first | (first | refine rt_nil ?_ | (refine isRun ?_; first | refine x1 ?_ | refine x2 ?_ | refine x3 fun _ => ?_ | refine x4 fun _ => ?_ | refine x5 fun _ => ?_ | (refine rt_step rfl rfl rfl ?_; first | refine st_buildSlice rfl (zr rfl) rfl rfl rfl rfl rfl rfl fun _ => ?_ | refine st_A rfl rfl (fun _ => rfl) rfl fun _ => ?_) | refine x8 ?_ | refine rt_skip rfl rfl rfl ?_ | refine rt_skip0 rfl rfl ?_)) | (first | refine sq_n ?_ | refine sq_r ?_ | refine sq_e ?_ | refine bk_n ?_ | refine bk_r ?_ | refine bk_e rfl ?_ | refine bk_x rfl ?_ | refine ct_seq ?_ | refine ct_region rfl ?_ | refine ct_skip ?_ | refine ct_label ?_ | refine ct_block ?_ | refine ct_exit ?_ | refine ct_ret ?_ | refine ct_scope ?_ | refine ct_true rfl ?_ | refine ct_false rfl ?_ | refine lt_step ?_))
        exact ⟨(i + 1, R'), ⟨by omega, hs'⟩, by dsimp only; omega, by repeat (first | exact SubL.nil | refine SubL.cons rfl ?_), hsub⟩
      | exit j => exact absurd h.1 (by simp)
      | ret => exact absurd h.1 (by simp)
end
end Go.Proofs.Ytdaigoiekkofoaa.Abs

/- The program's edges. -/
namespace Go.Proofs.Ytdaigoiekkofoaa.Abs
open Go
set_option linter.unusedVariables false
section
variable {B0 : Nat} {old : Nat → Option (List Value)} {n : Nat} {H : Hp} {Q : Value → Hp → Prop}
set_option maxRecDepth 10000
set_option maxHeartbeats 8000000
/-- What the rounds keep: the mark, the iterator's cells, the outer row and its cell, the inner rows. -/
def EdSt (M : Nat) (L : List Ln) (U : List Bool) (m b2 b3 bq bo : Nat) (s1 s2 : Value) (H : Hp) (i : Nat) (R : Hp) : Prop := ∃ vs Hs, Rows encE 3 (edA L U M i) vs Hs ∧
  R = (m, .dblk) :: (b3, .row [s2] 1 false) :: (b2, .row [s1] 1 false) :: (bq, .row [.slice (some ⟨bo, 0, none⟩) M M] 1 false) :: (bo, .row (vs.map vV) 1 false) :: (Hs ++ H)
theorem edges_ct (M : Nat) (ad ad2 : Option Addr) (c c2 : Nat) (L : List Ln) (U : List Bool) (hok : netOk M L U) (h1 : Arr (cx B0 old) H ad 3 encLn L) (h2 : Arr (cx B0 old) H ad2 1 (fun b => [.bool b]) U)
    (hQ : ∀ vs Hs bo, Rows encE 3 (edA L U M L.length) vs Hs → Q (.slice (some ⟨bo, 0, none⟩) M M) ((bo, .row (vs.map vV) 1 false) :: (Hs ++ H))) :
    CallT (cx B0 old) (acall (cx B0 old) ansP (n + 3)) 38 [.int .i64 M, .slice ad L.length c, .slice ad2 U.length c2] H Q := by
  have hM : M ≤ 32 := by have := hok.2.1; omega
  have hUL : U.length = L.length := hok.2.2.2.1
  have hLl : L.length ≤ 128 := hok.2.2.1
  refine call_inM 52 rfl Try.func38 rfl rfl ?_
  refine cm_seq (cm_code ?_)
  repeat (first | (first | refine rt_nil ?_ | (refine isRun ?_; first | refine x1 ?_ | refine x2 ?_ | refine x3 fun _ => ?_ | refine x4 fun _ => ?_ | refine x5 fun _ => ?_ | (refine rt_step rfl rfl rfl ?_; first | refine st_buildSlice rfl (zr rfl) rfl rfl rfl rfl rfl rfl fun _ => ?_ | refine st_A rfl rfl (fun _ => rfl) rfl fun _ => ?_) | refine x8 ?_ | refine rt_skip rfl rfl rfl ?_ | refine rt_skip0 rfl rfl ?_)) | (first | refine sq_n ?_ | refine sq_r ?_ | refine sq_e ?_ | refine bk_n ?_ | refine bk_r ?_ | refine bk_e rfl ?_ | refine bk_x rfl ?_ | refine ct_seq ?_ | refine ct_region rfl ?_ | refine ct_skip ?_ | refine ct_label ?_ | refine ct_block ?_ | refine ct_exit ?_ | refine ct_ret ?_ | refine ct_scope ?_ | refine ct_true rfl ?_ | refine ct_false rfl ?_ | refine lt_step ?_))
  refine cm_seq (cm_code ?_)
  repeat (first | (first | refine rt_nil ?_ | (refine isRun ?_; first | refine x1 ?_ | refine x2 ?_ | refine x3 fun _ => ?_ | refine x4 fun _ => ?_ | refine x5 fun _ => ?_ | (refine rt_step rfl rfl rfl ?_; first | refine st_buildSlice rfl (zr rfl) rfl rfl rfl rfl rfl rfl fun _ => ?_ | refine st_A rfl rfl (fun _ => rfl) rfl fun _ => ?_) | refine x8 ?_ | refine rt_skip rfl rfl rfl ?_ | refine rt_skip0 rfl rfl ?_)) | (first | refine sq_n ?_ | refine sq_r ?_ | refine sq_e ?_ | refine bk_n ?_ | refine bk_r ?_ | refine bk_e rfl ?_ | refine bk_x rfl ?_ | refine ct_seq ?_ | refine ct_region rfl ?_ | refine ct_skip ?_ | refine ct_label ?_ | refine ct_block ?_ | refine ct_exit ?_ | refine ct_ret ?_ | refine ct_scope ?_ | refine ct_true rfl ?_ | refine ct_false rfl ?_ | refine lt_step ?_))
  refine rt_step rfl rfl rfl (st_makeM vV (.slice none 0 0) rfl rfl rfl rfl rfl (Nat.ble_eq_true_of_le (by show 24 * M ≤ _; omega)) (Nat.ble_eq_true_of_le (by omega)) rfl fun bo => ?_)
  repeat (first | (first | refine rt_nil ?_ | (refine isRun ?_; first | refine x1 ?_ | refine x2 ?_ | refine x3 fun _ => ?_ | refine x4 fun _ => ?_ | refine x5 fun _ => ?_ | (refine rt_step rfl rfl rfl ?_; first | refine st_buildSlice rfl (zr rfl) rfl rfl rfl rfl rfl rfl fun _ => ?_ | refine st_A rfl rfl (fun _ => rfl) rfl fun _ => ?_) | refine x8 ?_ | refine rt_skip rfl rfl rfl ?_ | refine rt_skip0 rfl rfl ?_)) | (first | refine sq_n ?_ | refine sq_r ?_ | refine sq_e ?_ | refine bk_n ?_ | refine bk_r ?_ | refine bk_e rfl ?_ | refine bk_x rfl ?_ | refine ct_seq ?_ | refine ct_region rfl ?_ | refine ct_skip ?_ | refine ct_label ?_ | refine ct_block ?_ | refine ct_exit ?_ | refine ct_ret ?_ | refine ct_scope ?_ | refine ct_true rfl ?_ | refine ct_false rfl ?_ | refine lt_step ?_))
  refine cm_seq (cm_seq (cm_code ?_))
  repeat (first | (first | refine rt_nil ?_ | (refine isRun ?_; first | refine x1 ?_ | refine x2 ?_ | refine x3 fun _ => ?_ | refine x4 fun _ => ?_ | refine x5 fun _ => ?_ | (refine rt_step rfl rfl rfl ?_; first | refine st_buildSlice rfl (zr rfl) rfl rfl rfl rfl rfl rfl fun _ => ?_ | refine st_A rfl rfl (fun _ => rfl) rfl fun _ => ?_) | refine x8 ?_ | refine rt_skip rfl rfl rfl ?_ | refine rt_skip0 rfl rfl ?_)) | (first | refine sq_n ?_ | refine sq_r ?_ | refine sq_e ?_ | refine bk_n ?_ | refine bk_r ?_ | refine bk_e rfl ?_ | refine bk_x rfl ?_ | refine ct_seq ?_ | refine ct_region rfl ?_ | refine ct_skip ?_ | refine ct_label ?_ | refine ct_block ?_ | refine ct_exit ?_ | refine ct_ret ?_ | refine ct_scope ?_ | refine ct_true rfl ?_ | refine ct_false rfl ?_ | refine lt_step ?_))
  refine rt_step rfl rfl rfl (st_call rfl rfl rfl rfl (enabled_ct ad ad2 _ _ c c2 fun b2 b3 => ?_))
  repeat (first | (first | refine rt_nil ?_ | (refine isRun ?_; first | refine x1 ?_ | refine x2 ?_ | refine x3 fun _ => ?_ | refine x4 fun _ => ?_ | refine x5 fun _ => ?_ | (refine rt_step rfl rfl rfl ?_; first | refine st_buildSlice rfl (zr rfl) rfl rfl rfl rfl rfl rfl fun _ => ?_ | refine st_A rfl rfl (fun _ => rfl) rfl fun _ => ?_) | refine x8 ?_ | refine rt_skip rfl rfl rfl ?_ | refine rt_skip0 rfl rfl ?_)) | (first | refine sq_n ?_ | refine sq_r ?_ | refine sq_e ?_ | refine bk_n ?_ | refine bk_r ?_ | refine bk_e rfl ?_ | refine bk_x rfl ?_ | refine ct_seq ?_ | refine ct_region rfl ?_ | refine ct_skip ?_ | refine ct_label ?_ | refine ct_block ?_ | refine ct_exit ?_ | refine ct_ret ?_ | refine ct_scope ?_ | refine ct_true rfl ?_ | refine ct_false rfl ?_ | refine lt_step ?_))
  rename_i bq
  refine cm_block (cm_range rfl rfl ?_)
  intro m fr hfr
  refine iter_ct (H := H) L U ad ad2 c c2 b2 b3 (m + 1) 52 _ fr _ _ _ (EdSt M L U m b2 b3 bq bo (.slice ad L.length c) (.slice ad2 U.length c2) H) _ rfl hfr h1 h2 hLl hUL ?_ ?_ ?_ ?_ ?_
  · rintro i R ⟨vs, Hs, hr, rfl⟩
    exact ⟨by exact drop_auto, by exact in_auto, by exact in_auto⟩
  · refine ⟨List.replicate M (.slice none 0 0), [], ?_, rfl⟩
    have : edA L U M 0 = List.replicate M [] := by
      unfold edA
      exact List.ext_getElem? fun n => by
        rw [List.getElem?_map, List.getElem?_replicate]
        by_cases h : n < M
        · rw [List.getElem?_range h, if_pos h]; rfl
        · rw [List.getElem?_eq_none (by simp; omega), if_neg h]; rfl
    rw [this]
    exact Rows.replicate M
  · rintro i R hu ⟨vs, Hs, hr, rfl⟩
    exact ⟨vs, Hs, by rw [edA_down hu]; exact hr, rfl⟩
  · rintro i x R E q hx hu ⟨vs, Hs, hr, rfl⟩
    repeat (first | (first | refine rt_nil ?_ | (refine isRun ?_; first | refine x1 ?_ | refine x2 ?_ | refine x3 fun _ => ?_ | refine x4 fun _ => ?_ | refine x5 fun _ => ?_ | (refine rt_step rfl rfl rfl ?_; first | refine st_buildSlice rfl (zr rfl) rfl rfl rfl rfl rfl rfl fun _ => ?_ | refine st_A rfl rfl (fun _ => rfl) rfl fun _ => ?_) | refine x8 ?_ | refine rt_skip rfl rfl rfl ?_ | refine rt_skip0 rfl rfl ?_)) | (first | refine sq_n ?_ | refine sq_r ?_ | refine sq_e ?_ | refine bk_n ?_ | refine bk_r ?_ | refine bk_e rfl ?_ | refine bk_x rfl ?_ | refine ct_seq ?_ | refine ct_region rfl ?_ | refine ct_skip ?_ | refine ct_label ?_ | refine ct_block ?_ | refine ct_exit ?_ | refine ct_ret ?_ | refine ct_scope ?_ | refine ct_true rfl ?_ | refine ct_false rfl ?_ | refine lt_step ?_))
    rename_i b9
    refine ⟨q, _, pm1, ?_⟩
    have hg := hok.2.2.2.2 x (List.mem_of_getElem? hx)
    have hup := edA_up hx hu hg
    unfold goodL at hg
    have hila : i < L.length := (List.getElem?_eq_some_iff.1 hx).1
    generalize hlo : AObj.loop 1 q fr _ _ _ = lo
    have hvl : vs.length = M := by rw [hr.length, edA_len]
    have hla := edL_len L U x.a.toNat i
    have hlb := edL_len L U x.b.toNat i
    obtain ⟨v, A, Hi, Bq, e1, rfl, ho, hset⟩ := hr.at (edA_get (i := i) (n := x.a.toNat) (by omega))
    obtain ⟨adv, cv, rfl, hav⟩ := ho.arrW (C := cx B0 old) encE_len
    have hA0 : ∀ (H' : Hp) (j : Nat), j = x.a.toNat → (bo, AObj.row (vs.map vV) 1 false) ∈ H' → LdT (cx B0 old) 52 H' bo (0 + j * 1) (.slice adv (edL L U x.a.toNat i).length cv) := fun H' j hj hm => ld1 (.own _ _ hm) rfl (sz rfl) (by rw [hj, Nat.zero_add, Nat.mul_one, List.getElem?_map, e1]; rfl)
    repeat (first | (first | refine rt_nil ?_ | (refine isRun ?_; first | refine x1 ?_ | refine x2 ?_ | refine x3 fun _ => ?_ | refine x4 fun _ => ?_ | refine x5 fun _ => ?_ | (refine rt_step rfl rfl rfl ?_; first | refine st_buildSlice rfl (zr rfl) rfl rfl rfl rfl rfl rfl fun _ => ?_ | refine st_A rfl rfl (fun _ => rfl) rfl fun _ => ?_) | refine x8 ?_ | refine rt_skip rfl rfl rfl ?_ | refine rt_skip0 rfl rfl ?_)) | (first | refine sq_n ?_ | refine sq_r ?_ | refine sq_e ?_ | refine bk_n ?_ | refine bk_r ?_ | refine bk_e rfl ?_ | refine bk_x rfl ?_ | refine ct_seq ?_ | refine ct_region rfl ?_ | refine ct_skip ?_ | refine ct_label ?_ | refine ct_block ?_ | refine ct_exit ?_ | refine ct_ret ?_ | refine ct_scope ?_ | refine ct_true rfl ?_ | refine ct_false rfl ?_ | refine lt_step ?_))
    refine ct_draw (masks := [0, 0, 2, 0, 0, 16, 56, 120, 0, 0, 512, 0, 2048, 7936, 16128, 32760, 65535, 131071]) (plan := [0, 1, 2, 3, 4, 5, 6, 7, 8, 9, 10, 11, 12, 13, 14, 15, 16, 17]) (E := []) (by kernel_rfl) (by kernel_rfl) (by kernel_rfl) (by kernel_rfl) ?_
    repeat (first | refine pl_nil ?_ | (refine isPlan ?_; first | refine y1 ?_ | refine y2 ?_ | refine pl_skip rfl rfl rfl rfl rfl ?_ | refine pl_skip0 rfl rfl rfl rfl ?_))
    refine pl_S' (late_no rfl) rfl rfl rfl rfl rfl rfl (st_buildSlice rfl (zr rfl) rfl rfl rfl rfl rfl rfl fun bs => ⟨by exact rec_auto, ?_⟩)
    have e1 : ∀ X : Hp, ((bs, .row (encE ⟨i, x.b, x.c⟩) 3 false) :: (m + 1, lo) :: (b9, .row (encLn x) 3 false) :: (E ++ (m, .dblk) :: (b3, .row [.slice ad2 U.length c2] 1 false) :: (b2, .row [.slice ad L.length c] 1 false) :: (bq, .row [.slice (some ⟨bo, 0, none⟩) M M] 1 false) :: (bo, .row (vs.map vV) 1 false) :: A)) ++ (X ++ (Bq ++ H)) = (bs, .row (encE ⟨i, x.b, x.c⟩) 3 false) :: (m + 1, lo) :: (b9, .row (encLn x) 3 false) :: (E ++ (m, .dblk) :: (b3, .row [.slice ad2 U.length c2] 1 false) :: (b2, .row [.slice ad L.length c] 1 false) :: (bq, .row [.slice (some ⟨bo, 0, none⟩) M M] 1 false) :: (bo, .row (vs.map vV) 1 false) :: ((A ++ (X ++ Bq)) ++ H)) := fun X => by simp
    refine PlanT.perm (H' := ((bs, .row (encE ⟨i, x.b, x.c⟩) 3 false) :: (m + 1, lo) :: (b9, .row (encLn x) 3 false) :: (E ++ (m, .dblk) :: (b3, .row [.slice ad2 U.length c2] 1 false) :: (b2, .row [.slice ad L.length c] 1 false) :: (bq, .row [.slice (some ⟨bo, 0, none⟩) M M] 1 false) :: (bo, .row (vs.map vV) 1 false) :: A)) ++ (Hi ++ (Bq ++ H))) ?_ (List.Perm.of_eq (e1 Hi))
    refine pl_S' (late_no rfl) rfl rfl rfl rfl rfl rfl (st_appP (M := [⟨i, x.b, x.c⟩]) (c := 1) ho encE_len encE_one rfl rfl (ap rfl) (arrW_one encE_len hm0) (by show _ * (24 + 1) ≤ _; simp only [List.length_singleton]; omega) fun v1 Hi1 hn1 => ?_)
    rw [e1 Hi1]
    have hset1 := hset _ _ _ hn1
    obtain ⟨adn1, cn1, rfl, _⟩ := hn1.arrW (C := cx B0 old) encE_len
    refine ⟨by exact rec_auto, ?_⟩
    repeat (first | refine pl_nil ?_ | (refine isPlan ?_; first | refine y1 ?_ | refine y2 ?_ | refine pl_skip rfl rfl rfl rfl rfl ?_ | refine pl_skip0 rfl rfl rfl rfl ?_))
    refine y3 ?_
    repeat (first | refine pl_nil ?_ | (refine isPlan ?_; first | refine y1 ?_ | refine y2 ?_ | refine pl_skip rfl rfl rfl rfl rfl ?_ | refine pl_skip0 rfl rfl rfl rfl ?_))
    clear hA0
    have hvl2 : (vs.set x.a.toNat (Value.slice adn1 (edL L U x.a.toNat i ++ [(⟨(i : Int), x.b, x.c⟩ : Ed)]).length cn1)).length = M := by rw [List.length_set, hvl]
    obtain ⟨vs2, hvs2⟩ : ∃ w, w = vs.set x.a.toNat (Value.slice adn1 (edL L U x.a.toNat i ++ [(⟨(i : Int), x.b, x.c⟩ : Ed)]).length cn1) := ⟨_, rfl⟩
    rw [← hvs2] at hset1 hvl2
    obtain ⟨v2, A2, Hi2, B2, f1, f2, ho2, hset2⟩ := hset1.at (i := x.b.toNat) (L := edL L U x.b.toNat i) (by rw [List.getElem?_set, if_neg (by omega)]; exact edA_get (by omega))
    obtain ⟨adv2, cv2, rfl, hav2⟩ := ho2.arrW (C := cx B0 old) encE_len
    have hA0 : ∀ (H' : Hp) (j : Nat), j = x.b.toNat → (bo, AObj.row (vs2.map vV) 1 false) ∈ H' → LdT (cx B0 old) 52 H' bo (0 + j * 1) (.slice adv2 (edL L U x.b.toNat i).length cv2) := fun H' j hj hm => ld1 (.own _ _ hm) rfl (sz rfl) (by rw [hj, Nat.zero_add, Nat.mul_one, List.getElem?_map, f1]; rfl)
    rw [f2, ← hvs2]
    repeat (first | (first | refine rt_nil ?_ | (refine isRun ?_; first | refine x1 ?_ | refine x2 ?_ | refine x3 fun _ => ?_ | refine x4 fun _ => ?_ | refine x5 fun _ => ?_ | (refine rt_step rfl rfl rfl ?_; first | refine st_buildSlice rfl (zr rfl) rfl rfl rfl rfl rfl rfl fun _ => ?_ | refine st_A rfl rfl (fun _ => rfl) rfl fun _ => ?_) | refine x8 ?_ | refine rt_skip rfl rfl rfl ?_ | refine rt_skip0 rfl rfl ?_)) | (first | refine sq_n ?_ | refine sq_r ?_ | refine sq_e ?_ | refine bk_n ?_ | refine bk_r ?_ | refine bk_e rfl ?_ | refine bk_x rfl ?_ | refine ct_seq ?_ | refine ct_region rfl ?_ | refine ct_skip ?_ | refine ct_label ?_ | refine ct_block ?_ | refine ct_exit ?_ | refine ct_ret ?_ | refine ct_scope ?_ | refine ct_true rfl ?_ | refine ct_false rfl ?_ | refine lt_step ?_))
    refine ct_draw (masks := [0, 0, 2, 0, 0, 16, 56, 120, 0, 0, 512, 0, 2048, 7936, 16128, 32760, 65535, 131071]) (plan := [0, 1, 2, 3, 4, 5, 6, 7, 8, 9, 10, 11, 12, 13, 14, 15, 16, 17]) (E := []) (by kernel_rfl) (by kernel_rfl) (by kernel_rfl) (by kernel_rfl) ?_
    repeat (first | refine pl_nil ?_ | (refine isPlan ?_; first | refine y1 ?_ | refine y2 ?_ | refine pl_skip rfl rfl rfl rfl rfl ?_ | refine pl_skip0 rfl rfl rfl rfl ?_))
    refine pl_S' (late_no rfl) rfl rfl rfl rfl rfl rfl (st_buildSlice rfl (zr rfl) rfl rfl rfl rfl rfl rfl fun bs2 => ⟨by exact rec_auto, ?_⟩)
    have e2 : ∀ X : Hp, ((bs2, .row (encE ⟨i, x.a, x.c⟩) 3 false) :: (bs, .row (encE ⟨i, x.b, x.c⟩) 3 false) :: (m + 1, lo) :: (b9, .row (encLn x) 3 false) :: (E ++ (m, .dblk) :: (b3, .row [.slice ad2 U.length c2] 1 false) :: (b2, .row [.slice ad L.length c] 1 false) :: (bq, .row [.slice (some ⟨bo, 0, none⟩) M M] 1 false) :: (bo, .row (vs2.map vV) 1 false) :: A2)) ++ (X ++ (B2 ++ H)) = (bs2, .row (encE ⟨i, x.a, x.c⟩) 3 false) :: (bs, .row (encE ⟨i, x.b, x.c⟩) 3 false) :: (m + 1, lo) :: (b9, .row (encLn x) 3 false) :: (E ++ (m, .dblk) :: (b3, .row [.slice ad2 U.length c2] 1 false) :: (b2, .row [.slice ad L.length c] 1 false) :: (bq, .row [.slice (some ⟨bo, 0, none⟩) M M] 1 false) :: (bo, .row (vs2.map vV) 1 false) :: ((A2 ++ (X ++ B2)) ++ H)) := fun X => by simp
    refine PlanT.perm (H' := ((bs2, .row (encE ⟨i, x.a, x.c⟩) 3 false) :: (bs, .row (encE ⟨i, x.b, x.c⟩) 3 false) :: (m + 1, lo) :: (b9, .row (encLn x) 3 false) :: (E ++ (m, .dblk) :: (b3, .row [.slice ad2 U.length c2] 1 false) :: (b2, .row [.slice ad L.length c] 1 false) :: (bq, .row [.slice (some ⟨bo, 0, none⟩) M M] 1 false) :: (bo, .row (vs2.map vV) 1 false) :: A2)) ++ (Hi2 ++ (B2 ++ H))) ?_ (List.Perm.of_eq (e2 Hi2))
    refine pl_S' (late_no rfl) rfl rfl rfl rfl rfl rfl (st_appP (M := [⟨i, x.a, x.c⟩]) (c := 1) ho2 encE_len encE_one rfl rfl (ap rfl) (arrW_one encE_len hm0) (by show _ * (24 + 1) ≤ _; simp only [List.length_singleton]; omega) fun v2 Hi2 hn2 => ?_)
    rw [e2 Hi2]
    have hset2 := hset2 _ _ _ hn2
    obtain ⟨adn2, cn2, rfl, _⟩ := hn2.arrW (C := cx B0 old) encE_len
    refine ⟨by exact rec_auto, ?_⟩
    repeat (first | refine pl_nil ?_ | (refine isPlan ?_; first | refine y1 ?_ | refine y2 ?_ | refine pl_skip rfl rfl rfl rfl rfl ?_ | refine pl_skip0 rfl rfl rfl rfl ?_))
    refine y3 ?_
    repeat (first | refine pl_nil ?_ | (refine isPlan ?_; first | refine y1 ?_ | refine y2 ?_ | refine pl_skip rfl rfl rfl rfl rfl ?_ | refine pl_skip0 rfl rfl rfl rfl ?_))
    repeat (first | (first | refine rt_nil ?_ | (refine isRun ?_; first | refine x1 ?_ | refine x2 ?_ | refine x3 fun _ => ?_ | refine x4 fun _ => ?_ | refine x5 fun _ => ?_ | (refine rt_step rfl rfl rfl ?_; first | refine st_buildSlice rfl (zr rfl) rfl rfl rfl rfl rfl rfl fun _ => ?_ | refine st_A rfl rfl (fun _ => rfl) rfl fun _ => ?_) | refine x8 ?_ | refine rt_skip rfl rfl rfl ?_ | refine rt_skip0 rfl rfl ?_)) | (first | refine sq_n ?_ | refine sq_r ?_ | refine sq_e ?_ | refine bk_n ?_ | refine bk_r ?_ | refine bk_e rfl ?_ | refine bk_x rfl ?_ | refine ct_seq ?_ | refine ct_region rfl ?_ | refine ct_skip ?_ | refine ct_label ?_ | refine ct_block ?_ | refine ct_exit ?_ | refine ct_ret ?_ | refine ct_scope ?_ | refine ct_true rfl ?_ | refine ct_false rfl ?_ | refine lt_step ?_))
    subst hlo
    unfold rndΦ RndQ
    refine ⟨1, q, _, pm2.symm, rfl, _, ⟨_, _, by rw [hup]; exact hset2, rfl⟩, by exact drop_auto⟩
  · rintro R v ⟨vs, Hs, hr, rfl⟩
    refine ⟨0, none, (b3, .row [.slice ad2 U.length c2] 1 false) :: (b2, .row [.slice ad L.length c] 1 false) :: (bq, .row [.slice (some ⟨bo, 0, none⟩) M M] 1 false) :: (bo, .row (vs.map vV) 1 false) :: (Hs ++ H), List.Perm.refl _, rfl, ?_⟩
    refine cm_code ?_
    repeat (first | (first | refine rt_nil ?_ | (refine isRun ?_; first | refine x1 ?_ | refine x2 ?_ | refine x3 fun _ => ?_ | refine x4 fun _ => ?_ | refine x5 fun _ => ?_ | (refine rt_step rfl rfl rfl ?_; first | refine st_buildSlice rfl (zr rfl) rfl rfl rfl rfl rfl rfl fun _ => ?_ | refine st_A rfl rfl (fun _ => rfl) rfl fun _ => ?_) | refine x8 ?_ | refine rt_skip rfl rfl rfl ?_ | refine rt_skip0 rfl rfl ?_)) | (first | refine sq_n ?_ | refine sq_r ?_ | refine sq_e ?_ | refine bk_n ?_ | refine bk_r ?_ | refine bk_e rfl ?_ | refine bk_x rfl ?_ | refine ct_seq ?_ | refine ct_region rfl ?_ | refine ct_skip ?_ | refine ct_label ?_ | refine ct_block ?_ | refine ct_exit ?_ | refine ct_ret ?_ | refine ct_scope ?_ | refine ct_true rfl ?_ | refine ct_false rfl ?_ | refine lt_step ?_))
    refine ⟨_, (bo, .row (vs.map vV) 1 false) :: (Hs ++ H), List.Perm.refl _, by exact drop_auto, ?_⟩
    exact res_tmp rfl (res_nil (hQ vs Hs bo hr))
end
end Go.Proofs.Ytdaigoiekkofoaa.Abs
