/- The contract of the statement SpfBellman. -/
import Derived.Test.YtdaigoiekkofoaaMk
namespace Go.Proofs.Ytdaigoiekkofoaa.Abs
open Go
set_option linter.unusedVariables false
theorem getD_setB {R : List Bool} {i j : Nat} {b : Bool} : (R.set i b).getD j false = if i = j then (if i < R.length then b else false) else R.getD j false := by
  rw [List.getD_eq_getElem?_getD, List.getElem?_set]
  by_cases e : i = j
  · subst e
    rw [if_pos rfl, if_pos rfl]
    split <;> rfl
  · rw [if_neg e, if_neg e, List.getD_eq_getElem?_getD]
/-- Which nodes are reached by the first i links. -/
structure Rch (N : Nat) (L : List Ln) (U : List Bool) (d : List Int) (i : Nat) (R : List Bool) : Prop where
  len : R.length = N
  sound : ∀ n, R.getD n false = true → 0 ≤ d.getD n (-1)
  full : ∀ j x n, j < i → L[j]? = some x → U[j]? = some true → viaL d n x → n < N → R.getD n false = true
theorem Rch.skip {N : Nat} {L : List Ln} {U : List Bool} {d : List Int} {i : Nat} {R : List Bool} (h : Rch N L U d i R) (hu : U[i]? = some false) : Rch N L U d (i + 1) R :=
  ⟨h.len, h.sound, fun j x n hj hx hj2 hv hn => by
    by_cases e : j = i
    · subst e; rw [hu] at hj2; cases hj2
    · exact h.full j x n (by omega) hx hj2 hv hn⟩
theorem Rch.gen {N : Nat} {L : List Ln} {U : List Bool} {d : List Int} {i : Nat} {R R' : List Bool} {x : Ln} (h : Rch N L U d i R) (hx : L[i]? = some x) (hl : R'.length = N) (h1 : ∀ n, R'.getD n false = true → R.getD n false = true ∨ 0 ≤ d.getD n (-1)) (h2 : ∀ n, R.getD n false = true → R'.getD n false = true) (h3 : ∀ n, n < N → viaL d n x → R'.getD n false = true) : Rch N L U d (i + 1) R' :=
  ⟨hl, fun n hn => (h1 n hn).elim (h.sound n) id, fun j y n hj hy hj2 hv hn => by
    by_cases e : j = i
    · subst e; rw [hx] at hy; cases hy; exact h3 n hn hv
    · exact h2 n (h.full j y n (by omega) hy hj2 hv hn)⟩
theorem Rch.step0 {N : Nat} {L : List Ln} {U : List Bool} {d : List Int} {i : Nat} {R : List Bool} {x : Ln} (h : Rch N L U d i R) (hx : L[i]? = some x) (hf : fixL d x) (h1 : ¬ (0 ≤ d.getD x.a.toNat (-1) ∧ d.getD x.a.toNat (-1) - d.getD x.b.toNat (-1) = x.c)) (h2 : ¬ (0 ≤ d.getD x.a.toNat (-1) ∧ d.getD x.b.toNat (-1) - d.getD x.a.toNat (-1) = x.c)) (hg : 0 ≤ x.a ∧ 0 ≤ x.b ∧ 1 ≤ x.c) : Rch N L U d (i + 1) R :=
  h.gen hx h.len (fun n hn => .inl hn) (fun n hn => hn) fun n hn hv => by
    unfold fixL at hf
    rcases hv with ⟨v1, v2, v3⟩ | ⟨v1, v2, v3⟩
    · have : n = x.b.toNat := by omega
      subst this; omega
    · have : n = x.a.toNat := by omega
      subst this; omega
theorem Rch.stepA {N : Nat} {L : List Ln} {U : List Bool} {d : List Int} {i : Nat} {R : List Bool} {x : Ln} (h : Rch N L U d i R) (hx : L[i]? = some x) (hf : fixL d x) (h1 : 0 ≤ d.getD x.a.toNat (-1) ∧ d.getD x.a.toNat (-1) - d.getD x.b.toNat (-1) = x.c) (hg : 0 ≤ x.a ∧ 0 ≤ x.b ∧ 1 ≤ x.c) (ha : x.a.toNat < N) : Rch N L U d (i + 1) (R.set x.a.toNat true) :=
  h.gen hx (by rw [List.length_set, h.len]) (fun n hn => by
    rw [getD_setB] at hn
    split at hn
    · rename_i e; subst e; exact .inr h1.1
    · exact .inl hn) (fun n hn => by
    rw [getD_setB]
    split
    · rw [if_pos (by rw [h.len]; exact ha)]
    · exact hn) fun n hn hv => by
    unfold fixL at hf
    rw [getD_setB]
    rcases hv with ⟨v1, v2, v3⟩ | ⟨v1, v2, v3⟩
    · have : n = x.b.toNat := by omega
      subst this; omega
    · rw [if_pos (by omega), if_pos (by rw [h.len]; exact ha)]
theorem Rch.stepB {N : Nat} {L : List Ln} {U : List Bool} {d : List Int} {i : Nat} {R : List Bool} {x : Ln} (h : Rch N L U d i R) (hx : L[i]? = some x) (hf : fixL d x) (h1 : 0 ≤ d.getD x.a.toNat (-1) ∧ d.getD x.b.toNat (-1) - d.getD x.a.toNat (-1) = x.c) (hg : 0 ≤ x.a ∧ 0 ≤ x.b ∧ 1 ≤ x.c) (ha : x.b.toNat < N) : Rch N L U d (i + 1) (R.set x.b.toNat true) :=
  h.gen hx (by rw [List.length_set, h.len]) (fun n hn => by
    rw [getD_setB] at hn
    split at hn
    · rename_i e; subst e; exact .inr (by omega)
    · exact .inl hn) (fun n hn => by
    rw [getD_setB]
    split
    · rw [if_pos (by rw [h.len]; exact ha)]
    · exact hn) fun n hn hv => by
    unfold fixL at hf
    rw [getD_setB]
    rcases hv with ⟨v1, v2, v3⟩ | ⟨v1, v2, v3⟩
    · rw [if_pos (by omega), if_pos (by rw [h.len]; exact ha)]
    · have : n = x.a.toNat := by omega
      subst this; omega
section
variable {B0 : Nat} {old : Nat → Option (List Value)} {n : Nat} {H : Hp} {Q : Value → Hp → Prop}
set_option maxRecDepth 10000
set_option maxHeartbeats 8000000
theorem bell_ct (N k : Int) (ad ad2 : Option Addr) (c c2 : Nat) (L : List Ln) (U : List Bool) (h1 : Arr (cx B0 old) H ad 3 encLn L) (h2 : Arr (cx B0 old) H ad2 1 encBo U) (hk : -9223372036854775808 ≤ k ∧ k ≤ 9223372036854775807) (hQ : ∀ H', Q (.bool true) H') :
    CallT (cx B0 old) (acall (cx B0 old) ansP (n + 31001 + 6)) 6 [.agg ⟨[.int .i64 N, .slice ad L.length c, .slice ad2 U.length c2]⟩, .int .i64 k] H Q := by
  refine call_in2 146 rfl Try.func6 rfl rfl ?_
  repeat (first | (first | refine rt_nil ?_ | (refine isRun ?_; first | refine x1 ?_ | refine x2 ?_ | refine x3 fun _ => ?_ | refine x4 fun _ => ?_ | refine x5 fun _ => ?_ | (refine rt_step rfl rfl rfl ?_; first | refine st_buildSlice rfl (zr rfl) rfl rfl rfl rfl rfl rfl fun _ => ?_ | refine st_A rfl rfl (fun _ => rfl) rfl fun _ => ?_) | refine x8 ?_ | refine rt_skip rfl rfl rfl ?_ | refine rt_skip0 rfl rfl ?_)) | (first | refine sq_n ?_ | refine sq_r ?_ | refine sq_e ?_ | refine bk_n ?_ | refine bk_r ?_ | refine bk_e rfl ?_ | refine bk_x rfl ?_ | refine ct_seq ?_ | refine ct_region rfl ?_ | refine ct_skip ?_ | refine ct_label ?_ | refine ct_block ?_ | refine ct_exit ?_ | refine ct_ret ?_ | refine ct_scope ?_ | refine ct_true rfl ?_ | refine ct_false rfl ?_ | refine lt_step ?_))
  refine rt_step rfl rfl rfl (st_call rfl rfl rfl rfl (known_ct ?_))
  repeat (first | (first | refine rt_nil ?_ | (refine isRun ?_; first | refine x1 ?_ | refine x2 ?_ | refine x3 fun _ => ?_ | refine x4 fun _ => ?_ | refine x5 fun _ => ?_ | (refine rt_step rfl rfl rfl ?_; first | refine st_buildSlice rfl (zr rfl) rfl rfl rfl rfl rfl rfl fun _ => ?_ | refine st_A rfl rfl (fun _ => rfl) rfl fun _ => ?_) | refine x8 ?_ | refine rt_skip rfl rfl rfl ?_ | refine rt_skip0 rfl rfl ?_)) | (first | refine sq_n ?_ | refine sq_r ?_ | refine sq_e ?_ | refine bk_n ?_ | refine bk_r ?_ | refine bk_e rfl ?_ | refine bk_x rfl ?_ | refine ct_seq ?_ | refine ct_region rfl ?_ | refine ct_skip ?_ | refine ct_label ?_ | refine ct_block ?_ | refine ct_exit ?_ | refine ct_ret ?_ | refine ct_scope ?_ | refine ct_true rfl ?_ | refine ct_false rfl ?_ | refine lt_step ?_))
  refine rt_step rfl rfl rfl (st_call rfl rfl rfl rfl (valid_ct N ad ad2 c c2 L U (h1.weak (by exact drop_auto)) (fun hl hok => ?_) (fun hno => ?_)))
  rotate_left
  · repeat (first | (first | refine rt_nil ?_ | (refine isRun ?_; first | refine x1 ?_ | refine x2 ?_ | refine x3 fun _ => ?_ | refine x4 fun _ => ?_ | refine x5 fun _ => ?_ | (refine rt_step rfl rfl rfl ?_; first | refine st_buildSlice rfl (zr rfl) rfl rfl rfl rfl rfl rfl fun _ => ?_ | refine st_A rfl rfl (fun _ => rfl) rfl fun _ => ?_) | refine x8 ?_ | refine rt_skip rfl rfl rfl ?_ | refine rt_skip0 rfl rfl ?_)) | (first | refine sq_n ?_ | refine sq_r ?_ | refine sq_e ?_ | refine bk_n ?_ | refine bk_r ?_ | refine bk_e rfl ?_ | refine bk_x rfl ?_ | refine ct_seq ?_ | refine ct_region rfl ?_ | refine ct_skip ?_ | refine ct_label ?_ | refine ct_block ?_ | refine ct_exit ?_ | refine ct_ret ?_ | refine ct_scope ?_ | refine ct_true rfl ?_ | refine ct_false rfl ?_ | refine lt_step ?_))
    exact re_1 rfl rfl (List.Sublist.refl _) (hQ _)
  obtain ⟨M, rfl⟩ := Int.eq_ofNat_of_zero_le (show 0 ≤ N by have := hok.1; omega)
  have hM : M ≤ 32 := by have := hok.2.1; omega
  have hM1 : 1 ≤ M := by have := hok.1; omega
  have hUl := hok.2.2.2.1
  repeat (first | (first | refine rt_nil ?_ | (refine isRun ?_; first | refine x1 ?_ | refine x2 ?_ | refine x3 fun _ => ?_ | refine x4 fun _ => ?_ | refine x5 fun _ => ?_ | (refine rt_step rfl rfl rfl ?_; first | refine st_buildSlice rfl (zr rfl) rfl rfl rfl rfl rfl rfl fun _ => ?_ | refine st_A rfl rfl (fun _ => rfl) rfl fun _ => ?_) | refine x8 ?_ | refine rt_skip rfl rfl rfl ?_ | refine rt_skip0 rfl rfl ?_)) | (first | refine sq_n ?_ | refine sq_r ?_ | refine sq_e ?_ | refine bk_n ?_ | refine bk_r ?_ | refine bk_e rfl ?_ | refine bk_x rfl ?_ | refine ct_seq ?_ | refine ct_region rfl ?_ | refine ct_skip ?_ | refine ct_label ?_ | refine ct_block ?_ | refine ct_exit ?_ | refine ct_ret ?_ | refine ct_scope ?_ | refine ct_true rfl ?_ | refine ct_false rfl ?_ | refine lt_step ?_))
  refine rt_step rfl rfl rfl (st_call rfl rfl rfl rfl (pick_ct k M (by omega) (by omega) hk fun s hs => ?_))
  have hs : s < M := by omega
  repeat (first | (first | refine rt_nil ?_ | (refine isRun ?_; first | refine x1 ?_ | refine x2 ?_ | refine x3 fun _ => ?_ | refine x4 fun _ => ?_ | refine x5 fun _ => ?_ | (refine rt_step rfl rfl rfl ?_; first | refine st_buildSlice rfl (zr rfl) rfl rfl rfl rfl rfl rfl fun _ => ?_ | refine st_A rfl rfl (fun _ => rfl) rfl fun _ => ?_) | refine x8 ?_ | refine rt_skip rfl rfl rfl ?_ | refine rt_skip0 rfl rfl ?_)) | (first | refine sq_n ?_ | refine sq_r ?_ | refine sq_e ?_ | refine bk_n ?_ | refine bk_r ?_ | refine bk_e rfl ?_ | refine bk_x rfl ?_ | refine ct_seq ?_ | refine ct_region rfl ?_ | refine ct_skip ?_ | refine ct_label ?_ | refine ct_block ?_ | refine ct_exit ?_ | refine ct_ret ?_ | refine ct_scope ?_ | refine ct_true rfl ?_ | refine ct_false rfl ?_ | refine lt_step ?_))
  rename_i b2 _
  refine rt_step rfl rfl rfl (st_call rfl rfl rfl rfl (ndist (N := (M : Int)) (k := (s : Int)) ⟨_, _, _, _, rfl, h1.weak (by exact drop_auto), h2.weak (by exact drop_auto)⟩ hl fun w Hw hw => ?_))
  obtain ⟨d, bd, od, cd, hd, hdl, rfl, hA0⟩ := res_dist hw hok hs
  have hbd := hd.bound (fun u v c hr => hr.all hok) hM
  have hlow := fun n => hd.low (n := n)
  have hd0 := hd.src hs
  have hL0 := fun H' hs' => hA0 H' s hs hs'
  rw [hd0] at hL0
  repeat' (first | (first | refine rt_nil ?_ | (refine isRun ?_; first | refine x1 ?_ | refine x2 ?_ | refine x3 fun _ => ?_ | refine x4 fun _ => ?_ | refine x5 fun _ => ?_ | (refine rt_step rfl rfl rfl ?_; first | refine st_buildSlice rfl (zr rfl) rfl rfl rfl rfl rfl rfl fun _ => ?_ | refine st_A rfl rfl (fun _ => rfl) rfl fun _ => ?_) | refine x8 ?_ | refine rt_skip rfl rfl rfl ?_ | refine rt_skip0 rfl rfl ?_)) | (first | refine sq_n ?_ | refine sq_r ?_ | refine sq_e ?_ | refine bk_n ?_ | refine bk_r ?_ | refine bk_e rfl ?_ | refine bk_x rfl ?_ | refine ct_seq ?_ | refine ct_region rfl ?_ | refine ct_skip ?_ | refine ct_label ?_ | refine ct_block ?_ | refine ct_exit ?_ | refine ct_ret ?_ | refine ct_scope ?_ | refine ct_true rfl ?_ | refine ct_false rfl ?_ | refine lt_step ?_) | (first | refine pl_nil ?_ | (refine isPlan ?_; first | refine y1 ?_ | refine y2 ?_ | refine pl_skip rfl rfl rfl rfl rfl ?_ | refine pl_skip0 rfl rfl rfl rfl ?_)) | (refine isPlan ?_; refine y3 ?_) | (first | (refine isRun ?_; refine z1 (fun hc => ?_) (fun hc => ?_)) | refine z2 (fun hc => ?_) (fun hc => ?_) | (refine isPlan ?_; refine z3 (fun hc => ?_) (fun hc => ?_))))
  all_goals try (exfalso; omega)
  clear hL0
  refine rt_step rfl rfl rfl (st_makeM vB false rfl rfl rfl rfl rfl (Nat.ble_eq_true_of_le (by show 1 * M ≤ _; omega)) (Nat.ble_eq_true_of_le (by omega)) rfl fun bR => ?_)
  repeat (first | (first | refine rt_nil ?_ | (refine isRun ?_; first | refine x1 ?_ | refine x2 ?_ | refine x3 fun _ => ?_ | refine x4 fun _ => ?_ | refine x5 fun _ => ?_ | (refine rt_step rfl rfl rfl ?_; first | refine st_buildSlice rfl (zr rfl) rfl rfl rfl rfl rfl rfl fun _ => ?_ | refine st_A rfl rfl (fun _ => rfl) rfl fun _ => ?_) | refine x8 ?_ | refine rt_skip rfl rfl rfl ?_ | refine rt_skip0 rfl rfl ?_)) | (first | refine sq_n ?_ | refine sq_r ?_ | refine sq_e ?_ | refine bk_n ?_ | refine bk_r ?_ | refine bk_e rfl ?_ | refine bk_x rfl ?_ | refine ct_seq ?_ | refine ct_region rfl ?_ | refine ct_skip ?_ | refine ct_label ?_ | refine ct_block ?_ | refine ct_exit ?_ | refine ct_ret ?_ | refine ct_scope ?_ | refine ct_true rfl ?_ | refine ct_false rfl ?_ | refine lt_step ?_))
  refine loop_ind (ι := Nat × List Bool) (0, List.replicate M false) (fun i => L.length - i.1) (fun i => i.1 ≤ L.length ∧ Rch M L U d i.1 i.2)
    (fun i => [(8, .int .i64 (i.1 : Int)), (7, .slice (some ⟨bR, 0, none⟩) M M), (6, .slice (some ⟨bd, od, none⟩) M cd), (1, .int .i64 s), (2, .pointer (some ⟨b2, 0, none⟩)), (5, .bool true)])
    (fun i => (bR, .row (i.2.map vB) 1 false) :: (Hw ++ ((b2, .row [.int .i64 M, .slice ad L.length c, .slice ad2 U.length c2] 3 false) :: H)))
    ⟨Nat.zero_le _, by simp, fun n hn => (by rw [List.getD_eq_getElem?_getD, List.getElem?_replicate] at hn; split at hn <;> cases hn), fun j x n hj => absurd hj (by simp)⟩ (by repeat (first | exact SubL.nil | refine SubL.cons rfl ?_)) (by exact drop_auto) ?_
  rintro ⟨i, R⟩ ⟨hi, hR⟩
  simp only at hi hR ⊢
  have hRl := hR.len
  repeat (first | (first | refine rt_nil ?_ | (refine isRun ?_; first | refine x1 ?_ | refine x2 ?_ | refine x3 fun _ => ?_ | refine x4 fun _ => ?_ | refine x5 fun _ => ?_ | (refine rt_step rfl rfl rfl ?_; first | refine st_buildSlice rfl (zr rfl) rfl rfl rfl rfl rfl rfl fun _ => ?_ | refine st_A rfl rfl (fun _ => rfl) rfl fun _ => ?_) | refine x8 ?_ | refine rt_skip rfl rfl rfl ?_ | refine rt_skip0 rfl rfl ?_)) | (first | refine sq_n ?_ | refine sq_r ?_ | refine sq_e ?_ | refine bk_n ?_ | refine bk_r ?_ | refine bk_e rfl ?_ | refine bk_x rfl ?_ | refine ct_seq ?_ | refine ct_region rfl ?_ | refine ct_skip ?_ | refine ct_label ?_ | refine ct_block ?_ | refine ct_exit ?_ | refine ct_ret ?_ | refine ct_scope ?_ | refine ct_true rfl ?_ | refine ct_false rfl ?_ | refine lt_step ?_))
  refine ct_condT te_d rfl (fun hc => ?_) (fun hc => ?_)
  · obtain ⟨x, hx⟩ : ∃ x, L[i]? = some x := ⟨_, List.getElem?_eq_getElem (by omega)⟩
    obtain ⟨u, hu⟩ : ∃ u, U[i]? = some u := ⟨_, List.getElem?_eq_getElem (by omega)⟩
    obtain ⟨b1, o1, rfl, hL0⟩ := h1.ldW 27 hx rfl (sz rfl)
    obtain ⟨b3, o3, rfl, hL1⟩ := h2.ld1 4 hu rfl rfl (sz rfl)
    have hg := hok.2.2.2.2 x (List.mem_of_getElem? hx)
    unfold goodL at hg
    have ha : x.a.toNat < M := by omega
    have hb : x.b.toNat < M := by omega
    have hL2 := fun H' hs' => hA0 H' x.a.toNat ha hs'
    have hL3 := fun H' hs' => hA0 H' x.b.toNat hb hs'
    have hlA := hlow x.a.toNat
    have hlB := hlow x.b.toNat
    have hbA := hbd x.a.toNat
    have hbB := hbd x.b.toNat
    cases u with
    | false =>
      repeat (first | (first | refine rt_nil ?_ | (refine isRun ?_; first | refine x1 ?_ | refine x2 ?_ | refine x3 fun _ => ?_ | refine x4 fun _ => ?_ | refine x5 fun _ => ?_ | (refine rt_step rfl rfl rfl ?_; first | refine st_buildSlice rfl (zr rfl) rfl rfl rfl rfl rfl rfl fun _ => ?_ | refine st_A rfl rfl (fun _ => rfl) rfl fun _ => ?_) | refine x8 ?_ | refine rt_skip rfl rfl rfl ?_ | refine rt_skip0 rfl rfl ?_)) | (first | refine sq_n ?_ | refine sq_r ?_ | refine sq_e ?_ | refine bk_n ?_ | refine bk_r ?_ | refine bk_e rfl ?_ | refine bk_x rfl ?_ | refine ct_seq ?_ | refine ct_region rfl ?_ | refine ct_skip ?_ | refine ct_label ?_ | refine ct_block ?_ | refine ct_exit ?_ | refine ct_ret ?_ | refine ct_scope ?_ | refine ct_true rfl ?_ | refine ct_false rfl ?_ | refine lt_step ?_))
      exact ⟨(i + 1, R), ⟨by omega, hR.skip hu⟩, by dsimp only; omega, by repeat (first | exact SubL.nil | refine SubL.cons rfl ?_), by exact drop_auto⟩
    | true =>
      have hf := hd.fixL hok hx hu
      have hf2 := hf
      unfold fixL at hf2
      repeat' (first | (first | refine rt_nil ?_ | (refine isRun ?_; first | refine x1 ?_ | refine x2 ?_ | refine x3 fun _ => ?_ | refine x4 fun _ => ?_ | refine x5 fun _ => ?_ | (refine rt_step rfl rfl rfl ?_; first | refine st_buildSlice rfl (zr rfl) rfl rfl rfl rfl rfl rfl fun _ => ?_ | refine st_A rfl rfl (fun _ => rfl) rfl fun _ => ?_) | refine x8 ?_ | refine rt_skip rfl rfl rfl ?_ | refine rt_skip0 rfl rfl ?_)) | (first | refine sq_n ?_ | refine sq_r ?_ | refine sq_e ?_ | refine bk_n ?_ | refine bk_r ?_ | refine bk_e rfl ?_ | refine bk_x rfl ?_ | refine ct_seq ?_ | refine ct_region rfl ?_ | refine ct_skip ?_ | refine ct_label ?_ | refine ct_block ?_ | refine ct_exit ?_ | refine ct_ret ?_ | refine ct_scope ?_ | refine ct_true rfl ?_ | refine ct_false rfl ?_ | refine lt_step ?_) | (first | refine pl_nil ?_ | (refine isPlan ?_; first | refine y1 ?_ | refine y2 ?_ | refine pl_skip rfl rfl rfl rfl rfl ?_ | refine pl_skip0 rfl rfl rfl rfl ?_)) | (refine isPlan ?_; refine y3 ?_) | (first | (refine isRun ?_; refine z1 (fun hc => ?_) (fun hc => ?_)) | refine z2 (fun hc => ?_) (fun hc => ?_) | (refine isPlan ?_; refine z3 (fun hc => ?_) (fun hc => ?_))) | (first | refine ct_draw (id := 14) (masks := [0, 0, 2, 7, 15, 0, 0, 64, 224, 480, 31, 2047]) (plan := [0, 1, 2, 3, 4, 5, 6, 7, 8, 9, 10, 11]) (E := []) (by kernel_rfl) (by kernel_rfl) (by kernel_rfl) (by kernel_rfl) ?_ | refine ct_draw (id := 24) (masks := [0, 0, 3, 7, 15, 15, 63, 127, 255, 15, 15, 1551, 3599, 8191, 16383, 32767, 65535, 65535, 262143, 524287, 1048575, 2097151]) (plan := [0, 1, 2, 3, 4, 5, 6, 7, 8, 9, 10, 11, 12, 13, 14, 15, 16, 17, 18, 19, 20, 21]) (E := []) (by kernel_rfl) (by kernel_rfl) (by kernel_rfl) (by kernel_rfl) ?_))
      all_goals try (exfalso; omega)
      all_goals first
        | exact ⟨(i + 1, R.set x.a.toNat true), ⟨by omega, hR.stepA hx hf (by omega) (by omega) ha⟩, by dsimp only; omega, by repeat (first | exact SubL.nil | refine SubL.cons rfl ?_), by exact drop_auto⟩
        | exact ⟨(i + 1, R.set x.b.toNat true), ⟨by omega, hR.stepB hx hf (by omega) (by omega) hb⟩, by dsimp only; omega, by repeat (first | exact SubL.nil | refine SubL.cons rfl ?_), by exact drop_auto⟩
        | exact ⟨(i + 1, R), ⟨by omega, hR.step0 hx hf (by omega) (by omega) (by omega)⟩, by dsimp only; omega, by repeat (first | exact SubL.nil | refine SubL.cons rfl ?_), by exact drop_auto⟩
  · have : i = L.length := by omega
    subst this
    repeat (first | (first | refine rt_nil ?_ | (refine isRun ?_; first | refine x1 ?_ | refine x2 ?_ | refine x3 fun _ => ?_ | refine x4 fun _ => ?_ | refine x5 fun _ => ?_ | (refine rt_step rfl rfl rfl ?_; first | refine st_buildSlice rfl (zr rfl) rfl rfl rfl rfl rfl rfl fun _ => ?_ | refine st_A rfl rfl (fun _ => rfl) rfl fun _ => ?_) | refine x8 ?_ | refine rt_skip rfl rfl rfl ?_ | refine rt_skip0 rfl rfl ?_)) | (first | refine sq_n ?_ | refine sq_r ?_ | refine sq_e ?_ | refine bk_n ?_ | refine bk_r ?_ | refine bk_e rfl ?_ | refine bk_x rfl ?_ | refine ct_seq ?_ | refine ct_region rfl ?_ | refine ct_skip ?_ | refine ct_label ?_ | refine ct_block ?_ | refine ct_exit ?_ | refine ct_ret ?_ | refine ct_scope ?_ | refine ct_true rfl ?_ | refine ct_false rfl ?_ | refine lt_step ?_))
    refine loop_ind (ι := Nat) 0 (fun i => M - i) (fun i => i ≤ M)
      (fun i => [(12, .int .i64 (i : Int)), (7, .slice (some ⟨bR, 0, none⟩) M M), (6, .slice (some ⟨bd, od, none⟩) M cd), (1, .int .i64 s), (2, .pointer (some ⟨b2, 0, none⟩)), (5, .bool true)])
      (fun i => (bR, .row (R.map vB) 1 false) :: (Hw ++ ((b2, .row [.int .i64 M, .slice ad L.length c, .slice ad2 U.length c2] 3 false) :: H)))
      (Nat.zero_le _) (by repeat (first | exact SubL.nil | refine SubL.cons rfl ?_)) (by exact drop_auto) ?_
    intro m hm
    repeat (first | (first | refine rt_nil ?_ | (refine isRun ?_; first | refine x1 ?_ | refine x2 ?_ | refine x3 fun _ => ?_ | refine x4 fun _ => ?_ | refine x5 fun _ => ?_ | (refine rt_step rfl rfl rfl ?_; first | refine st_buildSlice rfl (zr rfl) rfl rfl rfl rfl rfl rfl fun _ => ?_ | refine st_A rfl rfl (fun _ => rfl) rfl fun _ => ?_) | refine x8 ?_ | refine rt_skip rfl rfl rfl ?_ | refine rt_skip0 rfl rfl ?_)) | (first | refine sq_n ?_ | refine sq_r ?_ | refine sq_e ?_ | refine bk_n ?_ | refine bk_r ?_ | refine bk_e rfl ?_ | refine bk_x rfl ?_ | refine ct_seq ?_ | refine ct_region rfl ?_ | refine ct_skip ?_ | refine ct_label ?_ | refine ct_block ?_ | refine ct_exit ?_ | refine ct_ret ?_ | refine ct_scope ?_ | refine ct_true rfl ?_ | refine ct_false rfl ?_ | refine lt_step ?_))
    refine ct_condT te_d rfl (fun hc => ?_) (fun hc => ?_)
    · have hm2 : m < M := by omega
      have hL0 := fun H' hs' => hA0 H' m hm2 hs'
      have hA1 := fun H' j => ldM (C := cx B0 old) (f := vB) (L := R) (t := 4) (b := bR) (es := 1) (el := false) false rfl (sz rfl) H' j
      have hlm := hlow m
      have hv : (0 ≤ d.getD m (-1) ∧ m ≠ s) → R.getD (m : Int).toNat false = true := fun hh => by
        obtain ⟨i, x, g1, g2, g3⟩ := hd.viaL hok hs hm2 hh.2 hh.1
        exact hR.full i x m ((List.getElem?_eq_some_iff.1 g1).1) g1 g2 g3 hm2
      have hv2 : R.getD (m : Int).toNat false = true → 0 ≤ d.getD m (-1) := hR.sound m
      clear hR hd hbd hlow
      repeat' (first | (first | refine rt_nil ?_ | (refine isRun ?_; first | refine x1 ?_ | refine x2 ?_ | refine x3 fun _ => ?_ | refine x4 fun _ => ?_ | refine x5 fun _ => ?_ | (refine rt_step rfl rfl rfl ?_; first | refine st_buildSlice rfl (zr rfl) rfl rfl rfl rfl rfl rfl fun _ => ?_ | refine st_A rfl rfl (fun _ => rfl) rfl fun _ => ?_) | refine x8 ?_ | refine rt_skip rfl rfl rfl ?_ | refine rt_skip0 rfl rfl ?_)) | (first | refine sq_n ?_ | refine sq_r ?_ | refine sq_e ?_ | refine bk_n ?_ | refine bk_r ?_ | refine bk_e rfl ?_ | refine bk_x rfl ?_ | refine ct_seq ?_ | refine ct_region rfl ?_ | refine ct_skip ?_ | refine ct_label ?_ | refine ct_block ?_ | refine ct_exit ?_ | refine ct_ret ?_ | refine ct_scope ?_ | refine ct_true rfl ?_ | refine ct_false rfl ?_ | refine lt_step ?_) | (first | refine pl_nil ?_ | (refine isPlan ?_; first | refine y1 ?_ | refine y2 ?_ | refine pl_skip rfl rfl rfl rfl rfl ?_ | refine pl_skip0 rfl rfl rfl rfl ?_)) | (refine isPlan ?_; refine y3 ?_) | (first | (refine isRun ?_; refine z1 (fun hc => ?_) (fun hc => ?_)) | refine z2 (fun hc => ?_) (fun hc => ?_) | (refine isPlan ?_; refine z3 (fun hc => ?_) (fun hc => ?_))) | (first | refine ct_draw (id := 14) (masks := [0, 0, 2, 7, 15, 0, 0, 64, 224, 480, 31, 2047]) (plan := [0, 1, 2, 3, 4, 5, 6, 7, 8, 9, 10, 11]) (E := []) (by kernel_rfl) (by kernel_rfl) (by kernel_rfl) (by kernel_rfl) ?_ | refine ct_draw (id := 24) (masks := [0, 0, 3, 7, 15, 15, 63, 127, 255, 15, 15, 1551, 3599, 8191, 16383, 32767, 65535, 65535, 262143, 524287, 1048575, 2097151]) (plan := [0, 1, 2, 3, 4, 5, 6, 7, 8, 9, 10, 11, 12, 13, 14, 15, 16, 17, 18, 19, 20, 21]) (E := []) (by kernel_rfl) (by kernel_rfl) (by kernel_rfl) (by kernel_rfl) ?_))
      all_goals try (exfalso; omega)
      all_goals try (exfalso; generalize R.getD (m : Int).toNat false = r at hv hv2 hc; cases r <;> simp at hv hv2 hc <;> omega)
      all_goals exact ⟨m + 1, by omega, by omega, by repeat (first | exact SubL.nil | refine SubL.cons rfl ?_), by exact drop_auto⟩
    · repeat (first | (first | refine rt_nil ?_ | (refine isRun ?_; first | refine x1 ?_ | refine x2 ?_ | refine x3 fun _ => ?_ | refine x4 fun _ => ?_ | refine x5 fun _ => ?_ | (refine rt_step rfl rfl rfl ?_; first | refine st_buildSlice rfl (zr rfl) rfl rfl rfl rfl rfl rfl fun _ => ?_ | refine st_A rfl rfl (fun _ => rfl) rfl fun _ => ?_) | refine x8 ?_ | refine rt_skip rfl rfl rfl ?_ | refine rt_skip0 rfl rfl ?_)) | (first | refine sq_n ?_ | refine sq_r ?_ | refine sq_e ?_ | refine bk_n ?_ | refine bk_r ?_ | refine bk_e rfl ?_ | refine bk_x rfl ?_ | refine ct_seq ?_ | refine ct_region rfl ?_ | refine ct_skip ?_ | refine ct_label ?_ | refine ct_block ?_ | refine ct_exit ?_ | refine ct_ret ?_ | refine ct_scope ?_ | refine ct_true rfl ?_ | refine ct_false rfl ?_ | refine lt_step ?_))
      exact re_1 rfl rfl (List.Sublist.refl _) (hQ _)
end
end Go.Proofs.Ytdaigoiekkofoaa.Abs
