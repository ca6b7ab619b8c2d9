/- The contract of the statement SpfCut. -/
import Derived.Test.YtdaigoiekkofoaaMk
import Derived.Test.YtdaigoiekkofoaaMp
namespace Go.Proofs.Ytdaigoiekkofoaa.Abs
open Go
set_option linter.unusedVariables false
theorem onP_iff {L : List Ln} {U : List Bool} {d g : List Int} {k t : Nat} {x : Ln} (hx : L[k]? = some x) : onP L U d g k t ↔ U[k]? = some true ∧ 0 ≤ d.getD t (-1) ∧ 0 ≤ d.getD x.a.toNat (-1) ∧ (d.getD x.a.toNat (-1) + x.c + g.getD x.b.toNat (-1) = d.getD t (-1) ∨ d.getD x.b.toNat (-1) + x.c + g.getD x.a.toNat (-1) = d.getD t (-1)) :=
  ⟨fun ⟨y, h1, h2⟩ => by rw [hx] at h1; cases h1; exact h2, fun h => ⟨x, hx, h⟩⟩
theorem DistAt.ex (R : Nat → Nat → Nat → Prop) (s n : Nat) : ∃ x, DistAt R s n x := by
  by_cases h : ∃ l, Wk R s n l
  · have key : ∀ k l, l ≤ k → Wk R s n l → ∃ m : Nat, Wk R s n m ∧ ∀ l', Wk R s n l' → m ≤ l' := by
      intro k
      induction k with
      | zero => intro l hl hw; exact ⟨l, hw, fun l' _ => by omega⟩
      | succ k ih =>
        intro l hl hw
        by_cases g : ∃ l', Wk R s n l' ∧ l' < l
        · obtain ⟨l', h1, h2⟩ := g
          exact ih l' (by omega) h1
        · exact ⟨l, hw, fun l' h' => by
            by_cases c : l ≤ l'
            · exact c
            · exact absurd ⟨l', h', by omega⟩ g⟩
    obtain ⟨l, hl⟩ := h
    obtain ⟨m, h1, h2⟩ := key l l (Nat.le_refl l) hl
    exact ⟨m, .inr ⟨m, rfl, h1, h2⟩⟩
  · exact ⟨-1, .inl ⟨rfl, fun l hl => h ⟨l, hl⟩⟩⟩
theorem IsDist.ex (R : Nat → Nat → Nat → Prop) (N s : Nat) : ∃ d, IsDist R N s d := by
  induction N with
  | zero => exact ⟨[], rfl, fun n hn => absurd hn (by omega)⟩
  | succ N ih =>
    obtain ⟨d, h1, h2⟩ := ih
    obtain ⟨x, hx⟩ := DistAt.ex R s N
    refine ⟨d ++ [x], by simp [h1], fun n hn => ?_⟩
    by_cases e : n < N
    · rw [List.getD_eq_getElem?_getD, List.getElem?_append_left (by omega), ← List.getD_eq_getElem?_getD]
      exact h2 n e
    · obtain rfl : n = N := by omega
      rw [List.getD_eq_getElem?_getD, List.getElem?_append_right (by omega), h1, Nat.sub_self]
      exact hx
section
variable {B0 : Nat} {old : Nat → Option (List Value)} {n : Nat} {H : Hp} {Q : Value → Hp → Prop}
set_option maxRecDepth 10000
set_option maxHeartbeats 8000000
theorem cut_ct (N : Int) (ad ad2 : Option Addr) (c c2 : Nat) (L : List Ln) (U : List Bool) (h1 : Arr (cx B0 old) H ad 3 encLn L) (h2 : ArrW (cx B0 old) H ad2 1 encBo U) (k0 k1 k2 : Int) (hk0 : -9223372036854775808 ≤ k0 ∧ k0 ≤ 9223372036854775807) (hk1 : -9223372036854775808 ≤ k1 ∧ k1 ≤ 9223372036854775807) (hk2 : -9223372036854775808 ≤ k2 ∧ k2 ≤ 9223372036854775807) (hQ : ∀ H', Q (.bool true) H') :
    CallT (cx B0 old) (acall (cx B0 old) ansP (n + 31001 + 6)) 10 [.agg ⟨[.int .i64 N, .slice ad L.length c, .slice ad2 U.length c2]⟩, .int .i64 k0, .int .i64 k1, .int .i64 k2] H Q := by
  refine call_in4 220 rfl Try.func10 rfl rfl ?_
  repeat (first | (first | refine rt_nil ?_ | (refine isRun ?_; first | refine x1 ?_ | refine x2 ?_ | refine x3 fun _ => ?_ | refine x4 fun _ => ?_ | refine x5 fun _ => ?_ | (refine rt_step rfl rfl rfl ?_; first | refine st_buildSlice rfl (zr rfl) rfl rfl rfl rfl rfl rfl fun _ => ?_ | refine st_A rfl rfl (fun _ => rfl) rfl fun _ => ?_) | refine x8 ?_ | refine rt_skip rfl rfl rfl ?_ | refine rt_skip0 rfl rfl ?_)) | (first | refine sq_n ?_ | refine sq_r ?_ | refine sq_e ?_ | refine bk_n ?_ | refine bk_r ?_ | refine bk_e rfl ?_ | refine bk_x rfl ?_ | refine ct_seq ?_ | refine ct_region rfl ?_ | refine ct_skip ?_ | refine ct_label ?_ | refine ct_block ?_ | refine ct_exit ?_ | refine ct_ret ?_ | refine ct_scope ?_ | refine ct_true rfl ?_ | refine ct_false rfl ?_ | refine lt_step ?_))
  refine rt_step rfl rfl rfl (st_call rfl rfl rfl rfl (known_ct ?_))
  repeat (first | (first | refine rt_nil ?_ | (refine isRun ?_; first | refine x1 ?_ | refine x2 ?_ | refine x3 fun _ => ?_ | refine x4 fun _ => ?_ | refine x5 fun _ => ?_ | (refine rt_step rfl rfl rfl ?_; first | refine st_buildSlice rfl (zr rfl) rfl rfl rfl rfl rfl rfl fun _ => ?_ | refine st_A rfl rfl (fun _ => rfl) rfl fun _ => ?_) | refine x8 ?_ | refine rt_skip rfl rfl rfl ?_ | refine rt_skip0 rfl rfl ?_)) | (first | refine sq_n ?_ | refine sq_r ?_ | refine sq_e ?_ | refine bk_n ?_ | refine bk_r ?_ | refine bk_e rfl ?_ | refine bk_x rfl ?_ | refine ct_seq ?_ | refine ct_region rfl ?_ | refine ct_skip ?_ | refine ct_label ?_ | refine ct_block ?_ | refine ct_exit ?_ | refine ct_ret ?_ | refine ct_scope ?_ | refine ct_true rfl ?_ | refine ct_false rfl ?_ | refine lt_step ?_))
  refine rt_step rfl rfl rfl (st_call rfl rfl rfl rfl (valid_ct N ad ad2 c c2 L U (h1.weak (by exact drop_auto)) (fun hl hok => ?_) (fun hno => ?_)))
  rotate_left
  · repeat (first | (first | refine rt_nil ?_ | (refine isRun ?_; first | refine x1 ?_ | refine x2 ?_ | refine x3 fun _ => ?_ | refine x4 fun _ => ?_ | refine x5 fun _ => ?_ | (refine rt_step rfl rfl rfl ?_; first | refine st_buildSlice rfl (zr rfl) rfl rfl rfl rfl rfl rfl fun _ => ?_ | refine st_A rfl rfl (fun _ => rfl) rfl fun _ => ?_) | refine x8 ?_ | refine rt_skip rfl rfl rfl ?_ | refine rt_skip0 rfl rfl ?_)) | (first | refine sq_n ?_ | refine sq_r ?_ | refine sq_e ?_ | refine bk_n ?_ | refine bk_r ?_ | refine bk_e rfl ?_ | refine bk_x rfl ?_ | refine ct_seq ?_ | refine ct_region rfl ?_ | refine ct_skip ?_ | refine ct_label ?_ | refine ct_block ?_ | refine ct_exit ?_ | refine ct_ret ?_ | refine ct_scope ?_ | refine ct_true rfl ?_ | refine ct_false rfl ?_ | refine lt_step ?_))
    exact re_1 rfl rfl (List.Sublist.refl _) (hQ _)
  obtain ⟨M, rfl⟩ := Int.eq_ofNat_of_zero_le (show 0 ≤ N by have := hok.1; omega)
  have hM : M ≤ 32 := by have := hok.2.1; omega
  have hM1 : 1 ≤ M := by have := hok.1; omega
  have hUl := hok.2.2.2.1
  repeat' (first | (first | refine rt_nil ?_ | (refine isRun ?_; first | refine x1 ?_ | refine x2 ?_ | refine x3 fun _ => ?_ | refine x4 fun _ => ?_ | refine x5 fun _ => ?_ | (refine rt_step rfl rfl rfl ?_; first | refine st_buildSlice rfl (zr rfl) rfl rfl rfl rfl rfl rfl fun _ => ?_ | refine st_A rfl rfl (fun _ => rfl) rfl fun _ => ?_) | refine x8 ?_ | refine rt_skip rfl rfl rfl ?_ | refine rt_skip0 rfl rfl ?_)) | (first | refine sq_n ?_ | refine sq_r ?_ | refine sq_e ?_ | refine bk_n ?_ | refine bk_r ?_ | refine bk_e rfl ?_ | refine bk_x rfl ?_ | refine ct_seq ?_ | refine ct_region rfl ?_ | refine ct_skip ?_ | refine ct_label ?_ | refine ct_block ?_ | refine ct_exit ?_ | refine ct_ret ?_ | refine ct_scope ?_ | refine ct_true rfl ?_ | refine ct_false rfl ?_ | refine lt_step ?_) | (first | refine pl_nil ?_ | (refine isPlan ?_; first | refine y1 ?_ | refine y2 ?_ | refine pl_skip rfl rfl rfl rfl rfl ?_ | refine pl_skip0 rfl rfl rfl rfl ?_)) | (refine isPlan ?_; refine y3 ?_) | (first | (refine isRun ?_; refine z1 (fun hc => ?_) (fun hc => ?_)) | refine z2 (fun hc => ?_) (fun hc => ?_) | (refine isPlan ?_; refine z3 (fun hc => ?_) (fun hc => ?_))))
  · exact re_1 rfl rfl (List.Sublist.refl _) (hQ _)
  refine ct_draw (masks := [0, 0, 2, 6, 15, 0, 0, 64, 255, 0, 0, 1024, 4095, 8191, 16383, 32767]) (plan := [0, 1, 2, 3, 5, 6, 7, 9, 10, 11, 4, 8, 12, 13, 14, 15]) (E := []) (by kernel_rfl) (by kernel_rfl) (by kernel_rfl) (by kernel_rfl) ?_
  repeat (first | refine pl_nil ?_ | (refine isPlan ?_; first | refine y1 ?_ | refine y2 ?_ | refine pl_skip rfl rfl rfl rfl rfl ?_ | refine pl_skip0 rfl rfl rfl rfl ?_))
  refine pl_S rfl rfl rfl rfl rfl rfl (st_call rfl rfl rfl rfl (pick_ct k0 L.length (by omega) (by omega) hk0 fun q hq => ⟨by exact rec_auto, ?_⟩))
  have hq : q < L.length := by omega
  repeat (first | refine pl_nil ?_ | (refine isPlan ?_; first | refine y1 ?_ | refine y2 ?_ | refine pl_skip rfl rfl rfl rfl rfl ?_ | refine pl_skip0 rfl rfl rfl rfl ?_))
  refine pl_S rfl rfl rfl rfl rfl rfl (st_call rfl rfl rfl rfl (pick_ct k1 M (by omega) (by omega) hk1 fun s hs => ⟨by exact rec_auto, ?_⟩))
  have hs : s < M := by omega
  repeat (first | refine pl_nil ?_ | (refine isPlan ?_; first | refine y1 ?_ | refine y2 ?_ | refine pl_skip rfl rfl rfl rfl rfl ?_ | refine pl_skip0 rfl rfl rfl rfl ?_))
  refine pl_S rfl rfl rfl rfl rfl rfl (st_call rfl rfl rfl rfl (pick_ct k2 M (by omega) (by omega) hk2 fun t ht => ⟨by exact rec_auto, ?_⟩))
  have ht : t < M := by omega
  repeat (first | refine pl_nil ?_ | (refine isPlan ?_; first | refine y1 ?_ | refine y2 ?_ | refine pl_skip rfl rfl rfl rfl rfl ?_ | refine pl_skip0 rfl rfl rfl rfl ?_))
  repeat (first | (first | refine rt_nil ?_ | (refine isRun ?_; first | refine x1 ?_ | refine x2 ?_ | refine x3 fun _ => ?_ | refine x4 fun _ => ?_ | refine x5 fun _ => ?_ | (refine rt_step rfl rfl rfl ?_; first | refine st_buildSlice rfl (zr rfl) rfl rfl rfl rfl rfl rfl fun _ => ?_ | refine st_A rfl rfl (fun _ => rfl) rfl fun _ => ?_) | refine x8 ?_ | refine rt_skip rfl rfl rfl ?_ | refine rt_skip0 rfl rfl ?_)) | (first | refine sq_n ?_ | refine sq_r ?_ | refine sq_e ?_ | refine bk_n ?_ | refine bk_r ?_ | refine bk_e rfl ?_ | refine bk_x rfl ?_ | refine ct_seq ?_ | refine ct_region rfl ?_ | refine ct_skip ?_ | refine ct_label ?_ | refine ct_block ?_ | refine ct_exit ?_ | refine ct_ret ?_ | refine ct_scope ?_ | refine ct_true rfl ?_ | refine ct_false rfl ?_ | refine lt_step ?_))
  rename_i b4 _ _ _
  have hN : NetV (cx B0 old) ((b4, .row [.int .i64 M, .slice ad L.length c, .slice ad2 U.length c2] 3 false) :: H) (.agg ⟨[.int .i64 M, .slice ad L.length c, .slice ad2 U.length c2]⟩) M L U := ⟨_, _, _, _, rfl, h1.weak (by exact drop_auto), (h2.arr encBo_len).weak (by exact drop_auto)⟩
  refine ct_draw (masks := [0, 1, 0, 4, 0, 16, 48, 127, 0, 511]) (plan := [0, 1, 2, 3, 4, 5, 6, 7, 8, 9]) (E := [8]) (by kernel_rfl) (by kernel_rfl) (by kernel_rfl) (by kernel_rfl) ?_
  repeat (first | refine pl_nil ?_ | (refine isPlan ?_; first | refine y1 ?_ | refine y2 ?_ | refine pl_skip rfl rfl rfl rfl rfl ?_ | refine pl_skip0 rfl rfl rfl rfl ?_))
  refine pl_S' (late_has 8 rfl (made_alloc rfl rfl (zr rfl))) rfl rfl rfl rfl rfl rfl (st_call rfl rfl rfl rfl (own14_ct (h2.weak (by exact drop_auto)) (by omega) fun v Hv hv => ⟨by exact rec_auto, ?_⟩))
  obtain ⟨u, hu⟩ : ∃ u, U[q]? = some u := ⟨_, List.getElem?_eq_getElem (by omega)⟩
  obtain ⟨Hy, hy, by1, cy, rfl, hst⟩ := hv.set (C := cx B0 old) (t := 4) (f := 0) (a' := false) (u := .bool false) encBo_len hu (sz rfl) rfl rfl
  repeat (first | refine pl_nil ?_ | (refine isPlan ?_; first | refine y1 ?_ | refine y2 ?_ | refine pl_skip rfl rfl rfl rfl rfl ?_ | refine pl_skip0 rfl rfl rfl rfl ?_))
  refine pl_S' (late_has 8 rfl (made_alloc rfl rfl (zr rfl))) rfl rfl rfl rfl rfl rfl (st_alloc (zr rfl) fun b5 => ⟨by exact rec_auto, ?_⟩)
  repeat (first | refine pl_nil ?_ | (refine isPlan ?_; first | refine y1 ?_ | refine y2 ?_ | refine pl_skip rfl rfl rfl rfl rfl ?_ | refine pl_skip0 rfl rfl rfl rfl ?_))
  apply pl_st' (late_no rfl) rfl rfl rfl rfl rfl rfl rfl rfl
  case hp => repeat (first | exact sV (sz rfl) rfl rfl | exact sW (sz rfl) rfl rfl rfl | exact sF (sz rfl) rfl rfl rfl | exact sG (sz rfl) rfl rfl | exact sM (f := vV) (sz rfl) rfl rfl (by omega) | exact sM (sz rfl) rfl rfl (by omega) | apply sS | apply sA)
  case hr => exact rec_auto
  repeat (first | refine pl_nil ?_ | (refine isPlan ?_; first | refine y1 ?_ | refine y2 ?_ | refine pl_skip rfl rfl rfl rfl rfl ?_ | refine pl_skip0 rfl rfl rfl rfl ?_))
  repeat (first | (first | refine rt_nil ?_ | (refine isRun ?_; first | refine x1 ?_ | refine x2 ?_ | refine x3 fun _ => ?_ | refine x4 fun _ => ?_ | refine x5 fun _ => ?_ | (refine rt_step rfl rfl rfl ?_; first | refine st_buildSlice rfl (zr rfl) rfl rfl rfl rfl rfl rfl fun _ => ?_ | refine st_A rfl rfl (fun _ => rfl) rfl fun _ => ?_) | refine x8 ?_ | refine rt_skip rfl rfl rfl ?_ | refine rt_skip0 rfl rfl ?_)) | (first | refine sq_n ?_ | refine sq_r ?_ | refine sq_e ?_ | refine bk_n ?_ | refine bk_r ?_ | refine bk_e rfl ?_ | refine bk_x rfl ?_ | refine ct_seq ?_ | refine ct_region rfl ?_ | refine ct_skip ?_ | refine ct_label ?_ | refine ct_block ?_ | refine ct_exit ?_ | refine ct_ret ?_ | refine ct_scope ?_ | refine ct_true rfl ?_ | refine ct_false rfl ?_ | refine lt_step ?_))
  refine rt_st rfl rfl rfl rfl rfl (hst [(b5, _)] ((b4, .row [.int .i64 M, .slice ad L.length c, .slice ad2 U.length c2] 3 false) :: H)) ?_
  repeat (first | (first | refine rt_nil ?_ | (refine isRun ?_; first | refine x1 ?_ | refine x2 ?_ | refine x3 fun _ => ?_ | refine x4 fun _ => ?_ | refine x5 fun _ => ?_ | (refine rt_step rfl rfl rfl ?_; first | refine st_buildSlice rfl (zr rfl) rfl rfl rfl rfl rfl rfl fun _ => ?_ | refine st_A rfl rfl (fun _ => rfl) rfl fun _ => ?_) | refine x8 ?_ | refine rt_skip rfl rfl rfl ?_ | refine rt_skip0 rfl rfl ?_)) | (first | refine sq_n ?_ | refine sq_r ?_ | refine sq_e ?_ | refine bk_n ?_ | refine bk_r ?_ | refine bk_e rfl ?_ | refine bk_x rfl ?_ | refine ct_seq ?_ | refine ct_region rfl ?_ | refine ct_skip ?_ | refine ct_label ?_ | refine ct_block ?_ | refine ct_exit ?_ | refine ct_ret ?_ | refine ct_scope ?_ | refine ct_true rfl ?_ | refine ct_false rfl ?_ | refine lt_step ?_))
  refine CodeT.weak (l' := [(10, .pointer (some ⟨b5, 0, none⟩)), (4, .pointer (some ⟨b4, 0, none⟩)), (1, .int .i64 (q : Int)), (2, .int .i64 (s : Int)), (3, .int .i64 (t : Int)), (9, .bool true)]) ?_ (by repeat (first | exact SubL.nil | refine SubL.cons rfl ?_)) (List.Sublist.refl _)
  have hNy : NetV (cx B0 old) ((b5, .row [.int .i64 M, .slice ad L.length c, .slice (some ⟨by1, 0, none⟩) U.length cy] 3 false) :: (Hy ++ ((b4, .row [.int .i64 M, .slice ad L.length c, .slice ad2 U.length c2] 3 false) :: H))) (.agg ⟨[.int .i64 M, .slice ad L.length c, .slice (some ⟨by1, 0, none⟩) U.length cy]⟩) M L (U.set q false) := by
    obtain ⟨a9, c9, e9, hw9⟩ := hy.arrW (C := cx B0 old) encBo_len
    obtain ⟨g9, _, rfl⟩ := Value.slice.inj e9
    cases g9
    exact ⟨_, _, _, _, by rw [List.length_set], h1.weak (by exact drop_auto), (hw9 [_] _).arr encBo_len⟩
  clear hst hy hv
  have hq2 : q < U.length := by omega
  have hok' : netOk M L (U.set q false) := cut_ok hok
  repeat (first | (first | refine rt_nil ?_ | (refine isRun ?_; first | refine x1 ?_ | refine x2 ?_ | refine x3 fun _ => ?_ | refine x4 fun _ => ?_ | refine x5 fun _ => ?_ | (refine rt_step rfl rfl rfl ?_; first | refine st_buildSlice rfl (zr rfl) rfl rfl rfl rfl rfl rfl fun _ => ?_ | refine st_A rfl rfl (fun _ => rfl) rfl fun _ => ?_) | refine x8 ?_ | refine rt_skip rfl rfl rfl ?_ | refine rt_skip0 rfl rfl ?_)) | (first | refine sq_n ?_ | refine sq_r ?_ | refine sq_e ?_ | refine bk_n ?_ | refine bk_r ?_ | refine bk_e rfl ?_ | refine bk_x rfl ?_ | refine ct_seq ?_ | refine ct_region rfl ?_ | refine ct_skip ?_ | refine ct_label ?_ | refine ct_block ?_ | refine ct_exit ?_ | refine ct_ret ?_ | refine ct_scope ?_ | refine ct_true rfl ?_ | refine ct_false rfl ?_ | refine lt_step ?_))
  refine ct_draw (masks := [0, 0, 3, 0, 0, 31, 0, 0, 255, 511, 1023, 2047]) (plan := [0, 1, 3, 4, 6, 7, 2, 5, 8, 9, 10, 11]) (E := []) (by kernel_rfl) (by kernel_rfl) (by kernel_rfl) (by kernel_rfl) ?_
  repeat (first | refine pl_nil ?_ | (refine isPlan ?_; first | refine y1 ?_ | refine y2 ?_ | refine pl_skip rfl rfl rfl rfl rfl ?_ | refine pl_skip0 rfl rfl rfl rfl ?_))
  refine pl_S rfl rfl rfl rfl rfl rfl (st_call rfl rfl rfl rfl (ndist (N := (M : Int)) (k := (s : Int)) (hN.weak (by exact drop_auto)) hl fun w1 G1 r1 => ⟨by exact rec_auto, ?_⟩))
  repeat (first | refine pl_nil ?_ | (refine isPlan ?_; first | refine y1 ?_ | refine y2 ?_ | refine pl_skip rfl rfl rfl rfl rfl ?_ | refine pl_skip0 rfl rfl rfl rfl ?_))
  refine pl_S rfl rfl rfl rfl rfl rfl (st_call rfl rfl rfl rfl (ndist (N := (M : Int)) (k := (s : Int)) (hNy.weak (by exact drop_auto)) hl fun w2 G2 r2 => ⟨by exact rec_auto, ?_⟩))
  repeat (first | refine pl_nil ?_ | (refine isPlan ?_; first | refine y1 ?_ | refine y2 ?_ | refine pl_skip rfl rfl rfl rfl rfl ?_ | refine pl_skip0 rfl rfl rfl rfl ?_))
  refine pl_S rfl rfl rfl rfl rfl rfl (st_call rfl rfl rfl rfl (ndist (N := (M : Int)) (k := (t : Int)) (hN.weak (by exact drop_auto)) hl fun w3 G3 r3 => ⟨by exact rec_auto, ?_⟩))
  obtain ⟨d, bd, od, cd, hd, hdl, rfl, hD⟩ := res_dist r1 hok hs
  obtain ⟨e, be, oe, ce, he, hel, rfl, hE⟩ := res_dist r2 hok' hs
  obtain ⟨g, bg, og, cg, hg, hgl, rfl, hG⟩ := res_dist r3 hok ht
  clear r1 r2 r3
  repeat (first | refine pl_nil ?_ | (refine isPlan ?_; first | refine y1 ?_ | refine y2 ?_ | refine pl_skip rfl rfl rfl rfl rfl ?_ | refine pl_skip0 rfl rfl rfl rfl ?_))
  repeat (first | (first | refine rt_nil ?_ | (refine isRun ?_; first | refine x1 ?_ | refine x2 ?_ | refine x3 fun _ => ?_ | refine x4 fun _ => ?_ | refine x5 fun _ => ?_ | (refine rt_step rfl rfl rfl ?_; first | refine st_buildSlice rfl (zr rfl) rfl rfl rfl rfl rfl rfl fun _ => ?_ | refine st_A rfl rfl (fun _ => rfl) rfl fun _ => ?_) | refine x8 ?_ | refine rt_skip rfl rfl rfl ?_ | refine rt_skip0 rfl rfl ?_)) | (first | refine sq_n ?_ | refine sq_r ?_ | refine sq_e ?_ | refine bk_n ?_ | refine bk_r ?_ | refine bk_e rfl ?_ | refine bk_x rfl ?_ | refine ct_seq ?_ | refine ct_region rfl ?_ | refine ct_skip ?_ | refine ct_label ?_ | refine ct_block ?_ | refine ct_exit ?_ | refine ct_ret ?_ | refine ct_scope ?_ | refine ct_true rfl ?_ | refine ct_false rfl ?_ | refine lt_step ?_))
  have hD' := fun (H' : Hp) (j : Nat) hj hs' => hD H' j hj ((List.sublist_append_right G2 _).trans ((List.sublist_append_right G3 _).trans hs'))
  have hE' := fun (H' : Hp) (j : Nat) hj hs' => hE H' j hj ((List.sublist_append_right G3 _).trans hs')
  clear hD hE
  have hNx := hN.weak (H' := G3 ++ (G2 ++ (G1 ++ ((b5, .row [.int .i64 M, .slice ad L.length c, .slice (some ⟨by1, 0, none⟩) U.length cy] 3 false) :: (Hy ++ ((b4, .row [.int .i64 M, .slice ad L.length c, .slice ad2 U.length c2] 3 false) :: H)))))) (by exact drop_auto)
  have hNy' := hNy.weak (H' := G3 ++ (G2 ++ (G1 ++ ((b5, .row [.int .i64 M, .slice ad L.length c, .slice (some ⟨by1, 0, none⟩) U.length cy] 3 false) :: (Hy ++ ((b4, .row [.int .i64 M, .slice ad L.length c, .slice ad2 U.length c2] 3 false) :: H)))))) (by exact drop_auto)
  repeat' (first | (first | refine rt_nil ?_ | (refine isRun ?_; first | refine x1 ?_ | refine x2 ?_ | refine x3 fun _ => ?_ | refine x4 fun _ => ?_ | refine x5 fun _ => ?_ | (refine rt_step rfl rfl rfl ?_; first | refine st_buildSlice rfl (zr rfl) rfl rfl rfl rfl rfl rfl fun _ => ?_ | refine st_A rfl rfl (fun _ => rfl) rfl fun _ => ?_) | refine x8 ?_ | refine rt_skip rfl rfl rfl ?_ | refine rt_skip0 rfl rfl ?_)) | (first | refine sq_n ?_ | refine sq_r ?_ | refine sq_e ?_ | refine bk_n ?_ | refine bk_r ?_ | refine bk_e rfl ?_ | refine bk_x rfl ?_ | refine ct_seq ?_ | refine ct_region rfl ?_ | refine ct_skip ?_ | refine ct_label ?_ | refine ct_block ?_ | refine ct_exit ?_ | refine ct_ret ?_ | refine ct_scope ?_ | refine ct_true rfl ?_ | refine ct_false rfl ?_ | refine lt_step ?_) | (first | refine pl_nil ?_ | (refine isPlan ?_; first | refine y1 ?_ | refine y2 ?_ | refine pl_skip rfl rfl rfl rfl rfl ?_ | refine pl_skip0 rfl rfl rfl rfl ?_)) | (refine isPlan ?_; refine y3 ?_) | (first | (refine isRun ?_; refine z1 (fun hc => ?_) (fun hc => ?_)) | refine z2 (fun hc => ?_) (fun hc => ?_) | (refine isPlan ?_; refine z3 (fun hc => ?_) (fun hc => ?_))))
  all_goals try (exfalso; omega)
  refine loop_ind (ι := Nat) 0 (fun i => M - i) (fun i => i ≤ M)
    (fun i => [(14, .int .i64 (i : Int)), (11, .slice (some ⟨bd, od, none⟩) M cd), (12, .slice (some ⟨be, oe, none⟩) M ce), (13, .slice (some ⟨bg, og, none⟩) M cg), (10, .pointer (some ⟨b5, 0, none⟩)), (4, .pointer (some ⟨b4, 0, none⟩)), (1, .int .i64 (q : Int)), (2, .int .i64 (s : Int)), (3, .int .i64 (t : Int)), (9, .bool true)])
    (fun _ => G3 ++ (G2 ++ (G1 ++ ((b5, .row [.int .i64 M, .slice ad L.length c, .slice (some ⟨by1, 0, none⟩) U.length cy] 3 false) :: (Hy ++ ((b4, .row [.int .i64 M, .slice ad L.length c, .slice ad2 U.length c2] 3 false) :: H))))))
    (Nat.zero_le _) (by repeat (first | exact SubL.nil | refine SubL.cons rfl ?_)) (by exact drop_auto) ?_
  intro m hm
  repeat (first | (first | refine rt_nil ?_ | (refine isRun ?_; first | refine x1 ?_ | refine x2 ?_ | refine x3 fun _ => ?_ | refine x4 fun _ => ?_ | refine x5 fun _ => ?_ | (refine rt_step rfl rfl rfl ?_; first | refine st_buildSlice rfl (zr rfl) rfl rfl rfl rfl rfl rfl fun _ => ?_ | refine st_A rfl rfl (fun _ => rfl) rfl fun _ => ?_) | refine x8 ?_ | refine rt_skip rfl rfl rfl ?_ | refine rt_skip0 rfl rfl ?_)) | (first | refine sq_n ?_ | refine sq_r ?_ | refine sq_e ?_ | refine bk_n ?_ | refine bk_r ?_ | refine bk_e rfl ?_ | refine bk_x rfl ?_ | refine ct_seq ?_ | refine ct_region rfl ?_ | refine ct_skip ?_ | refine ct_label ?_ | refine ct_block ?_ | refine ct_exit ?_ | refine ct_ret ?_ | refine ct_scope ?_ | refine ct_true rfl ?_ | refine ct_false rfl ?_ | refine lt_step ?_))
  refine ct_condT te_d rfl (fun hc => ?_) (fun hc => ?_)
  · have hm2 : m < M := by omega
    have hL0 := fun H' hs' => hD' H' m hm2 hs'
    have hL1 := fun H' hs' => hE' H' m hm2 hs'
    have hcg := cut_ge hq2 hd he hm2
    repeat' (first | (first | refine rt_nil ?_ | (refine isRun ?_; first | refine x1 ?_ | refine x2 ?_ | refine x3 fun _ => ?_ | refine x4 fun _ => ?_ | refine x5 fun _ => ?_ | (refine rt_step rfl rfl rfl ?_; first | refine st_buildSlice rfl (zr rfl) rfl rfl rfl rfl rfl rfl fun _ => ?_ | refine st_A rfl rfl (fun _ => rfl) rfl fun _ => ?_) | refine x8 ?_ | refine rt_skip rfl rfl rfl ?_ | refine rt_skip0 rfl rfl ?_)) | (first | refine sq_n ?_ | refine sq_r ?_ | refine sq_e ?_ | refine bk_n ?_ | refine bk_r ?_ | refine bk_e rfl ?_ | refine bk_x rfl ?_ | refine ct_seq ?_ | refine ct_region rfl ?_ | refine ct_skip ?_ | refine ct_label ?_ | refine ct_block ?_ | refine ct_exit ?_ | refine ct_ret ?_ | refine ct_scope ?_ | refine ct_true rfl ?_ | refine ct_false rfl ?_ | refine lt_step ?_) | (first | refine pl_nil ?_ | (refine isPlan ?_; first | refine y1 ?_ | refine y2 ?_ | refine pl_skip rfl rfl rfl rfl rfl ?_ | refine pl_skip0 rfl rfl rfl rfl ?_)) | (refine isPlan ?_; refine y3 ?_) | (first | (refine isRun ?_; refine z1 (fun hc => ?_) (fun hc => ?_)) | refine z2 (fun hc => ?_) (fun hc => ?_) | (refine isPlan ?_; refine z3 (fun hc => ?_) (fun hc => ?_))) | (first | refine ct_draw (id := 4) (masks := [0, 0, 2, 6, 15, 0, 0, 64, 255, 0, 0, 1024, 4095, 8191, 16383, 32767]) (plan := [0, 1, 2, 3, 5, 6, 7, 9, 10, 11, 4, 8, 12, 13, 14, 15]) (E := []) (by kernel_rfl) (by kernel_rfl) (by kernel_rfl) (by kernel_rfl) ?_ | refine ct_draw (id := 5) (masks := [0, 1, 0, 4, 0, 16, 48, 127, 0, 511]) (plan := [0, 1, 2, 3, 4, 5, 6, 7, 8, 9]) (E := [8]) (by kernel_rfl) (by kernel_rfl) (by kernel_rfl) (by kernel_rfl) ?_ | refine ct_draw (id := 7) (masks := [0, 0, 3, 0, 0, 31, 0, 0, 255, 511, 1023, 2047]) (plan := [0, 1, 3, 4, 6, 7, 2, 5, 8, 9, 10, 11]) (E := []) (by kernel_rfl) (by kernel_rfl) (by kernel_rfl) (by kernel_rfl) ?_ | refine ct_draw (id := 13) (masks := [0, 0, 3, 7, 15, 31, 63, 63, 255, 511, 1023, 2047, 4095, 8191, 8191, 32767, 65535, 131071, 262143, 524287, 524287, 2097151, 4194303, 524287, 524287, 25690111, 59244543, 134217727, 268435455, 536870911]) (plan := [0, 1, 2, 3, 4, 5, 6, 7, 8, 9, 10, 11, 12, 13, 14, 15, 16, 17, 18, 19, 20, 21, 22, 23, 24, 25, 26, 27, 28, 29]) (E := []) (by kernel_rfl) (by kernel_rfl) (by kernel_rfl) (by kernel_rfl) ?_ | refine ct_draw (id := 16) (masks := [0, 1, 0, 7, 15, 31, 63, 63, 255, 511, 1023, 2047, 4095, 8191, 8191, 24575, 65535, 131071, 262143, 524287, 1048575, 2097151, 2097151, 6291455, 16777215, 33554431, 2097151, 69206015, 268435455, 2097151, 2097151, 1075838975, 3760193535, 8055160831, 17179869183, 2097151, 2097151, 103081312255, 240520265727, 549755813887, 1099511627775, 2199023255551, 2199023255551, 6597069766655, 17592186044415, 35184372088831, 2199023255551, 72567767433215, 281474976710655, 2199023255551, 2199023255551, 1128098930098175, 3942848697204735, 8446448324575231, 18014398509481983, 2199023255551, 2199023255551, 108088590080147455, 252203778156003327, 576460752303423487, 1152921504606846975, 2305843009213693951, 4611686018427387903]) (plan := [0, 1, 2, 3, 4, 5, 6, 7, 8, 9, 10, 11, 12, 13, 14, 15, 16, 17, 18, 19, 20, 21, 22, 23, 24, 25, 26, 27, 28, 29, 30, 31, 32, 33, 34, 35, 36, 37, 38, 39, 40, 41, 42, 43, 44, 45, 46, 47, 48, 49, 50, 51, 52, 53, 54, 55, 56, 57, 58, 59, 60, 61, 62]) (E := []) (by kernel_rfl) (by kernel_rfl) (by kernel_rfl) (by kernel_rfl) ?_ | refine ct_draw (id := 19) (masks := [0, 1, 3, 3, 15, 31, 3, 3, 195, 451, 1023, 2047, 4095, 8191, 8191, 8191, 65535, 8191, 8191, 8191, 1048575, 2097151, 4194303, 8388607, 16777215, 16777215, 16777215, 134217727, 16777215, 16777215, 16777215, 2147483647, 4294967295, 8589934591, 17179869183]) (plan := [0, 1, 2, 3, 4, 5, 6, 7, 8, 9, 10, 11, 12, 13, 14, 15, 17, 18, 19, 16, 20, 21, 22, 23, 24, 25, 26, 28, 29, 30, 27, 31, 32, 33, 34]) (E := []) (by kernel_rfl) (by kernel_rfl) (by kernel_rfl) (by kernel_rfl) ?_))
    all_goals first
      | (exfalso; omega)
      | exact ⟨m + 1, by omega, by omega, by repeat (first | exact SubL.nil | refine SubL.cons rfl ?_), by exact drop_auto⟩
  obtain ⟨x, hx⟩ : ∃ x, L[q]? = some x := ⟨_, List.getElem?_eq_getElem hq⟩
  obtain ⟨bx, ox, ead, hL0⟩ := h1.ldW 27 hx rfl (sz rfl)
  subst ead
  repeat (first | (first | refine rt_nil ?_ | (refine isRun ?_; first | refine x1 ?_ | refine x2 ?_ | refine x3 fun _ => ?_ | refine x4 fun _ => ?_ | refine x5 fun _ => ?_ | (refine rt_step rfl rfl rfl ?_; first | refine st_buildSlice rfl (zr rfl) rfl rfl rfl rfl rfl rfl fun _ => ?_ | refine st_A rfl rfl (fun _ => rfl) rfl fun _ => ?_) | refine x8 ?_ | refine rt_skip rfl rfl rfl ?_ | refine rt_skip0 rfl rfl ?_)) | (first | refine sq_n ?_ | refine sq_r ?_ | refine sq_e ?_ | refine bk_n ?_ | refine bk_r ?_ | refine bk_e rfl ?_ | refine bk_x rfl ?_ | refine ct_seq ?_ | refine ct_region rfl ?_ | refine ct_skip ?_ | refine ct_label ?_ | refine ct_block ?_ | refine ct_exit ?_ | refine ct_ret ?_ | refine ct_scope ?_ | refine ct_true rfl ?_ | refine ct_false rfl ?_ | refine lt_step ?_))
  rename_i bl
  have hgd := hok.2.2.2.2 x (List.mem_of_getElem? hx)
  unfold goodL at hgd
  obtain ⟨g1, g2, g3, g4, g5, g6, _⟩ := hgd
  have ha : x.a.toNat < M := by omega
  have hb : x.b.toNat < M := by omega
  have hbd := fun n => hd.bound (fun u v c hr => hr.all hok) hM n
  have hbg := fun n => hg.bound (fun u v c hr => hr.all hok) hM n
  have hld := fun n => hd.low (n := n)
  have hlg := fun n => hg.low (n := n)
  have q1 := hbd x.a.toNat
  have q2 := hbd x.b.toNat
  have q3 := hbg x.a.toNat
  have q4 := hbg x.b.toNat
  have q5 := hld x.b.toNat
  have q6 := hlg x.a.toNat
  have q7 := hlg x.b.toNat
  clear hL0 hbd hbg hld hlg
  have hL0 := fun H' hs' => hD' H' t ht hs'
  have hL1 := fun H' hs' => hD' H' x.a.toNat ha hs'
  have hL2 := fun H' hs' => hD' H' x.b.toNat hb hs'
  have hL3 := fun H' hs' => hG H' x.a.toNat ha hs'
  have hL4 := fun H' hs' => hG H' x.b.toNat hb hs'
  obtain ⟨bu, ou, rfl, hL5⟩ := (h2.arr encBo_len).ld1 4 hu rfl rfl (sz rfl)
  refine CodeT.weak (l' := [(15, .pointer (some ⟨bl, 0, none⟩)), (11, .slice (some ⟨bd, od, none⟩) M cd), (12, .slice (some ⟨be, oe, none⟩) M ce), (13, .slice (some ⟨bg, og, none⟩) M cg), (10, .pointer (some ⟨b5, 0, none⟩)), (4, .pointer (some ⟨b4, 0, none⟩)), (1, .int .i64 (q : Int)), (2, .int .i64 (s : Int)), (3, .int .i64 (t : Int)), (9, .bool true)]) ?_ (by repeat (first | exact SubL.nil | refine SubL.cons rfl ?_)) (List.Sublist.refl _)
  refine ct_draw (masks := [0, 1, 0, 7, 15, 31, 63, 63, 255, 511, 1023, 2047, 4095, 8191, 8191, 24575, 65535, 131071, 262143, 524287, 1048575, 2097151, 2097151, 6291455, 16777215, 33554431, 2097151, 69206015, 268435455, 2097151, 2097151, 1075838975, 3760193535, 8055160831, 17179869183, 2097151, 2097151, 103081312255, 240520265727, 549755813887, 1099511627775, 2199023255551, 2199023255551, 6597069766655, 17592186044415, 35184372088831, 2199023255551, 72567767433215, 281474976710655, 2199023255551, 2199023255551, 1128098930098175, 3942848697204735, 8446448324575231, 18014398509481983, 2199023255551, 2199023255551, 108088590080147455, 252203778156003327, 576460752303423487, 1152921504606846975, 2305843009213693951, 4611686018427387903]) (plan := [0, 1, 2, 3, 4, 5, 6, 7, 8, 9, 10, 11, 12, 13, 14, 15, 16, 17, 18, 19, 20, 21, 22, 23, 24, 25, 26, 27, 28, 29, 30, 31, 32, 33, 34, 35, 36, 37, 38, 39, 40, 41, 42, 43, 44, 45, 46, 47, 48, 49, 50, 51, 52, 53, 54, 55, 56, 57, 58, 59, 60, 61, 62]) (E := []) (by kernel_rfl) (by kernel_rfl) (by kernel_rfl) (by kernel_rfl) ?_
  refine pl_midE (ι := Bool) (fun b => b = false → ¬ onP L U d g q t) (fun b => [(16, .bool b), (11, .slice (some ⟨bd, od, none⟩) M cd), (12, .slice (some ⟨be, oe, none⟩) M ce), (13, .slice (some ⟨bg, og, none⟩) M cg), (10, .pointer (some ⟨b5, 0, none⟩)), (4, .pointer (some ⟨b4, 0, none⟩)), (1, .int .i64 (q : Int)), (2, .int .i64 (s : Int)), (3, .int .i64 (t : Int)), (9, .bool true)])
    (fun _ => (G3 ++ (G2 ++ (G1 ++ ((b5, .row [.int .i64 M, .slice (some ⟨bx, ox, none⟩) L.length c, .slice (some ⟨by1, 0, none⟩) U.length cy] 3 false) :: (Hy ++ ((b4, .row [.int .i64 M, .slice (some ⟨bx, ox, none⟩) L.length c, .slice (some ⟨bu, ou, none⟩) U.length c2] 3 false) :: H))))))) ?_ ?_
  · repeat' (first | (first | refine rt_nil ?_ | (refine isRun ?_; first | refine x1 ?_ | refine x2 ?_ | refine x3 fun _ => ?_ | refine x4 fun _ => ?_ | refine x5 fun _ => ?_ | (refine rt_step rfl rfl rfl ?_; first | refine st_buildSlice rfl (zr rfl) rfl rfl rfl rfl rfl rfl fun _ => ?_ | refine st_A rfl rfl (fun _ => rfl) rfl fun _ => ?_) | refine x8 ?_ | refine rt_skip rfl rfl rfl ?_ | refine rt_skip0 rfl rfl ?_)) | (first | refine sq_n ?_ | refine sq_r ?_ | refine sq_e ?_ | refine bk_n ?_ | refine bk_r ?_ | refine bk_e rfl ?_ | refine bk_x rfl ?_ | refine ct_seq ?_ | refine ct_region rfl ?_ | refine ct_skip ?_ | refine ct_label ?_ | refine ct_block ?_ | refine ct_exit ?_ | refine ct_ret ?_ | refine ct_scope ?_ | refine ct_true rfl ?_ | refine ct_false rfl ?_ | refine lt_step ?_) | (first | refine pl_nil ?_ | (refine isPlan ?_; first | refine y1 ?_ | refine y2 ?_ | refine pl_skip rfl rfl rfl rfl rfl ?_ | refine pl_skip0 rfl rfl rfl rfl ?_)) | (refine isPlan ?_; refine y3 ?_) | (first | (refine isRun ?_; refine z1 (fun hc => ?_) (fun hc => ?_)) | refine z2 (fun hc => ?_) (fun hc => ?_) | (refine isPlan ?_; refine z3 (fun hc => ?_) (fun hc => ?_))))
    all_goals
      refine ⟨_, fun h => ?_, by repeat (first | exact SubL.nil | refine SubL.cons rfl ?_), by exact drop_auto⟩
      rw [onP_iff hx, hu]
      rintro ⟨r1, r2, r3, r4⟩
      first
        | (cases h; done)
        | omega
        | (exfalso; have h' := beq_eq_false_iff_ne.1 h; omega)
        | (cases r1; cases hc)
  intro b hP
  clear hL0 hL1 hL2 hL3 hL4 hL5
  repeat (first | (first | refine rt_nil ?_ | (refine isRun ?_; first | refine x1 ?_ | refine x2 ?_ | refine x3 fun _ => ?_ | refine x4 fun _ => ?_ | refine x5 fun _ => ?_ | (refine rt_step rfl rfl rfl ?_; first | refine st_buildSlice rfl (zr rfl) rfl rfl rfl rfl rfl rfl fun _ => ?_ | refine st_A rfl rfl (fun _ => rfl) rfl fun _ => ?_) | refine x8 ?_ | refine rt_skip rfl rfl rfl ?_ | refine rt_skip0 rfl rfl ?_)) | (first | refine sq_n ?_ | refine sq_r ?_ | refine sq_e ?_ | refine bk_n ?_ | refine bk_r ?_ | refine bk_e rfl ?_ | refine bk_x rfl ?_ | refine ct_seq ?_ | refine ct_region rfl ?_ | refine ct_skip ?_ | refine ct_label ?_ | refine ct_block ?_ | refine ct_exit ?_ | refine ct_ret ?_ | refine ct_scope ?_ | refine ct_true rfl ?_ | refine ct_false rfl ?_ | refine lt_step ?_))
  cases b with
  | true =>
    repeat (first | (first | refine rt_nil ?_ | (refine isRun ?_; first | refine x1 ?_ | refine x2 ?_ | refine x3 fun _ => ?_ | refine x4 fun _ => ?_ | refine x5 fun _ => ?_ | (refine rt_step rfl rfl rfl ?_; first | refine st_buildSlice rfl (zr rfl) rfl rfl rfl rfl rfl rfl fun _ => ?_ | refine st_A rfl rfl (fun _ => rfl) rfl fun _ => ?_) | refine x8 ?_ | refine rt_skip rfl rfl rfl ?_ | refine rt_skip0 rfl rfl ?_)) | (first | refine sq_n ?_ | refine sq_r ?_ | refine sq_e ?_ | refine bk_n ?_ | refine bk_r ?_ | refine bk_e rfl ?_ | refine bk_x rfl ?_ | refine ct_seq ?_ | refine ct_region rfl ?_ | refine ct_skip ?_ | refine ct_label ?_ | refine ct_block ?_ | refine ct_exit ?_ | refine ct_ret ?_ | refine ct_scope ?_ | refine ct_true rfl ?_ | refine ct_false rfl ?_ | refine lt_step ?_))
    exact re_1 rfl rfl (List.Sublist.refl _) (hQ _)
  | false =>
    have hno := hP rfl
    obtain ⟨g', hg'⟩ := IsDist.ex (Rn L (U.set q false)) M t
    obtain ⟨e1, hsm⟩ := cut_law hok hs ht hq2 hd he hg hg' hno
    have hL0 := fun H' hs' => hD' H' t ht hs'
    have hL1 := fun H' hs' => hE' H' t ht hs'
    rw [← e1] at hL1
    have hS1 : ∀ l, NextS M s t L U l → l = nxL L U g s L.length := fun l h => by
      obtain ⟨d2, e2, e3⟩ := h.1 ⟨hok, by omega, by omega, by omega, by omega⟩
      simp only [Int.toNat_natCast] at e2 e3
      rw [e3, e2.uniq hg]
    have hS2 : ∀ l, NextS M s t L (U.set q false) l → l = nxL L U g s L.length := fun l h => by
      obtain ⟨d2, e2, e3⟩ := h.1 ⟨hok', by omega, by omega, by omega, by omega⟩
      simp only [Int.toNat_natCast] at e2 e3
      rw [e3, e2.uniq hg', hsm.next]
    have hC1 : ∀ y, CntS M s t L U y → y = npaths L U g t s := fun y h => by
      obtain ⟨d2, e2, e3⟩ := h.1 ⟨hok, by omega, by omega, by omega, by omega⟩
      simp only [Int.toNat_natCast] at e2 e3
      rw [e3, e2.uniq hg]
    have hC2 : ∀ y, CntS M s t L (U.set q false) y → y = npaths L U g t s := fun y h => by
      obtain ⟨d2, e2, e3⟩ := h.1 ⟨hok', by omega, by omega, by omega, by omega⟩
      simp only [Int.toNat_natCast] at e2 e3
      rw [e3, e2.uniq hg', hsm.paths]
    have hsz := nxL_size (L := L) (U := U) (d := g) s
    repeat (first | (first | refine rt_nil ?_ | (refine isRun ?_; first | refine x1 ?_ | refine x2 ?_ | refine x3 fun _ => ?_ | refine x4 fun _ => ?_ | refine x5 fun _ => ?_ | (refine rt_step rfl rfl rfl ?_; first | refine st_buildSlice rfl (zr rfl) rfl rfl rfl rfl rfl rfl fun _ => ?_ | refine st_A rfl rfl (fun _ => rfl) rfl fun _ => ?_) | refine x8 ?_ | refine rt_skip rfl rfl rfl ?_ | refine rt_skip0 rfl rfl ?_)) | (first | refine sq_n ?_ | refine sq_r ?_ | refine sq_e ?_ | refine bk_n ?_ | refine bk_r ?_ | refine bk_e rfl ?_ | refine bk_x rfl ?_ | refine ct_seq ?_ | refine ct_region rfl ?_ | refine ct_skip ?_ | refine ct_label ?_ | refine ct_block ?_ | refine ct_exit ?_ | refine ct_ret ?_ | refine ct_scope ?_ | refine ct_true rfl ?_ | refine ct_false rfl ?_ | refine lt_step ?_))
    refine ct_draw (masks := [0, 1, 3, 3, 15, 31, 3, 3, 195, 451, 1023, 2047, 4095, 8191, 8191, 8191, 65535, 8191, 8191, 8191, 1048575, 2097151, 4194303, 8388607, 16777215, 16777215, 16777215, 134217727, 16777215, 16777215, 16777215, 2147483647, 4294967295, 8589934591, 17179869183]) (plan := [0, 1, 2, 3, 4, 5, 6, 7, 8, 9, 10, 11, 12, 13, 14, 15, 17, 18, 19, 16, 20, 21, 22, 23, 24, 25, 26, 28, 29, 30, 27, 31, 32, 33, 34]) (E := []) (by kernel_rfl) (by kernel_rfl) (by kernel_rfl) (by kernel_rfl) ?_
    repeat (first | refine pl_nil ?_ | (refine isPlan ?_; first | refine y1 ?_ | refine y2 ?_ | refine pl_skip rfl rfl rfl rfl rfl ?_ | refine pl_skip0 rfl rfl rfl rfl ?_))
    refine isPlan ?_
    refine z3 (fun hc => ?_) (fun hc => absurd rfl hc)
    repeat (first | refine pl_nil ?_ | (refine isPlan ?_; first | refine y1 ?_ | refine y2 ?_ | refine pl_skip rfl rfl rfl rfl rfl ?_ | refine pl_skip0 rfl rfl rfl rfl ?_))
    refine pl_S rfl rfl rfl rfl rfl rfl (st_call rfl rfl rfl rfl (nnext (N := (M : Int)) (k := (s : Int)) (k2 := (t : Int)) (hNx.weak (by exact drop_auto)) hl fun w4 G4 r4 => ⟨by exact rec_auto, ?_⟩))
    repeat (first | refine pl_nil ?_ | (refine isPlan ?_; first | refine y1 ?_ | refine y2 ?_ | refine pl_skip rfl rfl rfl rfl rfl ?_ | refine pl_skip0 rfl rfl rfl rfl ?_))
    refine pl_S rfl rfl rfl rfl rfl rfl (st_call rfl rfl rfl rfl (nnext (N := (M : Int)) (k := (s : Int)) (k2 := (t : Int)) (hNy'.weak (by exact drop_auto)) hl fun w5 G5 r5 => ⟨by exact rec_auto, ?_⟩))
    repeat (first | refine pl_nil ?_ | (refine isPlan ?_; first | refine y1 ?_ | refine y2 ?_ | refine pl_skip rfl rfl rfl rfl rfl ?_ | refine pl_skip0 rfl rfl rfl rfl ?_))
    refine pl_S rfl rfl rfl rfl rfl rfl (st_call rfl rfl rfl rfl (same15_ct (S := fun l => l = nxL L U g s L.length) (fun _ _ h h' => h.trans h'.symm) (fun l h => by rw [h]; omega) ((r4.imp hS1).weak (by exact drop_auto)) (r5.imp hS2) ⟨by exact rec_auto, ?_⟩))
    repeat (first | refine pl_nil ?_ | (refine isPlan ?_; first | refine y1 ?_ | refine y2 ?_ | refine pl_skip rfl rfl rfl rfl rfl ?_ | refine pl_skip0 rfl rfl rfl rfl ?_))
    refine pl_S rfl rfl rfl rfl rfl rfl (st_call rfl rfl rfl rfl (npathsA (by omega) (N := (M : Int)) (k := (s : Int)) (k2 := (t : Int)) (hNx.weak (by exact drop_auto)) hl fun ya qa => ⟨by exact rec_auto, ?_⟩))
    repeat (first | refine pl_nil ?_ | (refine isPlan ?_; first | refine y1 ?_ | refine y2 ?_ | refine pl_skip rfl rfl rfl rfl rfl ?_ | refine pl_skip0 rfl rfl rfl rfl ?_))
    refine pl_S rfl rfl rfl rfl rfl rfl (st_call rfl rfl rfl rfl (npathsA (by omega) (N := (M : Int)) (k := (s : Int)) (k2 := (t : Int)) (hNy'.weak (by exact drop_auto)) hl fun yb qb => ⟨by exact rec_auto, ?_⟩))
    obtain rfl := (hC1 ya qa).trans (hC2 yb qb).symm
    repeat (first | refine pl_nil ?_ | (refine isPlan ?_; first | refine y1 ?_ | refine y2 ?_ | refine pl_skip rfl rfl rfl rfl rfl ?_ | refine pl_skip0 rfl rfl rfl rfl ?_))
    repeat (first | (first | refine rt_nil ?_ | (refine isRun ?_; first | refine x1 ?_ | refine x2 ?_ | refine x3 fun _ => ?_ | refine x4 fun _ => ?_ | refine x5 fun _ => ?_ | (refine rt_step rfl rfl rfl ?_; first | refine st_buildSlice rfl (zr rfl) rfl rfl rfl rfl rfl rfl fun _ => ?_ | refine st_A rfl rfl (fun _ => rfl) rfl fun _ => ?_) | refine x8 ?_ | refine rt_skip rfl rfl rfl ?_ | refine rt_skip0 rfl rfl ?_)) | (first | refine sq_n ?_ | refine sq_r ?_ | refine sq_e ?_ | refine bk_n ?_ | refine bk_r ?_ | refine bk_e rfl ?_ | refine bk_x rfl ?_ | refine ct_seq ?_ | refine ct_region rfl ?_ | refine ct_skip ?_ | refine ct_label ?_ | refine ct_block ?_ | refine ct_exit ?_ | refine ct_ret ?_ | refine ct_scope ?_ | refine ct_true rfl ?_ | refine ct_false rfl ?_ | refine lt_step ?_))
    first | rw [beq_self_eq_true ya] | rw [beq_self_eq_true yb]
    exact re_1 rfl rfl (List.Sublist.refl _) (hQ _)
end
end Go.Proofs.Ytdaigoiekkofoaa.Abs
