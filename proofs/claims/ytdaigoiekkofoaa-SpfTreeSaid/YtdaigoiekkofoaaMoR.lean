/- The contract of the statement SpfTree. -/
import Derived.Test.YtdaigoiekkofoaaMk
import Derived.Test.YtdaigoiekkofoaaMp
namespace Go.Proofs.Ytdaigoiekkofoaa.Abs
open Go
set_option linter.unusedVariables false
theorem res_par {B0 : Nat} {old : Nat → Option (List Value)} {M s : Nat} {L : List Ln} {U : List Bool} {d : List Int} {w : Value} {Hx : Hp} (hw : Res (cx B0 old) (ParS M s L U) w Hx) (hok : netOk M L U) (hs : s < M) (hd : IsDist (Rn L U) M s d) :
    ∃ bd od cd, w = .slice (some ⟨bd, od, none⟩) M cd ∧ ∀ (H' : Hp) (j : Nat), j < M → Hx.Sublist H' → LdT (cx B0 old) 3 H' bd (od + j * 1) (.int .i64 (par L U d j)) := by
  obtain ⟨l, add, cd, hl, rfl, had⟩ := hw
  obtain ⟨d', hd', rfl⟩ := hl.1 ⟨hok, by omega, by omega⟩
  simp only [Int.toNat_natCast] at hd' had ⊢
  obtain rfl := hd'.uniq hd
  have hdl := pars_length L U d' M
  have hx : ∀ j, j < M → (pars L U d' M)[j]? = some (par L U d' j) := fun j hj => by
    unfold pars
    rw [List.getElem?_map, List.getElem?_range hj]; rfl
  obtain ⟨bd, od, rfl, _⟩ := had.ld1 3 (hx 0 (by omega)) rfl rfl (sz rfl)
  refine ⟨bd, od, cd, by rw [hdl], fun H' j hj hs' => ?_⟩
  obtain ⟨b', o', e, hL⟩ := had.ld1 3 (hx j hj) rfl rfl (sz rfl)
  cases e
  exact hL H' hs'
theorem PathTo.pos {N s t : Nat} {L : List Ln} {U : List Bool} {d p : List Int} (h : PathTo L U d t p) (hd : IsDist (Rn L U) N s d) (hok : netOk N L U) (hs : s < N) (ht : t < N) : (0 < p.length ↔ 0 < d.getD t (-1)) ∧ (¬ 0 < d.getD t (-1) → p = [] ∧ par L U d t = -1) := by
  have hneg : ¬ 0 < d.getD t (-1) → p = [] ∧ par L U d t = -1 := fun h0 => by
    have hn := nxL_nil (n := t) hok (show d.getD t (-1) < 1 by omega)
    rcases par_cases L U d t with ⟨_, g⟩ | ⟨r, g, _⟩
    · refine ⟨?_, g⟩
      cases h with
      | stop _ => rfl
      | step h' _ => omega
    · rw [hn] at g; cases g
  refine ⟨⟨fun hp => ?_, fun h0 => ?_⟩, hneg⟩
  · by_cases h0 : 0 < d.getD t (-1)
    · exact h0
    · rw [(hneg h0).1] at hp; exact absurd hp (by simp)
  · cases h with
    | step _ _ => simp
    | stop g =>
      exfalso
      have hne : t ≠ s := fun e => by subst e; have := hd.src hs; omega
      have := hd.next hok hs ht hne (by omega)
      rcases par_cases L U d t with ⟨g1, _⟩ | ⟨r, g1, g2⟩
      · exact this g1
      · obtain ⟨_, _, _, g3, _⟩ := nxL_oth hok g2
        omega
section
variable {B0 : Nat} {old : Nat → Option (List Value)} {n : Nat} {H : Hp} {Q : Value → Hp → Prop}
set_option maxRecDepth 10000
set_option maxHeartbeats 8000000
theorem tree_ct (N : Int) (ad ad2 : Option Addr) (c c2 : Nat) (L : List Ln) (U : List Bool) (h1 : Arr (cx B0 old) H ad 3 encLn L) (h2 : Arr (cx B0 old) H ad2 1 encBo U) (k1 k2 : Int) (hk1 : -9223372036854775808 ≤ k1 ∧ k1 ≤ 9223372036854775807) (hk2 : -9223372036854775808 ≤ k2 ∧ k2 ≤ 9223372036854775807) (hQ : ∀ H', Q (.bool true) H') :
    CallT (cx B0 old) (acall (cx B0 old) ansP (n + 31001 + 6)) 11 [.agg ⟨[.int .i64 N, .slice ad L.length c, .slice ad2 U.length c2]⟩, .int .i64 k1, .int .i64 k2] H Q := by
  refine call_in3 216 rfl Try.func11 rfl rfl ?_
  repeat (first | (first | refine rt_nil ?_ | (refine isRun ?_; first | refine x1 ?_ | refine x2 ?_ | refine x3 fun _ => ?_ | refine x4 fun _ => ?_ | refine x5 fun _ => ?_ | (refine rt_step rfl rfl rfl ?_; first | refine st_buildSlice rfl (zr rfl) rfl rfl rfl rfl rfl rfl fun _ => ?_ | refine st_A rfl rfl (fun _ => rfl) rfl fun _ => ?_) | refine x8 ?_ | refine rt_skip rfl rfl rfl ?_ | refine rt_skip0 rfl rfl ?_)) | (first | refine sq_n ?_ | refine sq_r ?_ | refine sq_e ?_ | refine bk_n ?_ | refine bk_r ?_ | refine bk_e rfl ?_ | refine bk_x rfl ?_ | refine ct_seq ?_ | refine ct_region rfl ?_ | refine ct_skip ?_ | refine ct_label ?_ | refine ct_block ?_ | refine ct_exit ?_ | refine ct_ret ?_ | refine ct_scope ?_ | refine ct_true rfl ?_ | refine ct_false rfl ?_ | refine lt_step ?_))
  refine rt_step rfl rfl rfl (st_call rfl rfl rfl rfl (known_ct ?_))
  repeat (first | (first | refine rt_nil ?_ | (refine isRun ?_; first | refine x1 ?_ | refine x2 ?_ | refine x3 fun _ => ?_ | refine x4 fun _ => ?_ | refine x5 fun _ => ?_ | (refine rt_step rfl rfl rfl ?_; first | refine st_buildSlice rfl (zr rfl) rfl rfl rfl rfl rfl rfl fun _ => ?_ | refine st_A rfl rfl (fun _ => rfl) rfl fun _ => ?_) | refine x8 ?_ | refine rt_skip rfl rfl rfl ?_ | refine rt_skip0 rfl rfl ?_)) | (first | refine sq_n ?_ | refine sq_r ?_ | refine sq_e ?_ | refine bk_n ?_ | refine bk_r ?_ | refine bk_e rfl ?_ | refine bk_x rfl ?_ | refine ct_seq ?_ | refine ct_region rfl ?_ | refine ct_skip ?_ | refine ct_label ?_ | refine ct_block ?_ | refine ct_exit ?_ | refine ct_ret ?_ | refine ct_scope ?_ | refine ct_true rfl ?_ | refine ct_false rfl ?_ | refine lt_step ?_))
  refine rt_step rfl rfl rfl (st_call rfl rfl rfl rfl (valid_ct N ad ad2 c c2 L U (h1.weak (by exact drop_auto)) (fun hl hok => ?_) (fun hno => ?_)))
  rotate_left
  · repeat (first | (first | refine rt_nil ?_ | (refine isRun ?_; first | refine x1 ?_ | refine x2 ?_ | refine x3 fun _ => ?_ | refine x4 fun _ => ?_ | refine x5 fun _ => ?_ | (refine rt_step rfl rfl rfl ?_; first | refine st_buildSlice rfl (zr rfl) rfl rfl rfl rfl rfl rfl fun _ => ?_ | refine st_A rfl rfl (fun _ => rfl) rfl fun _ => ?_) | refine x8 ?_ | refine rt_skip rfl rfl rfl ?_ | refine rt_skip0 rfl rfl ?_)) | (first | refine sq_n ?_ | refine sq_r ?_ | refine sq_e ?_ | refine bk_n ?_ | refine bk_r ?_ | refine bk_e rfl ?_ | refine bk_x rfl ?_ | refine ct_seq ?_ | refine ct_region rfl ?_ | refine ct_skip ?_ | refine ct_label ?_ | refine ct_block ?_ | refine ct_exit ?_ | refine ct_ret ?_ | refine ct_scope ?_ | refine ct_true rfl ?_ | refine ct_false rfl ?_ | refine lt_step ?_))
    exact re_1 rfl rfl (List.Sublist.refl _) (hQ _)
  obtain ⟨M, rfl⟩ := Int.eq_ofNat_of_zero_le (show 0 ≤ N by have := hok.1; omega)
  have hM : M ≤ 32 := by have := hok.2.1; omega
  have hM1 : 1 ≤ M := by have := hok.1; omega
  have hUl := hok.2.2.2.1
  repeat (first | (first | refine rt_nil ?_ | (refine isRun ?_; first | refine x1 ?_ | refine x2 ?_ | refine x3 fun _ => ?_ | refine x4 fun _ => ?_ | refine x5 fun _ => ?_ | (refine rt_step rfl rfl rfl ?_; first | refine st_buildSlice rfl (zr rfl) rfl rfl rfl rfl rfl rfl fun _ => ?_ | refine st_A rfl rfl (fun _ => rfl) rfl fun _ => ?_) | refine x8 ?_ | refine rt_skip rfl rfl rfl ?_ | refine rt_skip0 rfl rfl ?_)) | (first | refine sq_n ?_ | refine sq_r ?_ | refine sq_e ?_ | refine bk_n ?_ | refine bk_r ?_ | refine bk_e rfl ?_ | refine bk_x rfl ?_ | refine ct_seq ?_ | refine ct_region rfl ?_ | refine ct_skip ?_ | refine ct_label ?_ | refine ct_block ?_ | refine ct_exit ?_ | refine ct_ret ?_ | refine ct_scope ?_ | refine ct_true rfl ?_ | refine ct_false rfl ?_ | refine lt_step ?_))
  refine ct_draw (masks := [0, 0, 2, 7, 0, 0, 32, 127, 255, 511]) (plan := [0, 1, 2, 4, 5, 6, 3, 7, 8, 9]) (E := []) (by kernel_rfl) (by kernel_rfl) (by kernel_rfl) (by kernel_rfl) ?_
  repeat (first | refine pl_nil ?_ | (refine isPlan ?_; first | refine y1 ?_ | refine y2 ?_ | refine pl_skip rfl rfl rfl rfl rfl ?_ | refine pl_skip0 rfl rfl rfl rfl ?_))
  refine pl_S rfl rfl rfl rfl rfl rfl (st_call rfl rfl rfl rfl (pick_ct k1 M (by omega) (by omega) hk1 fun s hs => ⟨by exact rec_auto, ?_⟩))
  have hs : s < M := by omega
  repeat (first | refine pl_nil ?_ | (refine isPlan ?_; first | refine y1 ?_ | refine y2 ?_ | refine pl_skip rfl rfl rfl rfl rfl ?_ | refine pl_skip0 rfl rfl rfl rfl ?_))
  refine pl_S rfl rfl rfl rfl rfl rfl (st_call rfl rfl rfl rfl (pick_ct k2 M (by omega) (by omega) hk2 fun t ht => ⟨by exact rec_auto, ?_⟩))
  have ht : t < M := by omega
  repeat (first | refine pl_nil ?_ | (refine isPlan ?_; first | refine y1 ?_ | refine y2 ?_ | refine pl_skip rfl rfl rfl rfl rfl ?_ | refine pl_skip0 rfl rfl rfl rfl ?_))
  repeat (first | (first | refine rt_nil ?_ | (refine isRun ?_; first | refine x1 ?_ | refine x2 ?_ | refine x3 fun _ => ?_ | refine x4 fun _ => ?_ | refine x5 fun _ => ?_ | (refine rt_step rfl rfl rfl ?_; first | refine st_buildSlice rfl (zr rfl) rfl rfl rfl rfl rfl rfl fun _ => ?_ | refine st_A rfl rfl (fun _ => rfl) rfl fun _ => ?_) | refine x8 ?_ | refine rt_skip rfl rfl rfl ?_ | refine rt_skip0 rfl rfl ?_)) | (first | refine sq_n ?_ | refine sq_r ?_ | refine sq_e ?_ | refine bk_n ?_ | refine bk_r ?_ | refine bk_e rfl ?_ | refine bk_x rfl ?_ | refine ct_seq ?_ | refine ct_region rfl ?_ | refine ct_skip ?_ | refine ct_label ?_ | refine ct_block ?_ | refine ct_exit ?_ | refine ct_ret ?_ | refine ct_scope ?_ | refine ct_true rfl ?_ | refine ct_false rfl ?_ | refine lt_step ?_))
  rename_i b4 _ _
  have hN : NetV (cx B0 old) ((b4, .row [.int .i64 M, .slice ad L.length c, .slice ad2 U.length c2] 3 false) :: H) (.agg ⟨[.int .i64 M, .slice ad L.length c, .slice ad2 U.length c2]⟩) M L U := ⟨_, _, _, _, rfl, h1.weak (by exact drop_auto), h2.weak (by exact drop_auto)⟩
  refine ct_draw (masks := [0, 0, 3, 0, 0, 0, 63, 0, 0, 511, 1023, 2047, 4095]) (plan := [0, 1, 3, 4, 5, 7, 8, 2, 6, 9, 10, 11, 12]) (E := []) (by kernel_rfl) (by kernel_rfl) (by kernel_rfl) (by kernel_rfl) ?_
  repeat (first | refine pl_nil ?_ | (refine isPlan ?_; first | refine y1 ?_ | refine y2 ?_ | refine pl_skip rfl rfl rfl rfl rfl ?_ | refine pl_skip0 rfl rfl rfl rfl ?_))
  refine pl_S rfl rfl rfl rfl rfl rfl (st_call rfl rfl rfl rfl (ndist (N := (M : Int)) (k := (s : Int)) (hN.weak (by exact drop_auto)) hl fun w1 G1 r1 => ⟨by exact rec_auto, ?_⟩))
  repeat (first | refine pl_nil ?_ | (refine isPlan ?_; first | refine y1 ?_ | refine y2 ?_ | refine pl_skip rfl rfl rfl rfl rfl ?_ | refine pl_skip0 rfl rfl rfl rfl ?_))
  refine pl_S rfl rfl rfl rfl rfl rfl (st_call rfl rfl rfl rfl (npathO (N := (M : Int)) (k := (s : Int)) (k2 := (t : Int)) (hN.weak (by exact drop_auto)) hl ⟨hok, by omega, by omega, by omega, by omega⟩ fun p w2 G2 r2 ho => ⟨by exact rec_auto, ?_⟩))
  repeat (first | refine pl_nil ?_ | (refine isPlan ?_; first | refine y1 ?_ | refine y2 ?_ | refine pl_skip rfl rfl rfl rfl rfl ?_ | refine pl_skip0 rfl rfl rfl rfl ?_))
  refine pl_S rfl rfl rfl rfl rfl rfl (st_call rfl rfl rfl rfl (nparents (N := (M : Int)) (k := (s : Int)) (hN.weak (by exact drop_auto)) hl fun w3 G3 r3 => ⟨by exact rec_auto, ?_⟩))
  obtain ⟨d, bd, od, cd, hd, hdl, rfl, hD⟩ := res_dist r1 hok hs
  obtain ⟨bp, op, cp, rfl, hP⟩ := res_par r3 hok hs hd
  obtain ⟨d', hd', hp⟩ := r2.1 ⟨hok, by omega, by omega, by omega, by omega⟩
  simp only [Int.toNat_natCast] at hd' hp
  obtain rfl := hd'.uniq hd
  obtain ⟨al, cl, rfl, hw2⟩ := ho.arrW (C := cx B0 old) encI_len
  clear hd' r1 r2 r3
  have hpz := hp.pos hd hok hs ht
  have hbd := hd.bound (fun u v c hr => hr.all hok) hM
  have hlow := fun n => hd.low (n := n)
  have hd0 := hd.src hs
  have hpt := hbd t
  have hplen : (p.length : Int) ≤ 32000 := by
    rcases hp.len hok with h | h
    · rw [h]; decide
    · omega
  have hps : par L U d' s = -1 := by
    rcases par_cases L U d' s with ⟨_, g⟩ | ⟨r, g, _⟩
    · exact g
    · rw [nxL_nil hok (by omega)] at g; cases g
  have hL0 := fun H' hs' => hP H' s hs hs'
  rw [hps] at hL0
  have hL1 := fun H' hs' => hD H' t ht ((List.sublist_append_right G2 _).trans ((List.sublist_append_right G3 _).trans hs'))
  repeat (first | refine pl_nil ?_ | (refine isPlan ?_; first | refine y1 ?_ | refine y2 ?_ | refine pl_skip rfl rfl rfl rfl rfl ?_ | refine pl_skip0 rfl rfl rfl rfl ?_))
  repeat' (first | (first | refine rt_nil ?_ | (refine isRun ?_; first | refine x1 ?_ | refine x2 ?_ | refine x3 fun _ => ?_ | refine x4 fun _ => ?_ | refine x5 fun _ => ?_ | (refine rt_step rfl rfl rfl ?_; first | refine st_buildSlice rfl (zr rfl) rfl rfl rfl rfl rfl rfl fun _ => ?_ | refine st_A rfl rfl (fun _ => rfl) rfl fun _ => ?_) | refine x8 ?_ | refine rt_skip rfl rfl rfl ?_ | refine rt_skip0 rfl rfl ?_)) | (first | refine sq_n ?_ | refine sq_r ?_ | refine sq_e ?_ | refine bk_n ?_ | refine bk_r ?_ | refine bk_e rfl ?_ | refine bk_x rfl ?_ | refine ct_seq ?_ | refine ct_region rfl ?_ | refine ct_skip ?_ | refine ct_label ?_ | refine ct_block ?_ | refine ct_exit ?_ | refine ct_ret ?_ | refine ct_scope ?_ | refine ct_true rfl ?_ | refine ct_false rfl ?_ | refine lt_step ?_) | (first | refine pl_nil ?_ | (refine isPlan ?_; first | refine y1 ?_ | refine y2 ?_ | refine pl_skip rfl rfl rfl rfl rfl ?_ | refine pl_skip0 rfl rfl rfl rfl ?_)) | (refine isPlan ?_; refine y3 ?_) | (first | (refine isRun ?_; refine z1 (fun hc => ?_) (fun hc => ?_)) | refine z2 (fun hc => ?_) (fun hc => ?_) | (refine isPlan ?_; refine z3 (fun hc => ?_) (fun hc => ?_))))
  all_goals try (exfalso; omega)
  clear hL0 hL1 hps
  clear hc
  refine loop_ind (ι := Nat) 0 (fun i => p.length - i) (fun i => i ≤ p.length)
    (fun i => [(13, .int .i64 (i : Int)), (12, .int .i64 (d'.getD (endOf L s (p.take i)) (-1))), (11, .int .i64 ((endOf L s (p.take i) : Nat) : Int)), (8, .slice (some ⟨bd, od, none⟩) M cd), (9, .slice al p.length cl), (10, .slice (some ⟨bp, op, none⟩) M cp), (1, .int .i64 (s : Int)), (2, .int .i64 (t : Int)), (3, .pointer (some ⟨b4, 0, none⟩)), (7, .bool true)])
    (fun _ => G3 ++ (G2 ++ (G1 ++ ((b4, .row [.int .i64 M, .slice ad L.length c, .slice ad2 U.length c2] 3 false) :: H))))
    (Nat.zero_le _) (by
      show SubL [(13, .int .i64 ((0 : Nat) : Int)), (12, .int .i64 (d'.getD s (-1))), (11, .int .i64 (s : Int)), (8, _), (9, _), (10, _), (1, _), (2, _), (3, _), (7, _)] _
      rw [hd0]
      repeat (first | exact SubL.nil | refine SubL.cons rfl ?_)) (by exact drop_auto) ?_
  intro i hi
  repeat (first | (first | refine rt_nil ?_ | (refine isRun ?_; first | refine x1 ?_ | refine x2 ?_ | refine x3 fun _ => ?_ | refine x4 fun _ => ?_ | refine x5 fun _ => ?_ | (refine rt_step rfl rfl rfl ?_; first | refine st_buildSlice rfl (zr rfl) rfl rfl rfl rfl rfl rfl fun _ => ?_ | refine st_A rfl rfl (fun _ => rfl) rfl fun _ => ?_) | refine x8 ?_ | refine rt_skip rfl rfl rfl ?_ | refine rt_skip0 rfl rfl ?_)) | (first | refine sq_n ?_ | refine sq_r ?_ | refine sq_e ?_ | refine bk_n ?_ | refine bk_r ?_ | refine bk_e rfl ?_ | refine bk_x rfl ?_ | refine ct_seq ?_ | refine ct_region rfl ?_ | refine ct_skip ?_ | refine ct_label ?_ | refine ct_block ?_ | refine ct_exit ?_ | refine ct_ret ?_ | refine ct_scope ?_ | refine ct_true rfl ?_ | refine ct_false rfl ?_ | refine lt_step ?_))
  refine ct_condT te_d rfl (fun hc => ?_) (fun hc => ?_)
  · have hi2 : i < p.length := by omega
    obtain ⟨q, hq⟩ : ∃ q, p[i]? = some q := ⟨_, List.getElem?_eq_getElem hi2⟩
    have h0 : 0 < d'.getD t (-1) := hpz.1.1 (by omega)
    have hal := hp.along hd hok hs ht (by omega) (i := i) hi
    generalize hme : endOf L s (p.take i) = m at *
    obtain ⟨x, g1, g2, g3, g4, g5, g6, g7, g8, g9⟩ := hal.step hp hd hok hs ht (by omega) hq
    have he1 : endOf L s (p.take (i + 1)) = oth L q m := g6.ends
    have hgd := hok.2.2.2.2 x (List.mem_of_getElem? g1)
    unfold goodL at hgd
    have hou : (if x.a = m then x.b else x.a) = ((oth L q m : Nat) : Int) := by
      unfold oth
      rw [g1]
      dsimp only
      split <;> omega
    obtain ⟨k1', k2', k3', k4', k5', k6', _⟩ := hgd
    have hml := hal.lt
    have hm0 := hal.ge
    have hm1 := g6.lt
    have hm2 := g6.ge
    have hbm := hbd (oth L q m)
    clear hlow hbd hpz
    have hw3 := ((hw2 G3 (G1 ++ ((b4, .row [.int .i64 M, .slice ad L.length c, .slice ad2 U.length c2] 3 false) :: H))).arr encI_len)
    obtain ⟨bl, ol, eal, hL0⟩ := hw3.ld1 3 hq rfl rfl (sz rfl)
    obtain ⟨bx, ox, ead, hL1⟩ := h1.ldW 27 g1 rfl (sz rfl)
    obtain ⟨bu, ou, eau, hL2⟩ := h2.ld1 4 g2 rfl rfl (sz rfl)
    have hL3 := fun H' hs' => hP H' (oth L q m) hm1 hs'
    rw [g7] at hL3
    have hcut := ho.cuts (C := cx B0 old) (pre := G3) (H0 := G1 ++ ((b4, .row [.int .i64 M, .slice ad L.length c, .slice ad2 U.length c2] 3 false) :: H)) encI_len
    obtain ⟨ass, cs, hsl, hS⟩ := hcut.part 30 3 none (some (.int .i64 ((i : Int) + 1))) 0 (i + 1) rfl (sz rfl) (by omega) (by omega) (.inr ⟨rfl, rfl⟩) (.inl (by simp [natOf]; omega))
    obtain ⟨bx2, ox2, e2, hL4⟩ := h1.ldF 3 0 (v := .int .i64 x.a) g1 rfl rfl rfl (sz rfl)
    obtain ⟨bx3, ox3, e3, hL5⟩ := h1.ldF 3 1 (v := .int .i64 x.b) g1 rfl rfl rfl (sz rfl)
    obtain ⟨bx4, ox4, e4, hLc⟩ := h1.ldF 3 2 (v := .int .i64 x.c) g1 rfl rfl rfl (sz rfl)
    rw [ead] at e2 e3 e4
    cases e2
    cases e3
    cases e4
    subst eal ead eau
    have hsn : p.take (i + 1) = p.take (i + 1) := rfl
    simp only [List.drop_zero, Nat.sub_zero] at hsl hS
    repeat (first | (first | refine rt_nil ?_ | (refine isRun ?_; first | refine x1 ?_ | refine x2 ?_ | refine x3 fun _ => ?_ | refine x4 fun _ => ?_ | refine x5 fun _ => ?_ | (refine rt_step rfl rfl rfl ?_; first | refine st_buildSlice rfl (zr rfl) rfl rfl rfl rfl rfl rfl fun _ => ?_ | refine st_A rfl rfl (fun _ => rfl) rfl fun _ => ?_) | refine x8 ?_ | refine rt_skip rfl rfl rfl ?_ | refine rt_skip0 rfl rfl ?_)) | (first | refine sq_n ?_ | refine sq_r ?_ | refine sq_e ?_ | refine bk_n ?_ | refine bk_r ?_ | refine bk_e rfl ?_ | refine bk_x rfl ?_ | refine ct_seq ?_ | refine ct_region rfl ?_ | refine ct_skip ?_ | refine ct_label ?_ | refine ct_block ?_ | refine ct_exit ?_ | refine ct_ret ?_ | refine ct_scope ?_ | refine ct_true rfl ?_ | refine ct_false rfl ?_ | refine lt_step ?_))
    refine ct_draw (masks := [0, 0, 3, 7, 15, 31, 63, 63, 255, 511, 63, 1087, 3135, 8191, 16383, 32767, 65535, 131071, 65535, 65535, 851967, 1900543, 4194303, 8388607, 16777215, 33554431, 67108863, 134217727, 268435455, 134217727, 134217727, 1744830463, 3892314111, 8589934591, 17179869183, 34359738367, 134217727, 137438953471, 274877906943, 549755813887, 1099511627775, 549755813887, 549755813887, 7146825580543, 15942918602751, 35184372088831, 70368744177663, 140737488355327, 549755813887, 562949953421311, 1125899906842623, 2251799813685247]) (plan := [0, 1, 2, 3, 4, 5, 6, 7, 8, 9, 10, 11, 12, 13, 14, 15, 16, 17, 18, 19, 20, 21, 22, 23, 24, 25, 26, 27, 28, 29, 30, 31, 32, 33, 34, 35, 36, 37, 38, 39, 40, 41, 42, 43, 44, 45, 46, 47, 48, 49, 50, 51]) (E := []) (by kernel_rfl) (by kernel_rfl) (by kernel_rfl) (by kernel_rfl) ?_
    refine pl_mid [(126, .bool false), (13, .int .i64 (i : Int)), (12, .int .i64 (d'.getD m (-1))), (11, .int .i64 (m : Int)), (8, .slice (some ⟨bd, od, none⟩) M cd), (9, .slice (some ⟨bl, ol, none⟩) p.length cl), (10, .slice (some ⟨bp, op, none⟩) M cp), (1, .int .i64 (s : Int)), (2, .int .i64 (t : Int)), (3, .pointer (some ⟨b4, 0, none⟩)), (7, .bool true)]
      (G3 ++ (G2 ++ (G1 ++ ((b4, .row [.int .i64 M, .slice (some ⟨bx, ox, none⟩) L.length c, .slice (some ⟨bu, ou, none⟩) U.length c2] 3 false) :: H)))) ?_ ?_
    · repeat (first | refine pl_nil ?_ | (refine isPlan ?_; first | refine y1 ?_ | refine y2 ?_ | refine pl_skip rfl rfl rfl rfl rfl ?_ | refine pl_skip0 rfl rfl rfl rfl ?_))
      refine isPlan ?_
      refine z3 (fun hc => ?_) (fun hc => ?_)
      · exfalso; omega
      clear hc
      repeat (first | refine pl_nil ?_ | (refine isPlan ?_; first | refine y1 ?_ | refine y2 ?_ | refine pl_skip rfl rfl rfl rfl rfl ?_ | refine pl_skip0 rfl rfl rfl rfl ?_))
      refine isPlan ?_
      refine z3 (fun hc => ?_) (fun hc => ?_)
      · exfalso; omega
      clear hc
      repeat (first | refine pl_nil ?_ | (refine isPlan ?_; first | refine y1 ?_ | refine y2 ?_ | refine pl_skip rfl rfl rfl rfl rfl ?_ | refine pl_skip0 rfl rfl rfl rfl ?_))
      refine isPlan ?_
      refine z3 (fun hc => ?_) (fun hc => ?_)
      · repeat (first | refine pl_nil ?_ | (refine isPlan ?_; first | refine y1 ?_ | refine y2 ?_ | refine pl_skip rfl rfl rfl rfl rfl ?_ | refine pl_skip0 rfl rfl rfl rfl ?_))
        refine ⟨SubL.consB rfl (by simp; omega) (by repeat (first | exact SubL.nil | refine SubL.cons rfl ?_)), by exact drop_auto⟩
      · repeat (first | refine pl_nil ?_ | (refine isPlan ?_; first | refine y1 ?_ | refine y2 ?_ | refine pl_skip rfl rfl rfl rfl rfl ?_ | refine pl_skip0 rfl rfl rfl rfl ?_))
        exact ⟨by repeat (first | exact SubL.nil | refine SubL.cons rfl ?_), by exact drop_auto⟩
    clear hL2
    have hL2 := hLc
    repeat (first | (first | refine rt_nil ?_ | (refine isRun ?_; first | refine x1 ?_ | refine x2 ?_ | refine x3 fun _ => ?_ | refine x4 fun _ => ?_ | refine x5 fun _ => ?_ | (refine rt_step rfl rfl rfl ?_; first | refine st_buildSlice rfl (zr rfl) rfl rfl rfl rfl rfl rfl fun _ => ?_ | refine st_A rfl rfl (fun _ => rfl) rfl fun _ => ?_) | refine x8 ?_ | refine rt_skip rfl rfl rfl ?_ | refine rt_skip0 rfl rfl ?_)) | (first | refine sq_n ?_ | refine sq_r ?_ | refine sq_e ?_ | refine bk_n ?_ | refine bk_r ?_ | refine bk_e rfl ?_ | refine bk_x rfl ?_ | refine ct_seq ?_ | refine ct_region rfl ?_ | refine ct_skip ?_ | refine ct_label ?_ | refine ct_block ?_ | refine ct_exit ?_ | refine ct_ret ?_ | refine ct_scope ?_ | refine ct_true rfl ?_ | refine ct_false rfl ?_ | refine lt_step ?_))
    refine ct_draw (masks := [0, 1, 0, 0, 12, 28, 63, 127, 0, 511, 0, 0, 2048, 0, 0, 24576, 57344, 129024, 260096, 522240, 1047552, 1023, 4194303]) (plan := [0, 1, 2, 3, 4, 5, 6, 7, 8, 10, 11, 12, 13, 14, 15, 16, 17, 18, 19, 20, 9, 21, 22]) (E := []) (by kernel_rfl) (by kernel_rfl) (by kernel_rfl) (by kernel_rfl) ?_
    repeat (first | refine pl_nil ?_ | (refine isPlan ?_; first | refine y1 ?_ | refine y2 ?_ | refine pl_skip rfl rfl rfl rfl rfl ?_ | refine pl_skip0 rfl rfl rfl rfl ?_))
    refine pl_S rfl rfl rfl rfl rfl rfl (st_call rfl rfl rfl rfl (other36_ct x m ⟨by exact rec_auto, ?_⟩))
    rw [hou]
    clear hou
    repeat (first | refine pl_nil ?_ | (refine isPlan ?_; first | refine y1 ?_ | refine y2 ?_ | refine pl_skip rfl rfl rfl rfl rfl ?_ | refine pl_skip0 rfl rfl rfl rfl ?_))
    repeat (first | (first | refine rt_nil ?_ | (refine isRun ?_; first | refine x1 ?_ | refine x2 ?_ | refine x3 fun _ => ?_ | refine x4 fun _ => ?_ | refine x5 fun _ => ?_ | (refine rt_step rfl rfl rfl ?_; first | refine st_buildSlice rfl (zr rfl) rfl rfl rfl rfl rfl rfl fun _ => ?_ | refine st_A rfl rfl (fun _ => rfl) rfl fun _ => ?_) | refine x8 ?_ | refine rt_skip rfl rfl rfl ?_ | refine rt_skip0 rfl rfl ?_)) | (first | refine sq_n ?_ | refine sq_r ?_ | refine sq_e ?_ | refine bk_n ?_ | refine bk_r ?_ | refine bk_e rfl ?_ | refine bk_x rfl ?_ | refine ct_seq ?_ | refine ct_region rfl ?_ | refine ct_skip ?_ | refine ct_label ?_ | refine ct_block ?_ | refine ct_exit ?_ | refine ct_ret ?_ | refine ct_scope ?_ | refine ct_true rfl ?_ | refine ct_false rfl ?_ | refine lt_step ?_))
    refine rt_step rfl rfl rfl (st_call rfl rfl rfl rfl (nnext (N := (M : Int)) (k := ((oth L q m : Nat) : Int)) (k2 := (s : Int)) (hN.weak (by exact drop_auto)) hl fun w4 G4 r4 => ?_))
    obtain ⟨l, adn, cn, hn, rfl, hna⟩ := r4
    have hll : l = nxL L U d' (oth L q m) L.length := by
      obtain ⟨d2, e2, e3⟩ := hn.1 ⟨hok, by omega, by omega, by omega, by omega⟩
      simp only [Int.toNat_natCast] at e2 e3
      rw [e3, e2.uniq hd]
    obtain ⟨r, gr⟩ : ∃ r, nxL L U d' (oth L q m) L.length = q :: r := by
      rcases par_cases L U d' (oth L q m) with ⟨_, gn⟩ | ⟨r, gr, _⟩
      · omega
      · rw [g7] at gr; exact ⟨r, gr⟩
    rw [gr] at hll
    subst hll
    clear hn gr
    obtain ⟨bn, on, en, hLn⟩ := hna.ld1 3 (i := 0) (a := q) rfl rfl rfl (sz rfl)
    subst en
    clear hL1 hL4 hL5
    have hL1 := hLn
    have hS1 : ∀ l, PathS M s ((oth L q m : Nat) : Int) L U l → l = p.take (i + 1) := fun l h => by
      obtain ⟨d2, e2, e3⟩ := h.1 ⟨hok, by omega, by omega, by omega, by omega⟩
      simp only [Int.toNat_natCast] at e2 e3
      have := e2.uniq hd
      subst this
      exact e3.uniq g6.path
    have hq0 : 0 < (q :: r).length := by rw [List.length_cons]; exact Nat.succ_pos _
    have hlt : (p.take (i + 1)).length = i + 1 := by rw [List.length_take]; omega
    repeat (first | (first | refine rt_nil ?_ | (refine isRun ?_; first | refine x1 ?_ | refine x2 ?_ | refine x3 fun _ => ?_ | refine x4 fun _ => ?_ | refine x5 fun _ => ?_ | (refine rt_step rfl rfl rfl ?_; first | refine st_buildSlice rfl (zr rfl) rfl rfl rfl rfl rfl rfl fun _ => ?_ | refine st_A rfl rfl (fun _ => rfl) rfl fun _ => ?_) | refine x8 ?_ | refine rt_skip rfl rfl rfl ?_ | refine rt_skip0 rfl rfl ?_)) | (first | refine sq_n ?_ | refine sq_r ?_ | refine sq_e ?_ | refine bk_n ?_ | refine bk_r ?_ | refine bk_e rfl ?_ | refine bk_x rfl ?_ | refine ct_seq ?_ | refine ct_region rfl ?_ | refine ct_skip ?_ | refine ct_label ?_ | refine ct_block ?_ | refine ct_exit ?_ | refine ct_ret ?_ | refine ct_scope ?_ | refine ct_true rfl ?_ | refine ct_false rfl ?_ | refine lt_step ?_))
    refine ct_draw (masks := [0, 1, 3, 7, 15, 31, 63, 15, 15, 399, 911, 2047, 4095, 8191, 16383, 16383, 65535, 131071, 16383, 16383, 802815, 1851391, 4194303, 8388607, 16777215, 33554431, 33554431, 33554431, 268435455, 33554431, 33554431, 1107296255, 3791650815, 8589934591, 17179869183, 34359738367]) (plan := [0, 1, 2, 3, 4, 5, 6, 7, 8, 9, 10, 11, 12, 13, 14, 15, 16, 17, 18, 19, 20, 21, 22, 23, 24, 25, 26, 27, 29, 30, 31, 32, 28, 33, 34, 35]) (E := []) (by kernel_rfl) (by kernel_rfl) (by kernel_rfl) (by kernel_rfl) ?_
    repeat (first | refine pl_nil ?_ | (refine isPlan ?_; first | refine y1 ?_ | refine y2 ?_ | refine pl_skip rfl rfl rfl rfl rfl ?_ | refine pl_skip0 rfl rfl rfl rfl ?_))
    refine isPlan ?_
    refine z3 (fun hc => absurd rfl hc) (fun hc => ?_)
    clear hc
    repeat (first | refine pl_nil ?_ | (refine isPlan ?_; first | refine y1 ?_ | refine y2 ?_ | refine pl_skip rfl rfl rfl rfl rfl ?_ | refine pl_skip0 rfl rfl rfl rfl ?_))
    refine isPlan ?_
    refine z3 (fun hc => absurd rfl hc) (fun hc => ?_)
    clear hc
    repeat (first | refine pl_nil ?_ | (refine isPlan ?_; first | refine y1 ?_ | refine y2 ?_ | refine pl_skip rfl rfl rfl rfl rfl ?_ | refine pl_skip0 rfl rfl rfl rfl ?_))
    apply pl_p rfl rfl rfl rfl rfl rfl
    case hp => exact p_slc rfl rfl rfl hsl
    repeat (first | refine pl_nil ?_ | (refine isPlan ?_; first | refine y1 ?_ | refine y2 ?_ | refine pl_skip rfl rfl rfl rfl rfl ?_ | refine pl_skip0 rfl rfl rfl rfl ?_))
    refine pl_S rfl rfl rfl rfl rfl rfl (st_call rfl rfl rfl rfl (npath (N := (M : Int)) (k := (s : Int)) (k2 := ((oth L q m : Nat) : Int)) (hN.weak (by exact drop_auto)) hl fun w5 G5 r5 => ⟨by exact rec_auto, ?_⟩))
    repeat (first | refine pl_nil ?_ | (refine isPlan ?_; first | refine y1 ?_ | refine y2 ?_ | refine pl_skip rfl rfl rfl rfl rfl ?_ | refine pl_skip0 rfl rfl rfl rfl ?_))
    refine pl_S rfl rfl rfl rfl rfl rfl (st_call rfl rfl rfl rfl (same15_ct (S := fun l => l = p.take (i + 1)) (fun _ _ h h' => h.trans h'.symm) (fun l h => by rw [h, hlt]; omega) (r5.imp hS1) ⟨p.take (i + 1), ass, cs, rfl, by rw [hlt], (hS.arr encI_len).weak (by exact drop_auto)⟩ ⟨by exact rec_auto, ?_⟩))
    repeat (first | refine pl_nil ?_ | (refine isPlan ?_; first | refine y1 ?_ | refine y2 ?_ | refine pl_skip rfl rfl rfl rfl rfl ?_ | refine pl_skip0 rfl rfl rfl rfl ?_))
    repeat (first | (first | refine rt_nil ?_ | (refine isRun ?_; first | refine x1 ?_ | refine x2 ?_ | refine x3 fun _ => ?_ | refine x4 fun _ => ?_ | refine x5 fun _ => ?_ | (refine rt_step rfl rfl rfl ?_; first | refine st_buildSlice rfl (zr rfl) rfl rfl rfl rfl rfl rfl fun _ => ?_ | refine st_A rfl rfl (fun _ => rfl) rfl fun _ => ?_) | refine x8 ?_ | refine rt_skip rfl rfl rfl ?_ | refine rt_skip0 rfl rfl ?_)) | (first | refine sq_n ?_ | refine sq_r ?_ | refine sq_e ?_ | refine bk_n ?_ | refine bk_r ?_ | refine bk_e rfl ?_ | refine bk_x rfl ?_ | refine ct_seq ?_ | refine ct_region rfl ?_ | refine ct_skip ?_ | refine ct_label ?_ | refine ct_block ?_ | refine ct_exit ?_ | refine ct_ret ?_ | refine ct_scope ?_ | refine ct_true rfl ?_ | refine ct_false rfl ?_ | refine lt_step ?_))
    refine ⟨i + 1, by omega, by omega, ?_, by exact drop_auto⟩
    rw [he1, g8]
    repeat (first | exact SubL.nil | refine SubL.cons rfl ?_)
  · have hip : i = p.length := by omega
    subst hip
    rw [List.take_length]
    have hL0 := fun H' hs' => hD H' t ht ((List.sublist_append_right G2 _).trans ((List.sublist_append_right G3 _).trans hs'))
    have hL1 := fun H' hs' => hP H' t ht hs'
    have hen := hp.ends hd hok hs ht
    by_cases h0 : 0 ≤ d'.getD t (-1)
    · rw [hen h0]
      clear hpz hbd hlow
      repeat (first | (first | refine rt_nil ?_ | (refine isRun ?_; first | refine x1 ?_ | refine x2 ?_ | refine x3 fun _ => ?_ | refine x4 fun _ => ?_ | refine x5 fun _ => ?_ | (refine rt_step rfl rfl rfl ?_; first | refine st_buildSlice rfl (zr rfl) rfl rfl rfl rfl rfl rfl fun _ => ?_ | refine st_A rfl rfl (fun _ => rfl) rfl fun _ => ?_) | refine x8 ?_ | refine rt_skip rfl rfl rfl ?_ | refine rt_skip0 rfl rfl ?_)) | (first | refine sq_n ?_ | refine sq_r ?_ | refine sq_e ?_ | refine bk_n ?_ | refine bk_r ?_ | refine bk_e rfl ?_ | refine bk_x rfl ?_ | refine ct_seq ?_ | refine ct_region rfl ?_ | refine ct_skip ?_ | refine ct_label ?_ | refine ct_block ?_ | refine ct_exit ?_ | refine ct_ret ?_ | refine ct_scope ?_ | refine ct_true rfl ?_ | refine ct_false rfl ?_ | refine lt_step ?_))
      refine isRun ?_
      refine z1 (fun hc => ?_) (fun hc => ?_)
      · exfalso; omega
      clear hc
      repeat (first | (first | refine rt_nil ?_ | (refine isRun ?_; first | refine x1 ?_ | refine x2 ?_ | refine x3 fun _ => ?_ | refine x4 fun _ => ?_ | refine x5 fun _ => ?_ | (refine rt_step rfl rfl rfl ?_; first | refine st_buildSlice rfl (zr rfl) rfl rfl rfl rfl rfl rfl fun _ => ?_ | refine st_A rfl rfl (fun _ => rfl) rfl fun _ => ?_) | refine x8 ?_ | refine rt_skip rfl rfl rfl ?_ | refine rt_skip0 rfl rfl ?_)) | (first | refine sq_n ?_ | refine sq_r ?_ | refine sq_e ?_ | refine bk_n ?_ | refine bk_r ?_ | refine bk_e rfl ?_ | refine bk_x rfl ?_ | refine ct_seq ?_ | refine ct_region rfl ?_ | refine ct_skip ?_ | refine ct_label ?_ | refine ct_block ?_ | refine ct_exit ?_ | refine ct_ret ?_ | refine ct_scope ?_ | refine ct_true rfl ?_ | refine ct_false rfl ?_ | refine lt_step ?_))
      refine isRun ?_
      refine z1 (fun hc => ?_) (fun hc => absurd rfl hc)
      repeat (first | (first | refine rt_nil ?_ | (refine isRun ?_; first | refine x1 ?_ | refine x2 ?_ | refine x3 fun _ => ?_ | refine x4 fun _ => ?_ | refine x5 fun _ => ?_ | (refine rt_step rfl rfl rfl ?_; first | refine st_buildSlice rfl (zr rfl) rfl rfl rfl rfl rfl rfl fun _ => ?_ | refine st_A rfl rfl (fun _ => rfl) rfl fun _ => ?_) | refine x8 ?_ | refine rt_skip rfl rfl rfl ?_ | refine rt_skip0 rfl rfl ?_)) | (first | refine sq_n ?_ | refine sq_r ?_ | refine sq_e ?_ | refine bk_n ?_ | refine bk_r ?_ | refine bk_e rfl ?_ | refine bk_x rfl ?_ | refine ct_seq ?_ | refine ct_region rfl ?_ | refine ct_skip ?_ | refine ct_label ?_ | refine ct_block ?_ | refine ct_exit ?_ | refine ct_ret ?_ | refine ct_scope ?_ | refine ct_true rfl ?_ | refine ct_false rfl ?_ | refine lt_step ?_))
      rw [beq_self_eq_true (d'.getD t (-1))]
      exact re_1 rfl rfl (List.Sublist.refl _) (hQ _)
    · rw [(hpz.2 (by omega)).2] at hL1
      clear hpz hbd hlow hen
      repeat (first | (first | refine rt_nil ?_ | (refine isRun ?_; first | refine x1 ?_ | refine x2 ?_ | refine x3 fun _ => ?_ | refine x4 fun _ => ?_ | refine x5 fun _ => ?_ | (refine rt_step rfl rfl rfl ?_; first | refine st_buildSlice rfl (zr rfl) rfl rfl rfl rfl rfl rfl fun _ => ?_ | refine st_A rfl rfl (fun _ => rfl) rfl fun _ => ?_) | refine x8 ?_ | refine rt_skip rfl rfl rfl ?_ | refine rt_skip0 rfl rfl ?_)) | (first | refine sq_n ?_ | refine sq_r ?_ | refine sq_e ?_ | refine bk_n ?_ | refine bk_r ?_ | refine bk_e rfl ?_ | refine bk_x rfl ?_ | refine ct_seq ?_ | refine ct_region rfl ?_ | refine ct_skip ?_ | refine ct_label ?_ | refine ct_block ?_ | refine ct_exit ?_ | refine ct_ret ?_ | refine ct_scope ?_ | refine ct_true rfl ?_ | refine ct_false rfl ?_ | refine lt_step ?_))
      refine isRun ?_
      refine z1 (fun hc => ?_) (fun hc => ?_)
      rotate_left
      · exfalso; omega
      clear hc
      repeat (first | (first | refine rt_nil ?_ | (refine isRun ?_; first | refine x1 ?_ | refine x2 ?_ | refine x3 fun _ => ?_ | refine x4 fun _ => ?_ | refine x5 fun _ => ?_ | (refine rt_step rfl rfl rfl ?_; first | refine st_buildSlice rfl (zr rfl) rfl rfl rfl rfl rfl rfl fun _ => ?_ | refine st_A rfl rfl (fun _ => rfl) rfl fun _ => ?_) | refine x8 ?_ | refine rt_skip rfl rfl rfl ?_ | refine rt_skip0 rfl rfl ?_)) | (first | refine sq_n ?_ | refine sq_r ?_ | refine sq_e ?_ | refine bk_n ?_ | refine bk_r ?_ | refine bk_e rfl ?_ | refine bk_x rfl ?_ | refine ct_seq ?_ | refine ct_region rfl ?_ | refine ct_skip ?_ | refine ct_label ?_ | refine ct_block ?_ | refine ct_exit ?_ | refine ct_ret ?_ | refine ct_scope ?_ | refine ct_true rfl ?_ | refine ct_false rfl ?_ | refine lt_step ?_))
      exact re_1 rfl rfl (List.Sublist.refl _) (hQ _)
end
end Go.Proofs.Ytdaigoiekkofoaa.Abs
