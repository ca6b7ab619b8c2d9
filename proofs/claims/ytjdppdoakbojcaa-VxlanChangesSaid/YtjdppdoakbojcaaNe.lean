/- Contracts: frames are decoded: their parts. -/
import Derived.Test.YtjdppdoakbojcaaNd
namespace Go.Proofs.Ytjdppdoakbojcaa.Abs
open Go
set_option linter.unusedVariables false
/-- A slice that can be cut, and its parts again. -/
inductive CutV {α : Type} (C : Ctx) (H : Hp) (en : α → List Value) (k : Nat) : List α → Value → Prop where
  | nil : CutV C H en k [] (.slice none 0 0)
  | fx (b o cap : Nat) (L : List α) (h : ArrW C H (some ⟨b, o, none⟩) k en L) (h1 : L.length ≤ cap) (h2 : cap < EL) : CutV C H en k L (.slice (some ⟨b, o, none⟩) L.length cap)
  | el (b o : Nat) (L : List α) (h : ArrW C H (some ⟨b, o, none⟩) k en L) : CutV C H en k L (.slice (some ⟨b, o, none⟩) L.length (EL + k))
section
variable {C : Ctx} {H H' : Hp} {α : Type} {en : α → List Value} {k : Nat} {L : List α} {v : Value}
theorem CutV.weak (h : CutV C H en k L v) (hs : H.Sublist H') : CutV C H' en k L v := by
  cases h with
  | nil => exact .nil
  | fx b o cap L h h1 h2 => exact .fx b o cap L (h.weak hs) h1 h2
  | el b o L h => exact .el b o L (h.weak hs)
theorem CutV.arr (h : CutV C H en k L v) : ∃ ad c, v = .slice ad L.length c ∧ ArrW C H ad k en L ∧ (L ≠ [] ∨ ad = none ∨ ∃ b o, ad = some ⟨b, o, none⟩) := by
  cases h with
  | nil => exact ⟨none, 0, rfl, .nil, .inr (.inl rfl)⟩
  | fx b o cap L h h1 h2 => exact ⟨_, _, rfl, h, .inr (.inr ⟨b, o, rfl⟩)⟩
  | el b o L h => exact ⟨_, _, rfl, h, .inr (.inr ⟨b, o, rfl⟩)⟩
theorem CutV.part (h : CutV C H en k L v) (hl : ∀ x, (en x).length = k) {t e : TypeId} {lo hi : Option Value} (m q : Nat) (hu : C.P.underlying t = some (.slice e)) (hn : sizeAt C e = some k) (h1 : m ≤ q) (h2 : q ≤ L.length) (h5 : lo.bind natOf = some m ∨ lo = none ∧ m = 0) (h6 : hi.bind natOf = some q ∨ hi = none ∧ q = L.length) :
    ∃ v', aslice C t v lo hi none = some v' ∧ CutV C H en k ((L.drop m).take (q - m)) v' := by
  cases h with
  | nil =>
    have hq : q = 0 := by simpa using h2
    subst hq
    have hm0 : m = 0 := by omega
    subst hm0
    refine ⟨.slice none 0 0, ?_, .nil⟩
    simp only [aslice, hu, hn]
    rw [if_neg (by decide), bnds_is (len := 0) (Nat.le_refl _) (Nat.le_refl _) h5 h6]
    simp [cutSlice]
  | fx b o cap L ha hc hm =>
    have e : aslice C t (.slice (some ⟨b, o, none⟩) L.length cap) lo hi none = cutSlice C k cap false (some ⟨b, o, none⟩) (m, q, cap) := by
      simp only [aslice, hu, hn]
      rw [if_neg (Nat.not_le.2 hm), bnds_is h1 (by omega) h5 h6]
      rfl
    have hlen : ((L.drop m).take (q - m)).length = q - m := by rw [List.length_take, List.length_drop]; omega
    rw [e]
    by_cases c1 : cap = m
    · refine ⟨.slice (some ⟨b, o, none⟩) (q - m) (cap - m), by simp only [cutSlice]; rw [if_pos (by omega), if_pos c1], ?_⟩
      have := CutV.fx (C := C) (H := H) (en := en) (k := k) b o (cap - m) ((L.drop m).take (q - m)) (by
        have hq : q - m = 0 := by omega
        rw [hq, List.take_zero]
        exact ArrW.nil) (by omega) (by omega)
      rwa [hlen] at this
    · refine ⟨.slice (some ⟨b, o + m * k, none⟩) (q - m) (cap - m), by simp only [cutSlice]; rw [if_pos (by omega), if_neg c1], ?_⟩
      have := CutV.fx (C := C) (H := H) (en := en) (k := k) b (o + m * k) (cap - m) ((L.drop m).take (q - m)) (ha.part hl m (q - m) (by omega)) (by omega) (by omega)
      rwa [hlen] at this
  | el b o L ha =>
    have e : aslice C t (.slice (some ⟨b, o, none⟩) L.length (EL + k)) lo hi none = cutSlice C k (EL + k) true (some ⟨b, o, none⟩) (m, q, L.length) := by
      simp only [aslice, hu, hn]
      rw [if_pos (Nat.le_add_right _ _), if_pos trivial, bnds_is h1 h2 h5 h6]
      rfl
    have hlen : ((L.drop m).take (q - m)).length = q - m := by rw [List.length_take, List.length_drop]; omega
    rw [e]
    by_cases c1 : m = 0
    · subst c1
      refine ⟨.slice (some ⟨b, o, none⟩) q (EL + k), by simp [cutSlice], ?_⟩
      have h3 := ha.part hl 0 q (by omega)
      rw [Nat.zero_mul, Nat.add_zero] at h3
      have := CutV.el (C := C) (H := H) (en := en) (k := k) b o ((L.drop 0).take (q - 0)) (by simpa using h3)
      rwa [hlen] at this
    · by_cases c2 : m = q
      · subst c2
        refine ⟨.slice (some ⟨C.B0, 0, none⟩) 0 (EL + k), by simp [cutSlice, c1], ?_⟩
        rw [Nat.sub_self, List.take_zero]
        exact CutV.el (C := C) (H := H) (en := en) (k := k) C.B0 0 [] ArrW.nil
      · refine ⟨.slice (some ⟨b, o + m * k, none⟩) (q - m) (EL + k), by simp [cutSlice, c1, c2], ?_⟩
        have := CutV.el (C := C) (H := H) (en := en) (k := k) b (o + m * k) ((L.drop m).take (q - m)) (ha.part hl m (q - m) (by omega))
        rwa [hlen] at this
theorem CutV.cuts (h : CutV C H en k L v) (hl : ∀ x, (en x).length = k) : Cuts C H en k L v := by
  refine ⟨let ⟨ad, c, h1, h2, _⟩ := h.arr; ⟨ad, c, h1, h2⟩, fun t e lo hi m q hu hn h1 h2 h5 h6 => ?_⟩
  obtain ⟨v', e1, e2⟩ := h.part hl m q hu hn h1 h2 h5 h6
  obtain ⟨ad, c, e3, e4, _⟩ := e2.arr
  have hlen : ((L.drop m).take (q - m)).length = q - m := by rw [List.length_take, List.length_drop]; omega
  rw [hlen] at e3
  exact ⟨ad, c, by rw [e1, e3], e4⟩
/-- An argument's slice can be cut. -/
theorem arg_cutV {ad : Option Addr} {cap : Nat} (ha : ArrW C H ad k en L) (hne : L ≠ []) (hc : L.length ≤ cap) (hm : cap < EL) : CutV C H en k L (.slice ad L.length cap) := by
  obtain ⟨b, o, cs, rfl, _, _⟩ := ha.els hne
  exact .fx b o cap L ha hc hm
theorem Own.cutV {Hs pre H0 : Hp} (h : Own en k L v Hs) (hl : ∀ x, (en x).length = k) : CutV C (pre ++ (Hs ++ H0)) en k L v := by
  obtain ⟨ad0, c0, e0, hw0⟩ := h.arrW (C := C) hl
  have hw := hw0 pre H0
  cases h with
  | nil => exact .nil
  | emp b o => exact CutV.fx (C := C) (en := en) b 0 0 [] ArrW.nil (Nat.le_refl _) (by decide)
  | el _ b es junk => cases e0; exact .el b 0 L hw
  | fix _ b es hL => cases e0; exact .fx b 0 _ L hw (Nat.le_refl _) hL
end
theorem i64_i {x : Int} (h : -9223372036854775808 ≤ x ∧ x < 9223372036854775808) : IntKind.i64.wrap x = x := IntWalk.i64_in x (by omega)
theorem u32_eq (x : Int) : IntKind.u32.wrap x = x % 4294967296 := by simp [IntKind.wrap, IntKind.bits, IntKind.signed]
theorem num_sub2 {L : List Int} (h : ∀ y ∈ L, isY y) (i : Nat) : num (sub L i 2) < 65536 := by
  have := num_lt (sub_Y h i 2)
  have h2 : 256 ^ (sub L i 2).length ≤ 256 ^ 2 := Nat.pow_le_pow_right (by decide) (sub_le L i 2)
  omega
theorem num_sub4 {L : List Int} (h : ∀ y ∈ L, isY y) (i : Nat) : num (sub L i 4) < 4294967296 := by
  have := num_lt (sub_Y h i 4)
  have h2 : 256 ^ (sub L i 4).length ≤ 256 ^ 4 := Nat.pow_le_pow_right (by decide) (sub_le L i 4)
  omega
theorem num_sub1 {L : List Int} {i : Nat} {x : Int} (h : L[i]? = some x) : num (sub L i 1) = x.toNat := by
  rw [getD_sub h]; simp [num]
theorem flatY_one (L : List Int) : (L.flatMap encY).all Value.oneCell' = true := by
  rw [List.all_eq_true]
  intro v hv
  obtain ⟨x, _, hx⟩ := List.mem_flatMap.1 hv
  have := List.all_eq_true.1 (encY_one x) v hx
  exact this
section
variable {B0 : Nat} {old : Nat → Option (List Value)} {n : Nat} {H : Hp} {Q : Value → Hp → Prop} {L : List Int} {bv : Value}
set_option maxRecDepth 10000
set_option maxHeartbeats 4000000
/-- The array of an array. -/
theorem arr_cut {b N m k q : Nat} {t : TypeId} {es : Nat} {el : Bool} {P : List Int} (hu : (cx B0 old).P.underlying t = some (.array N 5)) (hP : P.length = N) (hN : N < EL) (hk : m + k = q) (h1 : 0 < k) (h2 : q ≤ N) (hm : (b, AObj.row (P.flatMap encY) es el) ∈ H) :
    ∃ ad c, aslice (cx B0 old) t (.pointer (some ⟨b, 0, none⟩)) (some (.int .i64 (m : Int))) (some (.int .i64 (q : Int))) none = some (.slice ad k c) ∧ Arr (cx B0 old) H ad 1 encY (sub P m k) := by
  have := aslice_arr (C := cx B0 old) (t := t) (b := b) (o := 0) (m := m) (q := q) (k := 1) (lo := some (.int .i64 m)) (hi := some (.int .i64 q)) hu (show sizeAt (cx B0 old) 5 = some 1 from sz rfl) hN (by omega) h2 (.inl (by simp [natOf])) (.inl (by simp [natOf]))
  rw [if_neg (by omega), show q - m = k by omega] at this
  refine ⟨_, _, this, ?_⟩
  exact ((arrW_flat (C := cx B0 old) encY_len P hm).part encY_len m k (by omega)).arr encY_len
theorem type131_ct (h : Cuts (cx B0 old) H encY 1 L bv) (hy : ∀ y ∈ L, isY y) (hl : 14 ≤ L.length) (hQ : Q (.int .u64 ((num (sub L 12 2) : Nat) : Int)) H) : CallT (cx B0 old) (acall (cx B0 old) ansP (n + 2)) 131 [bv] H Q := by
  obtain ⟨a1, c1, e1, g1⟩ := h.part 34 5 (some (.int .i64 12)) (some (.int .i64 14)) 12 14 rfl (sz rfl) (by omega) hl (.inl rfl) (.inl rfl)
  refine call_in1 6 rfl Try.func131 rfl rfl ?_
  repeat (first | (first | refine rt_nil ?_ | (refine isRun ?_; first | refine x1 ?_ | refine x2 ?_ | refine x3 fun _ => ?_ | refine x4 fun _ => ?_ | refine x5 fun _ => ?_ | (refine rt_step rfl rfl rfl ?_; first | refine st_buildSlice rfl (zr rfl) rfl rfl rfl rfl rfl rfl fun _ => ?_ | refine st_A rfl rfl (fun _ => rfl) rfl fun _ => ?_) | refine x8 ?_ | refine rt_skip rfl rfl rfl ?_ | refine rt_skip0 rfl rfl ?_)) | (first | refine sq_n ?_ | refine sq_r ?_ | refine sq_e ?_ | refine bk_n ?_ | refine bk_r ?_ | refine bk_e rfl ?_ | refine bk_x rfl ?_ | refine ct_seq ?_ | refine ct_region rfl ?_ | refine ct_skip ?_ | refine ct_label ?_ | refine ct_block ?_ | refine ct_exit ?_ | refine ct_ret ?_ | refine ct_scope ?_ | refine ct_true rfl ?_ | refine ct_false rfl ?_ | refine lt_step ?_))
  apply rt_p rfl rfl rfl
  case hp => exact p_slc rfl rfl rfl e1
  refine rt_step rfl rfl rfl (st_call rfl rfl rfl rfl (num132_ct (L := sub L 12 2) (sub_len (by omega)) (g1.arr encY_len) (sub_Y hy _ _) (by decide) ?_))
  repeat (first | (first | refine rt_nil ?_ | (refine isRun ?_; first | refine x1 ?_ | refine x2 ?_ | refine x3 fun _ => ?_ | refine x4 fun _ => ?_ | refine x5 fun _ => ?_ | (refine rt_step rfl rfl rfl ?_; first | refine st_buildSlice rfl (zr rfl) rfl rfl rfl rfl rfl rfl fun _ => ?_ | refine st_A rfl rfl (fun _ => rfl) rfl fun _ => ?_) | refine x8 ?_ | refine rt_skip rfl rfl rfl ?_ | refine rt_skip0 rfl rfl ?_)) | (first | refine sq_n ?_ | refine sq_r ?_ | refine sq_e ?_ | refine bk_n ?_ | refine bk_r ?_ | refine bk_e rfl ?_ | refine bk_x rfl ?_ | refine ct_seq ?_ | refine ct_region rfl ?_ | refine ct_skip ?_ | refine ct_label ?_ | refine ct_block ?_ | refine ct_exit ?_ | refine ct_ret ?_ | refine ct_scope ?_ | refine ct_true rfl ?_ | refine ct_false rfl ?_ | refine lt_step ?_))
  exact re_1 (H' := H) rfl rfl (by exact drop_auto) hQ
theorem arp133_ct {P : List Int} (hP : P.length = 28) (hy : ∀ y ∈ P, isY y) (hQ : Q (.agg ⟨[.int .i64 ((num (sub P 6 2) : Nat) : Int), .int .u64 ((num (sub P 8 6) : Nat) : Int), .int .u32 ((num (sub P 14 4) : Nat) : Int), .int .u64 ((num (sub P 18 6) : Nat) : Int), .int .u32 ((num (sub P 24 4) : Nat) : Int)]⟩) H) :
    CallT (cx B0 old) (acall (cx B0 old) ansP (n + 2)) 133 [.agg ⟨P.flatMap encY⟩] H Q := by
  have hfl : (P.flatMap encY).length = 28 := by rw [flat_length encY_len, hP]
  have k1 := num_sub2 hy 6
  have k2 := num_sub4 hy 14
  have k3 := num_sub4 hy 24
  refine call_in1 17 rfl Try.func133 rfl rfl ?_
  repeat (first | (first | refine rt_nil ?_ | (refine isRun ?_; first | refine x1 ?_ | refine x2 ?_ | refine x3 fun _ => ?_ | refine x4 fun _ => ?_ | refine x5 fun _ => ?_ | (refine rt_step rfl rfl rfl ?_; first | refine st_buildSlice rfl (zr rfl) rfl rfl rfl rfl rfl rfl fun _ => ?_ | refine st_A rfl rfl (fun _ => rfl) rfl fun _ => ?_) | refine x8 ?_ | refine rt_skip rfl rfl rfl ?_ | refine rt_skip0 rfl rfl ?_)) | (first | refine sq_n ?_ | refine sq_r ?_ | refine sq_e ?_ | refine bk_n ?_ | refine bk_r ?_ | refine bk_e rfl ?_ | refine bk_x rfl ?_ | refine ct_seq ?_ | refine ct_region rfl ?_ | refine ct_skip ?_ | refine ct_label ?_ | refine ct_block ?_ | refine ct_exit ?_ | refine ct_ret ?_ | refine ct_scope ?_ | refine ct_true rfl ?_ | refine ct_false rfl ?_ | refine lt_step ?_))
  refine rt_step rfl rfl rfl (st_box rfl (sz rfl) (beq_of hfl) (flatY_one P) fun b => ?_)
  repeat (first | (first | refine rt_nil ?_ | (refine isRun ?_; first | refine x1 ?_ | refine x2 ?_ | refine x3 fun _ => ?_ | refine x4 fun _ => ?_ | refine x5 fun _ => ?_ | (refine rt_step rfl rfl rfl ?_; first | refine st_buildSlice rfl (zr rfl) rfl rfl rfl rfl rfl rfl fun _ => ?_ | refine st_A rfl rfl (fun _ => rfl) rfl fun _ => ?_) | refine x8 ?_ | refine rt_skip rfl rfl rfl ?_ | refine rt_skip0 rfl rfl ?_)) | (first | refine sq_n ?_ | refine sq_r ?_ | refine sq_e ?_ | refine bk_n ?_ | refine bk_r ?_ | refine bk_e rfl ?_ | refine bk_x rfl ?_ | refine ct_seq ?_ | refine ct_region rfl ?_ | refine ct_skip ?_ | refine ct_label ?_ | refine ct_block ?_ | refine ct_exit ?_ | refine ct_ret ?_ | refine ct_scope ?_ | refine ct_true rfl ?_ | refine ct_false rfl ?_ | refine lt_step ?_))
  rename_i b2
  refine ct_draw (masks := [0, 1, 3, 0, 11, 0, 59, 123, 0, 379, 0, 1915, 3963, 8191, 16383]) (plan := [0, 3, 5, 8, 10, 1, 2, 4, 6, 7, 9, 11, 12, 13, 14]) (E := []) (by kernel_rfl) (by kernel_rfl) (by kernel_rfl) (by kernel_rfl) ?_
  obtain ⟨a1, c1, e1, g1⟩ := arr_cut (B0 := B0) (old := old) (t := 174) (b := b) (m := 6) (k := 2) (q := 8) (P := P) rfl hP (by decide) (by decide) (by decide) (by decide) (hm0 (l := H))
  obtain ⟨a2, c2, e2, g2⟩ := arr_cut (B0 := B0) (old := old) (t := 174) (b := b) (m := 8) (k := 6) (q := 14) (P := P) rfl hP (by decide) (by decide) (by decide) (by decide) (hm0 (l := H))
  obtain ⟨a3, c3, e3, g3⟩ := arr_cut (B0 := B0) (old := old) (t := 174) (b := b) (m := 14) (k := 4) (q := 18) (P := P) rfl hP (by decide) (by decide) (by decide) (by decide) (hm0 (l := H))
  obtain ⟨a4, c4, e4, g4⟩ := arr_cut (B0 := B0) (old := old) (t := 174) (b := b) (m := 18) (k := 6) (q := 24) (P := P) rfl hP (by decide) (by decide) (by decide) (by decide) (hm0 (l := H))
  obtain ⟨a5, c5, e5, g5⟩ := arr_cut (B0 := B0) (old := old) (t := 174) (b := b) (m := 24) (k := 4) (q := 28) (P := P) rfl hP (by decide) (by decide) (by decide) (by decide) (hm0 (l := H))
  refine pl_p rfl rfl rfl rfl rfl rfl (p_slc rfl rfl rfl e1) ?_
  refine pl_p rfl rfl rfl rfl rfl rfl (p_slc rfl rfl rfl e2) ?_
  refine pl_p rfl rfl rfl rfl rfl rfl (p_slc rfl rfl rfl e3) ?_
  refine pl_p rfl rfl rfl rfl rfl rfl (p_slc rfl rfl rfl e4) ?_
  refine pl_p rfl rfl rfl rfl rfl rfl (p_slc rfl rfl rfl e5) ?_
  refine pl_S rfl rfl rfl rfl rfl rfl (st_call rfl rfl rfl rfl (num132_ct (sub_len (by omega)) (g1.weak (by exact drop_auto)) (sub_Y hy _ _) (by decide) ⟨by exact rec_auto, ?_⟩))
  repeat (first | refine pl_nil ?_ | (refine isPlan ?_; first | refine y1 ?_ | refine y2 ?_ | refine pl_skip rfl rfl rfl rfl rfl ?_ | refine pl_skip0 rfl rfl rfl rfl ?_))
  rw [i64_i (by omega)]
  refine pl_S rfl rfl rfl rfl rfl rfl (st_call rfl rfl rfl rfl (num132_ct (sub_len (by omega)) (g2.weak (by exact drop_auto)) (sub_Y hy _ _) (by decide) ⟨by exact rec_auto, ?_⟩))
  repeat (first | refine pl_nil ?_ | (refine isPlan ?_; first | refine y1 ?_ | refine y2 ?_ | refine pl_skip rfl rfl rfl rfl rfl ?_ | refine pl_skip0 rfl rfl rfl rfl ?_))
  refine pl_S rfl rfl rfl rfl rfl rfl (st_call rfl rfl rfl rfl (num132_ct (sub_len (by omega)) (g3.weak (by exact drop_auto)) (sub_Y hy _ _) (by decide) ⟨by exact rec_auto, ?_⟩))
  repeat (first | refine pl_nil ?_ | (refine isPlan ?_; first | refine y1 ?_ | refine y2 ?_ | refine pl_skip rfl rfl rfl rfl rfl ?_ | refine pl_skip0 rfl rfl rfl rfl ?_))
  rw [u32_eq ((num (sub P 14 4) : Nat) : Int), show (((num (sub P 14 4) : Nat) : Int) % 4294967296) = ((num (sub P 14 4) : Nat) : Int) by omega]
  refine pl_S rfl rfl rfl rfl rfl rfl (st_call rfl rfl rfl rfl (num132_ct (sub_len (by omega)) (g4.weak (by exact drop_auto)) (sub_Y hy _ _) (by decide) ⟨by exact rec_auto, ?_⟩))
  repeat (first | refine pl_nil ?_ | (refine isPlan ?_; first | refine y1 ?_ | refine y2 ?_ | refine pl_skip rfl rfl rfl rfl rfl ?_ | refine pl_skip0 rfl rfl rfl rfl ?_))
  refine pl_S rfl rfl rfl rfl rfl rfl (st_call rfl rfl rfl rfl (num132_ct (sub_len (by omega)) (g5.weak (by exact drop_auto)) (sub_Y hy _ _) (by decide) ⟨by exact rec_auto, ?_⟩))
  repeat (first | refine pl_nil ?_ | (refine isPlan ?_; first | refine y1 ?_ | refine y2 ?_ | refine pl_skip rfl rfl rfl rfl rfl ?_ | refine pl_skip0 rfl rfl rfl rfl ?_))
  rw [u32_eq ((num (sub P 24 4) : Nat) : Int), show (((num (sub P 24 4) : Nat) : Int) % 4294967296) = ((num (sub P 24 4) : Nat) : Int) by omega]
  repeat (first | refine pl_nil ?_ | (refine isPlan ?_; first | refine y1 ?_ | refine y2 ?_ | refine pl_skip rfl rfl rfl rfl rfl ?_ | refine pl_skip0 rfl rfl rfl rfl ?_))
  refine y3 ?_
  repeat (first | refine pl_nil ?_ | (refine isPlan ?_; first | refine y1 ?_ | refine y2 ?_ | refine pl_skip rfl rfl rfl rfl rfl ?_ | refine pl_skip0 rfl rfl rfl rfl ?_))
  repeat (first | (first | refine rt_nil ?_ | (refine isRun ?_; first | refine x1 ?_ | refine x2 ?_ | refine x3 fun _ => ?_ | refine x4 fun _ => ?_ | refine x5 fun _ => ?_ | (refine rt_step rfl rfl rfl ?_; first | refine st_buildSlice rfl (zr rfl) rfl rfl rfl rfl rfl rfl fun _ => ?_ | refine st_A rfl rfl (fun _ => rfl) rfl fun _ => ?_) | refine x8 ?_ | refine rt_skip rfl rfl rfl ?_ | refine rt_skip0 rfl rfl ?_)) | (first | refine sq_n ?_ | refine sq_r ?_ | refine sq_e ?_ | refine bk_n ?_ | refine bk_r ?_ | refine bk_e rfl ?_ | refine bk_x rfl ?_ | refine ct_seq ?_ | refine ct_region rfl ?_ | refine ct_skip ?_ | refine ct_label ?_ | refine ct_block ?_ | refine ct_exit ?_ | refine ct_ret ?_ | refine ct_scope ?_ | refine ct_true rfl ?_ | refine ct_false rfl ?_ | refine lt_step ?_))
  exact re_c1 rfl rfl (.own _ _ hm0) rfl (sz rfl) rfl (by exact drop_auto) hQ
theorem ip134_ct {P : List Int} {x8 x9 : Int} (hP : P.length = 20) (hy : ∀ y ∈ P, isY y) (h8 : P[8]? = some x8) (h9 : P[9]? = some x9) (hQ : Q (.agg ⟨[.int .u32 ((num (sub P 12 4) : Nat) : Int), .int .u32 ((num (sub P 16 4) : Nat) : Int), .int .i64 x8, .int .i64 x9, .int .i64 0, .int .i64 0]⟩) H) :
    CallT (cx B0 old) (acall (cx B0 old) ansP (n + 2)) 134 [.agg ⟨P.flatMap encY⟩] H Q := by
  have hfl : (P.flatMap encY).length = 20 := by rw [flat_length encY_len, hP]
  have k2 := num_sub4 hy 12
  have k3 := num_sub4 hy 16
  have y8 := getY hy h8
  have y9 := getY hy h9
  unfold isY at y8 y9
  refine call_in1 16 rfl Try.func134 rfl rfl ?_
  repeat (first | (first | refine rt_nil ?_ | (refine isRun ?_; first | refine x1 ?_ | refine x2 ?_ | refine x3 fun _ => ?_ | refine x4 fun _ => ?_ | refine x5 fun _ => ?_ | (refine rt_step rfl rfl rfl ?_; first | refine st_buildSlice rfl (zr rfl) rfl rfl rfl rfl rfl rfl fun _ => ?_ | refine st_A rfl rfl (fun _ => rfl) rfl fun _ => ?_) | refine x8 ?_ | refine rt_skip rfl rfl rfl ?_ | refine rt_skip0 rfl rfl ?_)) | (first | refine sq_n ?_ | refine sq_r ?_ | refine sq_e ?_ | refine bk_n ?_ | refine bk_r ?_ | refine bk_e rfl ?_ | refine bk_x rfl ?_ | refine ct_seq ?_ | refine ct_region rfl ?_ | refine ct_skip ?_ | refine ct_label ?_ | refine ct_block ?_ | refine ct_exit ?_ | refine ct_ret ?_ | refine ct_scope ?_ | refine ct_true rfl ?_ | refine ct_false rfl ?_ | refine lt_step ?_))
  refine rt_step rfl rfl rfl (st_box rfl (sz rfl) (beq_of hfl) (flatY_one P) fun b => ?_)
  repeat (first | (first | refine rt_nil ?_ | (refine isRun ?_; first | refine x1 ?_ | refine x2 ?_ | refine x3 fun _ => ?_ | refine x4 fun _ => ?_ | refine x5 fun _ => ?_ | (refine rt_step rfl rfl rfl ?_; first | refine st_buildSlice rfl (zr rfl) rfl rfl rfl rfl rfl rfl fun _ => ?_ | refine st_A rfl rfl (fun _ => rfl) rfl fun _ => ?_) | refine x8 ?_ | refine rt_skip rfl rfl rfl ?_ | refine rt_skip0 rfl rfl ?_)) | (first | refine sq_n ?_ | refine sq_r ?_ | refine sq_e ?_ | refine bk_n ?_ | refine bk_r ?_ | refine bk_e rfl ?_ | refine bk_x rfl ?_ | refine ct_seq ?_ | refine ct_region rfl ?_ | refine ct_skip ?_ | refine ct_label ?_ | refine ct_block ?_ | refine ct_exit ?_ | refine ct_ret ?_ | refine ct_scope ?_ | refine ct_true rfl ?_ | refine ct_false rfl ?_ | refine lt_step ?_))
  rename_i b2
  have ha := (arrW_flat (C := cx B0 old) (H := (b, .row (P.flatMap encY) 20 false) :: H) (es := 20) (el := false) encY_len P hm0).arr encY_len
  obtain ⟨ba, oa, ea, hL0⟩ := ha.ld1 5 h8 rfl rfl (sz rfl)
  cases ea
  obtain ⟨ba, oa, ea, hL1⟩ := ha.ld1 5 h9 rfl rfl (sz rfl)
  cases ea
  refine ct_draw (masks := [0, 1, 3, 0, 11, 27, 0, 64, 192, 0, 512, 1536, 4095, 8191]) (plan := [0, 3, 6, 7, 8, 9, 10, 11, 1, 2, 4, 5, 12, 13]) (E := []) (by kernel_rfl) (by kernel_rfl) (by kernel_rfl) (by kernel_rfl) ?_
  obtain ⟨a1, c1, e1, g1⟩ := arr_cut (B0 := B0) (old := old) (t := 176) (b := b) (m := 12) (k := 4) (q := 16) (P := P) rfl hP (by decide) (by decide) (by decide) (by decide) (hm0 (l := H))
  obtain ⟨a2, c2, e2, g2⟩ := arr_cut (B0 := B0) (old := old) (t := 176) (b := b) (m := 16) (k := 4) (q := 20) (P := P) rfl hP (by decide) (by decide) (by decide) (by decide) (hm0 (l := H))
  refine pl_p rfl rfl rfl rfl rfl rfl (p_slc rfl rfl rfl e1) ?_
  refine pl_p rfl rfl rfl rfl rfl rfl (p_slc rfl rfl rfl e2) ?_
  repeat (first | refine pl_nil ?_ | (refine isPlan ?_; first | refine y1 ?_ | refine y2 ?_ | refine pl_skip rfl rfl rfl rfl rfl ?_ | refine pl_skip0 rfl rfl rfl rfl ?_))
  rw [i64_i (by omega), i64_i (by omega)]
  refine pl_S rfl rfl rfl rfl rfl rfl (st_call rfl rfl rfl rfl (num132_ct (sub_len (by omega)) (g1.weak (by exact drop_auto)) (sub_Y hy _ _) (by decide) ⟨by exact rec_auto, ?_⟩))
  repeat (first | refine pl_nil ?_ | (refine isPlan ?_; first | refine y1 ?_ | refine y2 ?_ | refine pl_skip rfl rfl rfl rfl rfl ?_ | refine pl_skip0 rfl rfl rfl rfl ?_))
  rw [u32_eq, show (((num (sub P 12 4) : Nat) : Int) % 4294967296) = ((num (sub P 12 4) : Nat) : Int) by omega]
  refine pl_S rfl rfl rfl rfl rfl rfl (st_call rfl rfl rfl rfl (num132_ct (sub_len (by omega)) (g2.weak (by exact drop_auto)) (sub_Y hy _ _) (by decide) ⟨by exact rec_auto, ?_⟩))
  repeat (first | refine pl_nil ?_ | (refine isPlan ?_; first | refine y1 ?_ | refine y2 ?_ | refine pl_skip rfl rfl rfl rfl rfl ?_ | refine pl_skip0 rfl rfl rfl rfl ?_))
  rw [u32_eq, show (((num (sub P 16 4) : Nat) : Int) % 4294967296) = ((num (sub P 16 4) : Nat) : Int) by omega]
  repeat (first | refine pl_nil ?_ | (refine isPlan ?_; first | refine y1 ?_ | refine y2 ?_ | refine pl_skip rfl rfl rfl rfl rfl ?_ | refine pl_skip0 rfl rfl rfl rfl ?_))
  refine y3 ?_
  repeat (first | refine pl_nil ?_ | (refine isPlan ?_; first | refine y1 ?_ | refine y2 ?_ | refine pl_skip rfl rfl rfl rfl rfl ?_ | refine pl_skip0 rfl rfl rfl rfl ?_))
  repeat (first | (first | refine rt_nil ?_ | (refine isRun ?_; first | refine x1 ?_ | refine x2 ?_ | refine x3 fun _ => ?_ | refine x4 fun _ => ?_ | refine x5 fun _ => ?_ | (refine rt_step rfl rfl rfl ?_; first | refine st_buildSlice rfl (zr rfl) rfl rfl rfl rfl rfl rfl fun _ => ?_ | refine st_A rfl rfl (fun _ => rfl) rfl fun _ => ?_) | refine x8 ?_ | refine rt_skip rfl rfl rfl ?_ | refine rt_skip0 rfl rfl ?_)) | (first | refine sq_n ?_ | refine sq_r ?_ | refine sq_e ?_ | refine bk_n ?_ | refine bk_r ?_ | refine bk_e rfl ?_ | refine bk_x rfl ?_ | refine ct_seq ?_ | refine ct_region rfl ?_ | refine ct_skip ?_ | refine ct_label ?_ | refine ct_block ?_ | refine ct_exit ?_ | refine ct_ret ?_ | refine ct_scope ?_ | refine ct_true rfl ?_ | refine ct_false rfl ?_ | refine lt_step ?_))
  exact re_c1 rfl rfl (.own _ _ hm0) rfl (sz rfl) rfl (by exact drop_auto) hQ
/-- The size of a frame. -/
theorem size101_ct (h : Cuts (cx B0 old) H encY 1 L bv) (hy : ∀ y ∈ L, isY y) (hl : 14 ≤ L.length) (hl2 : L.length ≤ 100000) (hno : pkS L = none → Q (.tuple #[.int .i64 0, .bool false]) H) (hyes : ∀ z, pkS L = some z → Q (.tuple #[.int .i64 (z : Int), .bool true]) H) :
    CallT (cx B0 old) (acall (cx B0 old) ansP (n + 3)) 101 [bv] H Q := by
  have h' := h
  obtain ⟨ad, c, rfl, ha⟩ := h.arr
  have hsm := num_sub2 hy 12
  unfold pkS at hno hyes
  refine call_in1 22 rfl Try.func101 rfl rfl ?_
  repeat (first | (first | refine rt_nil ?_ | (refine isRun ?_; first | refine x1 ?_ | refine x2 ?_ | refine x3 fun _ => ?_ | refine x4 fun _ => ?_ | refine x5 fun _ => ?_ | (refine rt_step rfl rfl rfl ?_; first | refine st_buildSlice rfl (zr rfl) rfl rfl rfl rfl rfl rfl fun _ => ?_ | refine st_A rfl rfl (fun _ => rfl) rfl fun _ => ?_) | refine x8 ?_ | refine rt_skip rfl rfl rfl ?_ | refine rt_skip0 rfl rfl ?_)) | (first | refine sq_n ?_ | refine sq_r ?_ | refine sq_e ?_ | refine bk_n ?_ | refine bk_r ?_ | refine bk_e rfl ?_ | refine bk_x rfl ?_ | refine ct_seq ?_ | refine ct_region rfl ?_ | refine ct_skip ?_ | refine ct_label ?_ | refine ct_block ?_ | refine ct_exit ?_ | refine ct_ret ?_ | refine ct_scope ?_ | refine ct_true rfl ?_ | refine ct_false rfl ?_ | refine lt_step ?_))
  refine rt_step rfl rfl rfl (st_call rfl rfl rfl rfl (type131_ct h' hy hl ?_))
  generalize num (sub L 12 2) = t at *
  repeat (first | (first | refine rt_nil ?_ | (refine isRun ?_; first | refine x1 ?_ | refine x2 ?_ | refine x3 fun _ => ?_ | refine x4 fun _ => ?_ | refine x5 fun _ => ?_ | (refine rt_step rfl rfl rfl ?_; first | refine st_buildSlice rfl (zr rfl) rfl rfl rfl rfl rfl rfl fun _ => ?_ | refine st_A rfl rfl (fun _ => rfl) rfl fun _ => ?_) | refine x8 ?_ | refine rt_skip rfl rfl rfl ?_ | refine rt_skip0 rfl rfl ?_)) | (first | refine sq_n ?_ | refine sq_r ?_ | refine sq_e ?_ | refine bk_n ?_ | refine bk_r ?_ | refine bk_e rfl ?_ | refine bk_x rfl ?_ | refine ct_seq ?_ | refine ct_region rfl ?_ | refine ct_skip ?_ | refine ct_label ?_ | refine ct_block ?_ | refine ct_exit ?_ | refine ct_ret ?_ | refine ct_scope ?_ | refine ct_true rfl ?_ | refine ct_false rfl ?_ | refine lt_step ?_))
  refine ct_condT te_e rfl (fun hc => ?_) (fun hc => ?_)
  · repeat (first | (first | refine rt_nil ?_ | (refine isRun ?_; first | refine x1 ?_ | refine x2 ?_ | refine x3 fun _ => ?_ | refine x4 fun _ => ?_ | refine x5 fun _ => ?_ | (refine rt_step rfl rfl rfl ?_; first | refine st_buildSlice rfl (zr rfl) rfl rfl rfl rfl rfl rfl fun _ => ?_ | refine st_A rfl rfl (fun _ => rfl) rfl fun _ => ?_) | refine x8 ?_ | refine rt_skip rfl rfl rfl ?_ | refine rt_skip0 rfl rfl ?_)) | (first | refine sq_n ?_ | refine sq_r ?_ | refine sq_e ?_ | refine bk_n ?_ | refine bk_r ?_ | refine bk_e rfl ?_ | refine bk_x rfl ?_ | refine ct_seq ?_ | refine ct_region rfl ?_ | refine ct_skip ?_ | refine ct_label ?_ | refine ct_block ?_ | refine ct_exit ?_ | refine ct_ret ?_ | refine ct_scope ?_ | refine ct_true rfl ?_ | refine ct_false rfl ?_ | refine lt_step ?_))
    exact re_2 (H' := H) rfl rfl rfl (by exact drop_auto) (hyes 22 (if_pos (by omega)))
  rw [if_neg (by omega)] at hno
  repeat (first | (first | refine rt_nil ?_ | (refine isRun ?_; first | refine x1 ?_ | refine x2 ?_ | refine x3 fun _ => ?_ | refine x4 fun _ => ?_ | refine x5 fun _ => ?_ | (refine rt_step rfl rfl rfl ?_; first | refine st_buildSlice rfl (zr rfl) rfl rfl rfl rfl rfl rfl fun _ => ?_ | refine st_A rfl rfl (fun _ => rfl) rfl fun _ => ?_) | refine x8 ?_ | refine rt_skip rfl rfl rfl ?_ | refine rt_skip0 rfl rfl ?_)) | (first | refine sq_n ?_ | refine sq_r ?_ | refine sq_e ?_ | refine bk_n ?_ | refine bk_r ?_ | refine bk_e rfl ?_ | refine bk_x rfl ?_ | refine ct_seq ?_ | refine ct_region rfl ?_ | refine ct_skip ?_ | refine ct_label ?_ | refine ct_block ?_ | refine ct_exit ?_ | refine ct_ret ?_ | refine ct_scope ?_ | refine ct_true rfl ?_ | refine ct_false rfl ?_ | refine lt_step ?_))
  refine ct_condT te_e rfl (fun hd => ?_) (fun hd => ?_)
  · repeat (first | (first | refine rt_nil ?_ | (refine isRun ?_; first | refine x1 ?_ | refine x2 ?_ | refine x3 fun _ => ?_ | refine x4 fun _ => ?_ | refine x5 fun _ => ?_ | (refine rt_step rfl rfl rfl ?_; first | refine st_buildSlice rfl (zr rfl) rfl rfl rfl rfl rfl rfl fun _ => ?_ | refine st_A rfl rfl (fun _ => rfl) rfl fun _ => ?_) | refine x8 ?_ | refine rt_skip rfl rfl rfl ?_ | refine rt_skip0 rfl rfl ?_)) | (first | refine sq_n ?_ | refine sq_r ?_ | refine sq_e ?_ | refine bk_n ?_ | refine bk_r ?_ | refine bk_e rfl ?_ | refine bk_x rfl ?_ | refine ct_seq ?_ | refine ct_region rfl ?_ | refine ct_skip ?_ | refine ct_label ?_ | refine ct_block ?_ | refine ct_exit ?_ | refine ct_ret ?_ | refine ct_scope ?_ | refine ct_true rfl ?_ | refine ct_false rfl ?_ | refine lt_step ?_))
    exact re_2 (H' := H) rfl rfl rfl (by exact drop_auto) (hyes 50 (by rw [if_neg (by omega), if_pos (by omega)]))
  rw [if_neg (by omega)] at hno
  repeat (first | (first | refine rt_nil ?_ | (refine isRun ?_; first | refine x1 ?_ | refine x2 ?_ | refine x3 fun _ => ?_ | refine x4 fun _ => ?_ | refine x5 fun _ => ?_ | (refine rt_step rfl rfl rfl ?_; first | refine st_buildSlice rfl (zr rfl) rfl rfl rfl rfl rfl rfl fun _ => ?_ | refine st_A rfl rfl (fun _ => rfl) rfl fun _ => ?_) | refine x8 ?_ | refine rt_skip rfl rfl rfl ?_ | refine rt_skip0 rfl rfl ?_)) | (first | refine sq_n ?_ | refine sq_r ?_ | refine sq_e ?_ | refine bk_n ?_ | refine bk_r ?_ | refine bk_e rfl ?_ | refine bk_x rfl ?_ | refine ct_seq ?_ | refine ct_region rfl ?_ | refine ct_skip ?_ | refine ct_label ?_ | refine ct_block ?_ | refine ct_exit ?_ | refine ct_ret ?_ | refine ct_scope ?_ | refine ct_true rfl ?_ | refine ct_false rfl ?_ | refine lt_step ?_))
  refine ct_condT te_e rfl (fun he => ?_) (fun he => ?_)
  · have hy2 : ∀ z : Nat, some (if 34 ≤ L.length ∧ ported (num (sub L 23 1)) = true then 50 else 42) = some z → Q (.tuple #[.int .i64 (z : Int), .bool true]) H := fun z hz => hyes z (by rw [if_neg (by omega), if_neg (by omega), if_pos (by omega)]; exact hz)
    repeat (first | (first | refine rt_nil ?_ | (refine isRun ?_; first | refine x1 ?_ | refine x2 ?_ | refine x3 fun _ => ?_ | refine x4 fun _ => ?_ | refine x5 fun _ => ?_ | (refine rt_step rfl rfl rfl ?_; first | refine st_buildSlice rfl (zr rfl) rfl rfl rfl rfl rfl rfl fun _ => ?_ | refine st_A rfl rfl (fun _ => rfl) rfl fun _ => ?_) | refine x8 ?_ | refine rt_skip rfl rfl rfl ?_ | refine rt_skip0 rfl rfl ?_)) | (first | refine sq_n ?_ | refine sq_r ?_ | refine sq_e ?_ | refine bk_n ?_ | refine bk_r ?_ | refine bk_e rfl ?_ | refine bk_x rfl ?_ | refine ct_seq ?_ | refine ct_region rfl ?_ | refine ct_skip ?_ | refine ct_label ?_ | refine ct_block ?_ | refine ct_exit ?_ | refine ct_ret ?_ | refine ct_scope ?_ | refine ct_true rfl ?_ | refine ct_false rfl ?_ | refine lt_step ?_))
    refine isRun ?_
    refine z1 (fun hf => ?_) (fun hf => ?_)
    · obtain ⟨x, hx⟩ : ∃ x, L[23]? = some x := ⟨_, List.getElem?_eq_getElem (by omega)⟩
      have hyx := getY hy hx
      unfold isY at hyx
      rw [num_sub1 hx, Int.toNat_of_nonneg hyx.1] at hy2
      obtain ⟨b1, o1, rfl, hL0⟩ := (ha.arr encY_len).ld1 5 hx rfl rfl (sz rfl)
      repeat (first | (first | refine rt_nil ?_ | (refine isRun ?_; first | refine x1 ?_ | refine x2 ?_ | refine x3 fun _ => ?_ | refine x4 fun _ => ?_ | refine x5 fun _ => ?_ | (refine rt_step rfl rfl rfl ?_; first | refine st_buildSlice rfl (zr rfl) rfl rfl rfl rfl rfl rfl fun _ => ?_ | refine st_A rfl rfl (fun _ => rfl) rfl fun _ => ?_) | refine x8 ?_ | refine rt_skip rfl rfl rfl ?_ | refine rt_skip0 rfl rfl ?_)) | (first | refine sq_n ?_ | refine sq_r ?_ | refine sq_e ?_ | refine bk_n ?_ | refine bk_r ?_ | refine bk_e rfl ?_ | refine bk_x rfl ?_ | refine ct_seq ?_ | refine ct_region rfl ?_ | refine ct_skip ?_ | refine ct_label ?_ | refine ct_block ?_ | refine ct_exit ?_ | refine ct_ret ?_ | refine ct_scope ?_ | refine ct_true rfl ?_ | refine ct_false rfl ?_ | refine lt_step ?_))
      rw [i64_i (by omega)]
      refine rt_step rfl rfl rfl (st_call rfl rfl rfl rfl (ported59_ct x ?_))
      cases hp : ported x with
      | true =>
        repeat (first | (first | refine rt_nil ?_ | (refine isRun ?_; first | refine x1 ?_ | refine x2 ?_ | refine x3 fun _ => ?_ | refine x4 fun _ => ?_ | refine x5 fun _ => ?_ | (refine rt_step rfl rfl rfl ?_; first | refine st_buildSlice rfl (zr rfl) rfl rfl rfl rfl rfl rfl fun _ => ?_ | refine st_A rfl rfl (fun _ => rfl) rfl fun _ => ?_) | refine x8 ?_ | refine rt_skip rfl rfl rfl ?_ | refine rt_skip0 rfl rfl ?_)) | (first | refine sq_n ?_ | refine sq_r ?_ | refine sq_e ?_ | refine bk_n ?_ | refine bk_r ?_ | refine bk_e rfl ?_ | refine bk_x rfl ?_ | refine ct_seq ?_ | refine ct_region rfl ?_ | refine ct_skip ?_ | refine ct_label ?_ | refine ct_block ?_ | refine ct_exit ?_ | refine ct_ret ?_ | refine ct_scope ?_ | refine ct_true rfl ?_ | refine ct_false rfl ?_ | refine lt_step ?_))
        exact re_2 (H' := H) rfl rfl rfl (by exact drop_auto) (hy2 50 (by rw [if_pos ⟨by omega, hp⟩]))
      | false =>
        repeat (first | (first | refine rt_nil ?_ | (refine isRun ?_; first | refine x1 ?_ | refine x2 ?_ | refine x3 fun _ => ?_ | refine x4 fun _ => ?_ | refine x5 fun _ => ?_ | (refine rt_step rfl rfl rfl ?_; first | refine st_buildSlice rfl (zr rfl) rfl rfl rfl rfl rfl rfl fun _ => ?_ | refine st_A rfl rfl (fun _ => rfl) rfl fun _ => ?_) | refine x8 ?_ | refine rt_skip rfl rfl rfl ?_ | refine rt_skip0 rfl rfl ?_)) | (first | refine sq_n ?_ | refine sq_r ?_ | refine sq_e ?_ | refine bk_n ?_ | refine bk_r ?_ | refine bk_e rfl ?_ | refine bk_x rfl ?_ | refine ct_seq ?_ | refine ct_region rfl ?_ | refine ct_skip ?_ | refine ct_label ?_ | refine ct_block ?_ | refine ct_exit ?_ | refine ct_ret ?_ | refine ct_scope ?_ | refine ct_true rfl ?_ | refine ct_false rfl ?_ | refine lt_step ?_))
        exact re_2 (H' := H) rfl rfl rfl (by exact drop_auto) (hy2 42 (by rw [if_neg (fun h => by rw [hp] at h; cases h.2)]))
    · repeat (first | (first | refine rt_nil ?_ | (refine isRun ?_; first | refine x1 ?_ | refine x2 ?_ | refine x3 fun _ => ?_ | refine x4 fun _ => ?_ | refine x5 fun _ => ?_ | (refine rt_step rfl rfl rfl ?_; first | refine st_buildSlice rfl (zr rfl) rfl rfl rfl rfl rfl rfl fun _ => ?_ | refine st_A rfl rfl (fun _ => rfl) rfl fun _ => ?_) | refine x8 ?_ | refine rt_skip rfl rfl rfl ?_ | refine rt_skip0 rfl rfl ?_)) | (first | refine sq_n ?_ | refine sq_r ?_ | refine sq_e ?_ | refine bk_n ?_ | refine bk_r ?_ | refine bk_e rfl ?_ | refine bk_x rfl ?_ | refine ct_seq ?_ | refine ct_region rfl ?_ | refine ct_skip ?_ | refine ct_label ?_ | refine ct_block ?_ | refine ct_exit ?_ | refine ct_ret ?_ | refine ct_scope ?_ | refine ct_true rfl ?_ | refine ct_false rfl ?_ | refine lt_step ?_))
      exact re_2 (H' := H) rfl rfl rfl (by exact drop_auto) (hy2 42 (by rw [if_neg (fun h => by omega)]))
  · rw [if_neg (by omega)] at hno
    repeat (first | (first | refine rt_nil ?_ | (refine isRun ?_; first | refine x1 ?_ | refine x2 ?_ | refine x3 fun _ => ?_ | refine x4 fun _ => ?_ | refine x5 fun _ => ?_ | (refine rt_step rfl rfl rfl ?_; first | refine st_buildSlice rfl (zr rfl) rfl rfl rfl rfl rfl rfl fun _ => ?_ | refine st_A rfl rfl (fun _ => rfl) rfl fun _ => ?_) | refine x8 ?_ | refine rt_skip rfl rfl rfl ?_ | refine rt_skip0 rfl rfl ?_)) | (first | refine sq_n ?_ | refine sq_r ?_ | refine sq_e ?_ | refine bk_n ?_ | refine bk_r ?_ | refine bk_e rfl ?_ | refine bk_x rfl ?_ | refine ct_seq ?_ | refine ct_region rfl ?_ | refine ct_skip ?_ | refine ct_label ?_ | refine ct_block ?_ | refine ct_exit ?_ | refine ct_ret ?_ | refine ct_scope ?_ | refine ct_true rfl ?_ | refine ct_false rfl ?_ | refine lt_step ?_))
    exact re_2 (H' := H) rfl rfl rfl (by exact drop_auto) (hno rfl)
end
end Go.Proofs.Ytjdppdoakbojcaa.Abs

/- Contracts: frames are decoded, read. -/
namespace Go.Proofs.Ytjdppdoakbojcaa.Abs
open Go
set_option linter.unusedVariables false
theorem sub_sub {L : List Int} {a N i k : Nat} (h : i + k ≤ N) : sub (sub L a N) i k = sub L (a + i) k := by
  unfold sub
  rw [List.drop_take, List.drop_drop, List.take_take, Nat.min_eq_left (by omega)]
theorem sub_get {L : List Int} {a N i : Nat} (h : i < N) : (sub L a N)[i]? = L[a + i]? := by
  unfold sub
  rw [List.getElem?_take_of_lt h, List.getElem?_drop]
theorem ArrW.ldA {C : Ctx} {H : Hp} {P : List Int} {b o : Nat} (h : ArrW C H (some ⟨b, o, none⟩) 1 encY P) (t : TypeId) (hne : P ≠ []) (hg : aggAt C t = some true) (hn : sizeAt C t = some P.length) : ∀ H', H.Sublist H' → LdT C t H' b o (.agg ⟨P.flatMap encY⟩) := by
  intro H' hs
  obtain ⟨b', o', cs, e, hr, hc⟩ := h.els hne
  cases e
  rw [Nat.mul_one] at hc
  exact ldP (hr.weak hs) hg hn hc
theorem pkS_cases {L : List Int} (h : pkS L = some L.length) : (num (sub L 12 2) = 34997 ∧ L.length = 22) ∨ (num (sub L 12 2) = 2054 ∧ L.length = 50) ∨ (num (sub L 12 2) = 2048 ∧ (L.length = 42 ∨ L.length = 50)) := by
  unfold pkS at h
  split at h
  · rename_i g; exact .inl ⟨g, (Option.some.inj h).symm⟩
  split at h
  · rename_i g; exact .inr (.inl ⟨g, (Option.some.inj h).symm⟩)
  split at h
  · rename_i g
    have := Option.some.inj h
    refine .inr (.inr ⟨g, ?_⟩)
    split at this <;> omega
  · cases h
section
variable {B0 : Nat} {old : Nat → Option (List Value)} {n : Nat} {H : Hp} {Q : Value → Hp → Prop} {L : List Int} {bv : Value}
set_option maxRecDepth 10000
set_option maxHeartbeats 4000000
theorem dec102_ct (h : CutV (cx B0 old) H encY 1 L bv) (hy : ∀ y ∈ L, isY y) (hz : pkS L = some L.length) (hQ : Q (.agg ⟨en31 (pkD L)⟩) H) :
    CallT (cx B0 old) (acall (cx B0 old) ansP (n + 3)) 102 [bv] H Q := by
  have hc := pkS_cases hz
  have hl1 : 22 ≤ L.length := by omega
  have hl2 : L.length ≤ 50 := by omega
  obtain ⟨v1, e1, g1⟩ := h.part encY_len (t := 34) (e := 5) (lo := none) (hi := some (.int .i64 6)) 0 6 rfl (sz rfl) (by omega) (by omega) (.inr ⟨rfl, rfl⟩) (.inl rfl)
  obtain ⟨v2, e2, g2⟩ := h.part encY_len (t := 34) (e := 5) (lo := some (.int .i64 6)) (hi := some (.int .i64 12)) 6 12 rfl (sz rfl) (by omega) (by omega) (.inl rfl) (.inl rfl)
  have hn8 : (some (Value.int .i64 ((L.length : Int) - 8))).bind natOf = some (L.length - 8) := by
    simp only [Option.bind_some, natOf]
    rw [if_pos (by omega)]
    congr 1
    omega
  obtain ⟨v3, e3, g3⟩ := h.part encY_len (t := 34) (e := 5) (lo := some (.int .i64 ((L.length : Int) - 8))) (hi := none) (L.length - 8) L.length rfl (sz rfl) (by omega) (by omega) (.inl hn8) (.inr ⟨rfl, rfl⟩)
  obtain ⟨v4, e4, g4⟩ := h.part encY_len (t := 34) (e := 5) (lo := some (.int .i64 14)) (hi := some (.int .i64 ((L.length : Int) - 8))) 14 (L.length - 8) rfl (sz rfl) (by omega) (by omega) (.inl rfl) (.inl hn8)
  obtain ⟨ad1, c1, rfl, w1, _⟩ := g1.arr
  obtain ⟨ad2, c2, rfl, w2, _⟩ := g2.arr
  obtain ⟨ad3, c3, rfl, w3, _⟩ := g3.arr
  have t3 : (L.drop (L.length - 8)).take (L.length - (L.length - 8)) = sub L (L.length - 8) 8 := by unfold sub; rw [show L.length - (L.length - 8) = 8 by omega]
  rw [t3] at e3 w3
  have t1 : (L.drop 0).take (6 - 0) = sub L 0 6 := rfl
  have t2 : (L.drop 6).take (12 - 6) = sub L 6 6 := rfl
  rw [t1] at e1 w1
  rw [t2] at e2 w2
  have t4 : (L.drop 14).take (L.length - 8 - 14) = sub L 14 (L.length - 22) := by unfold sub; rw [show L.length - 8 - 14 = L.length - 22 by omega]
  rw [t4] at g4
  have l1 : (sub L 0 6).length = 6 := sub_len (by omega)
  have l2 : (sub L 6 6).length = 6 := sub_len (by omega)
  have l3 : (sub L (L.length - 8) 8).length = 8 := sub_len (by omega)
  have l4 : (sub L 14 (L.length - 22)).length = L.length - 22 := sub_len (by omega)
  have hcuts := h.cuts encY_len
  obtain ⟨ad, c, rfl, ha, _⟩ := h.arr
  refine call_in1 60 rfl Try.func102 rfl rfl ?_
  repeat (first | (first | refine rt_nil ?_ | (refine isRun ?_; first | refine x1 ?_ | refine x2 ?_ | refine x3 fun _ => ?_ | refine x4 fun _ => ?_ | refine x5 fun _ => ?_ | (refine rt_step rfl rfl rfl ?_; first | refine st_buildSlice rfl (zr rfl) rfl rfl rfl rfl rfl rfl fun _ => ?_ | refine st_A rfl rfl (fun _ => rfl) rfl fun _ => ?_) | refine x8 ?_ | refine rt_skip rfl rfl rfl ?_ | refine rt_skip0 rfl rfl ?_)) | (first | refine sq_n ?_ | refine sq_r ?_ | refine sq_e ?_ | refine bk_n ?_ | refine bk_r ?_ | refine bk_e rfl ?_ | refine bk_x rfl ?_ | refine ct_seq ?_ | refine ct_region rfl ?_ | refine ct_skip ?_ | refine ct_label ?_ | refine ct_block ?_ | refine ct_exit ?_ | refine ct_ret ?_ | refine ct_scope ?_ | refine ct_true rfl ?_ | refine ct_false rfl ?_ | refine lt_step ?_))
  rename_i bt2
  refine ct_draw (masks := [0, 1, 3, 0, 8, 31, 0, 0, 128, 384, 960, 2047, 4095, 0, 16383]) (plan := [0, 1, 3, 4, 6, 7, 8, 9, 10, 2, 5, 11, 12, 13, 14]) (E := [13]) (by kernel_rfl) (by kernel_rfl) (by kernel_rfl) (by kernel_rfl) ?_
  repeat (first | refine pl_nil ?_ | (refine isPlan ?_; first | refine y1 ?_ | refine y2 ?_ | refine pl_skip rfl rfl rfl rfl rfl ?_ | refine pl_skip0 rfl rfl rfl rfl ?_))
  refine pl_p rfl rfl rfl rfl rfl rfl (p_slc rfl rfl rfl e1) ?_
  repeat (first | refine pl_nil ?_ | (refine isPlan ?_; first | refine y1 ?_ | refine y2 ?_ | refine pl_skip rfl rfl rfl rfl rfl ?_ | refine pl_skip0 rfl rfl rfl rfl ?_))
  refine pl_p rfl rfl rfl rfl rfl rfl (p_slc rfl rfl rfl e2) ?_
  repeat (first | refine pl_nil ?_ | (refine isPlan ?_; first | refine y1 ?_ | refine y2 ?_ | refine pl_skip rfl rfl rfl rfl rfl ?_ | refine pl_skip0 rfl rfl rfl rfl ?_))
  refine pl_p rfl rfl rfl rfl rfl rfl (p_slc rfl rfl rfl e3) ?_
  repeat (first | refine pl_nil ?_ | (refine isPlan ?_; first | refine y1 ?_ | refine y2 ?_ | refine pl_skip rfl rfl rfl rfl rfl ?_ | refine pl_skip0 rfl rfl rfl rfl ?_))
  refine pl_S' (late_has 13 rfl (made_alloc rfl rfl (zr rfl))) rfl rfl rfl rfl rfl rfl (st_call rfl rfl rfl rfl (num132_ct (L := sub L 0 6) rfl ((w1.arr encY_len).weak (by exact drop_auto)) (sub_Y hy _ _) (by omega) ⟨by exact rec_auto, ?_⟩))
  repeat (first | refine pl_nil ?_ | (refine isPlan ?_; first | refine y1 ?_ | refine y2 ?_ | refine pl_skip rfl rfl rfl rfl rfl ?_ | refine pl_skip0 rfl rfl rfl rfl ?_))
  refine pl_S' (late_has 13 rfl (made_alloc rfl rfl (zr rfl))) rfl rfl rfl rfl rfl rfl (st_call rfl rfl rfl rfl (num132_ct (L := sub L 6 6) rfl ((w2.arr encY_len).weak (by exact drop_auto)) (sub_Y hy _ _) (by omega) ⟨by exact rec_auto, ?_⟩))
  repeat (first | refine pl_nil ?_ | (refine isPlan ?_; first | refine y1 ?_ | refine y2 ?_ | refine pl_skip rfl rfl rfl rfl rfl ?_ | refine pl_skip0 rfl rfl rfl rfl ?_))
  refine pl_S' (late_has 13 rfl (made_alloc rfl rfl (zr rfl))) rfl rfl rfl rfl rfl rfl (st_call rfl rfl rfl rfl (num132_ct (L := sub L (L.length - 8) 8) rfl ((w3.arr encY_len).weak (by exact drop_auto)) (sub_Y hy _ _) (by omega) ⟨by exact rec_auto, ?_⟩))
  refine pl_p rfl rfl rfl rfl rfl rfl (p_buildS (r := [.int .u64 ((num (sub L 6 6) : Nat) : Int), .int .u64 ((num (sub L 0 6) : Nat) : Int), .int .i64 0, .int .i64 0, .int .u64 0, .int .u32 0, .int .u64 0, .int .u32 0, .int .u32 0, .int .u32 0, .int .i64 0, .int .i64 0, .int .i64 0, .int .i64 0, .int .u64 ((num (sub L (L.length - 8) 8) : Nat) : Int)]) rfl (zr rfl) rfl rfl rfl rfl) ?_
  refine pl_S' (late_has 13 rfl (made_alloc rfl rfl (zr rfl))) rfl rfl rfl rfl rfl rfl (st_alloc (zr rfl) fun b3 => ⟨by exact rec_auto, ?_⟩)
  repeat (first | refine pl_nil ?_ | (refine isPlan ?_; first | refine y1 ?_ | refine y2 ?_ | refine pl_skip rfl rfl rfl rfl rfl ?_ | refine pl_skip0 rfl rfl rfl rfl ?_))
  refine pl_st' (late_no rfl) rfl rfl rfl rfl rfl rfl rfl rfl (by repeat (first | exact sV (sz rfl) rfl rfl | exact sW (sz rfl) rfl rfl rfl | exact sF (sz rfl) rfl rfl rfl | exact sG (sz rfl) rfl rfl | exact sM (f := vV) (sz rfl) rfl rfl (by omega) | exact sM (sz rfl) rfl rfl (by omega) | apply sS | apply sA)) (by exact rec_auto) ?_
  repeat (first | refine pl_nil ?_ | (refine isPlan ?_; first | refine y1 ?_ | refine y2 ?_ | refine pl_skip rfl rfl rfl rfl rfl ?_ | refine pl_skip0 rfl rfl rfl rfl ?_))
  repeat (first | (first | refine rt_nil ?_ | (refine isRun ?_; first | refine x1 ?_ | refine x2 ?_ | refine x3 fun _ => ?_ | refine x4 fun _ => ?_ | refine x5 fun _ => ?_ | (refine rt_step rfl rfl rfl ?_; first | refine st_buildSlice rfl (zr rfl) rfl rfl rfl rfl rfl rfl fun _ => ?_ | refine st_A rfl rfl (fun _ => rfl) rfl fun _ => ?_) | refine x8 ?_ | refine rt_skip rfl rfl rfl ?_ | refine rt_skip0 rfl rfl ?_)) | (first | refine sq_n ?_ | refine sq_r ?_ | refine sq_e ?_ | refine bk_n ?_ | refine bk_r ?_ | refine bk_e rfl ?_ | refine bk_x rfl ?_ | refine ct_seq ?_ | refine ct_region rfl ?_ | refine ct_skip ?_ | refine ct_label ?_ | refine ct_block ?_ | refine ct_exit ?_ | refine ct_ret ?_ | refine ct_scope ?_ | refine ct_true rfl ?_ | refine ct_false rfl ?_ | refine lt_step ?_))
  apply rt_p rfl rfl rfl
  case hp => exact p_slc rfl rfl rfl e4
  repeat (first | (first | refine rt_nil ?_ | (refine isRun ?_; first | refine x1 ?_ | refine x2 ?_ | refine x3 fun _ => ?_ | refine x4 fun _ => ?_ | refine x5 fun _ => ?_ | (refine rt_step rfl rfl rfl ?_; first | refine st_buildSlice rfl (zr rfl) rfl rfl rfl rfl rfl rfl fun _ => ?_ | refine st_A rfl rfl (fun _ => rfl) rfl fun _ => ?_) | refine x8 ?_ | refine rt_skip rfl rfl rfl ?_ | refine rt_skip0 rfl rfl ?_)) | (first | refine sq_n ?_ | refine sq_r ?_ | refine sq_e ?_ | refine bk_n ?_ | refine bk_r ?_ | refine bk_e rfl ?_ | refine bk_x rfl ?_ | refine ct_seq ?_ | refine ct_region rfl ?_ | refine ct_skip ?_ | refine ct_label ?_ | refine ct_block ?_ | refine ct_exit ?_ | refine ct_ret ?_ | refine ct_scope ?_ | refine ct_true rfl ?_ | refine ct_false rfl ?_ | refine lt_step ?_))
  refine rt_step rfl rfl rfl (st_call rfl rfl rfl rfl (type131_ct (hcuts.weak (by exact drop_auto)) hy (by omega) ?_))
  repeat (first | (first | refine rt_nil ?_ | (refine isRun ?_; first | refine x1 ?_ | refine x2 ?_ | refine x3 fun _ => ?_ | refine x4 fun _ => ?_ | refine x5 fun _ => ?_ | (refine rt_step rfl rfl rfl ?_; first | refine st_buildSlice rfl (zr rfl) rfl rfl rfl rfl rfl rfl fun _ => ?_ | refine st_A rfl rfl (fun _ => rfl) rfl fun _ => ?_) | refine x8 ?_ | refine rt_skip rfl rfl rfl ?_ | refine rt_skip0 rfl rfl ?_)) | (first | refine sq_n ?_ | refine sq_r ?_ | refine sq_e ?_ | refine bk_n ?_ | refine bk_r ?_ | refine bk_e rfl ?_ | refine bk_x rfl ?_ | refine ct_seq ?_ | refine ct_region rfl ?_ | refine ct_skip ?_ | refine ct_label ?_ | refine ct_block ?_ | refine ct_exit ?_ | refine ct_ret ?_ | refine ct_scope ?_ | refine ct_true rfl ?_ | refine ct_false rfl ?_ | refine lt_step ?_))
  refine ct_condT te_e rfl (fun hd => ?_) (fun hd => ?_)
  · have ht : num (sub L 12 2) = 2054 := by omega
    have hl : L.length = 50 := by omega
    have l5 : (sub L 14 (L.length - 22)).length = 28 := by omega
    obtain ⟨a4, c4, rfl, w4, _⟩ := g4.arr
    have hne : sub L 14 (L.length - 22) ≠ [] := fun e => by rw [e] at l5; cases l5
    obtain ⟨b4, o4, cs4, rfl, _, _⟩ := w4.els hne
    have hL0 := w4.ldA 174 hne rfl (by rw [l5]; exact sz rfl)
    repeat (first | (first | refine rt_nil ?_ | (refine isRun ?_; first | refine x1 ?_ | refine x2 ?_ | refine x3 fun _ => ?_ | refine x4 fun _ => ?_ | refine x5 fun _ => ?_ | (refine rt_step rfl rfl rfl ?_; first | refine st_buildSlice rfl (zr rfl) rfl rfl rfl rfl rfl rfl fun _ => ?_ | refine st_A rfl rfl (fun _ => rfl) rfl fun _ => ?_) | refine x8 ?_ | refine rt_skip rfl rfl rfl ?_ | refine rt_skip0 rfl rfl ?_)) | (first | refine sq_n ?_ | refine sq_r ?_ | refine sq_e ?_ | refine bk_n ?_ | refine bk_r ?_ | refine bk_e rfl ?_ | refine bk_x rfl ?_ | refine ct_seq ?_ | refine ct_region rfl ?_ | refine ct_skip ?_ | refine ct_label ?_ | refine ct_block ?_ | refine ct_exit ?_ | refine ct_ret ?_ | refine ct_scope ?_ | refine ct_true rfl ?_ | refine ct_false rfl ?_ | refine lt_step ?_))
    apply rt_p rfl rfl rfl
    case hp => exact p_s2a rfl rfl (by omega)
    repeat (first | (first | refine rt_nil ?_ | (refine isRun ?_; first | refine x1 ?_ | refine x2 ?_ | refine x3 fun _ => ?_ | refine x4 fun _ => ?_ | refine x5 fun _ => ?_ | (refine rt_step rfl rfl rfl ?_; first | refine st_buildSlice rfl (zr rfl) rfl rfl rfl rfl rfl rfl fun _ => ?_ | refine st_A rfl rfl (fun _ => rfl) rfl fun _ => ?_) | refine x8 ?_ | refine rt_skip rfl rfl rfl ?_ | refine rt_skip0 rfl rfl ?_)) | (first | refine sq_n ?_ | refine sq_r ?_ | refine sq_e ?_ | refine bk_n ?_ | refine bk_r ?_ | refine bk_e rfl ?_ | refine bk_x rfl ?_ | refine ct_seq ?_ | refine ct_region rfl ?_ | refine ct_skip ?_ | refine ct_label ?_ | refine ct_block ?_ | refine ct_exit ?_ | refine ct_ret ?_ | refine ct_scope ?_ | refine ct_true rfl ?_ | refine ct_false rfl ?_ | refine lt_step ?_))
    refine rt_step rfl rfl rfl (st_call rfl rfl rfl rfl (arp133_ct l5 (sub_Y hy _ _) ?_))
    repeat (first | (first | refine rt_nil ?_ | (refine isRun ?_; first | refine x1 ?_ | refine x2 ?_ | refine x3 fun _ => ?_ | refine x4 fun _ => ?_ | refine x5 fun _ => ?_ | (refine rt_step rfl rfl rfl ?_; first | refine st_buildSlice rfl (zr rfl) rfl rfl rfl rfl rfl rfl fun _ => ?_ | refine st_A rfl rfl (fun _ => rfl) rfl fun _ => ?_) | refine x8 ?_ | refine rt_skip rfl rfl rfl ?_ | refine rt_skip0 rfl rfl ?_)) | (first | refine sq_n ?_ | refine sq_r ?_ | refine sq_e ?_ | refine bk_n ?_ | refine bk_r ?_ | refine bk_e rfl ?_ | refine bk_x rfl ?_ | refine ct_seq ?_ | refine ct_region rfl ?_ | refine ct_skip ?_ | refine ct_label ?_ | refine ct_block ?_ | refine ct_exit ?_ | refine ct_ret ?_ | refine ct_scope ?_ | refine ct_true rfl ?_ | refine ct_false rfl ?_ | refine lt_step ?_))
    have e : en31 (pkD L) = [.int .u64 ((num (sub L 6 6) : Nat) : Int), .int .u64 ((num (sub L 0 6) : Nat) : Int), .int .i64 1, .int .i64 ((num (sub (sub L 14 (L.length - 22)) 6 2) : Nat) : Int), .int .u64 ((num (sub (sub L 14 (L.length - 22)) 8 6) : Nat) : Int), .int .u32 ((num (sub (sub L 14 (L.length - 22)) 14 4) : Nat) : Int), .int .u64 ((num (sub (sub L 14 (L.length - 22)) 18 6) : Nat) : Int), .int .u32 ((num (sub (sub L 14 (L.length - 22)) 24 4) : Nat) : Int), .int .u32 0, .int .u32 0, .int .i64 0, .int .i64 0, .int .i64 0, .int .i64 0, .int .u64 ((num (sub L (L.length - 8) 8) : Nat) : Int)] := by
      rw [sub_sub (by omega), sub_sub (by omega), sub_sub (by omega), sub_sub (by omega), sub_sub (by omega)]
      unfold en31 pkD
      simp only [ht, if_true, show ¬ ((2054 : Nat) = 2048) by decide, if_false, false_and]
    rw [e] at hQ
    exact re_c1 rfl rfl (.own _ _ hm1) rfl (sz rfl) rfl (by exact drop_auto) hQ
  repeat (first | (first | refine rt_nil ?_ | (refine isRun ?_; first | refine x1 ?_ | refine x2 ?_ | refine x3 fun _ => ?_ | refine x4 fun _ => ?_ | refine x5 fun _ => ?_ | (refine rt_step rfl rfl rfl ?_; first | refine st_buildSlice rfl (zr rfl) rfl rfl rfl rfl rfl rfl fun _ => ?_ | refine st_A rfl rfl (fun _ => rfl) rfl fun _ => ?_) | refine x8 ?_ | refine rt_skip rfl rfl rfl ?_ | refine rt_skip0 rfl rfl ?_)) | (first | refine sq_n ?_ | refine sq_r ?_ | refine sq_e ?_ | refine bk_n ?_ | refine bk_r ?_ | refine bk_e rfl ?_ | refine bk_x rfl ?_ | refine ct_seq ?_ | refine ct_region rfl ?_ | refine ct_skip ?_ | refine ct_label ?_ | refine ct_block ?_ | refine ct_exit ?_ | refine ct_ret ?_ | refine ct_scope ?_ | refine ct_true rfl ?_ | refine ct_false rfl ?_ | refine lt_step ?_))
  refine ct_condT te_e rfl (fun he => ?_) (fun he => ?_)
  · have ht : num (sub L 12 2) = 2048 := by omega
    have hl : L.length = 42 ∨ L.length = 50 := by omega
    obtain ⟨v5, e5, g5⟩ := g4.part encY_len (t := 34) (e := 5) (lo := some (.int .i64 20)) (hi := none) 20 (L.length - 22) rfl (sz rfl) (by omega) (by omega) (.inl rfl) (.inr ⟨rfl, l4.symm⟩)
    have t5 : ((sub L 14 (L.length - 22)).drop 20).take (L.length - 22 - 20) = sub L 34 (L.length - 42) := by
      have := sub_sub (L := L) (a := 14) (N := L.length - 22) (i := 20) (k := L.length - 42) (by omega)
      rw [← this]
      unfold sub
      rw [show L.length - 22 - 20 = L.length - 42 by omega]
    rw [t5] at g5
    have l5 : (sub L 34 (L.length - 42)).length = L.length - 42 := sub_len (by omega)
    obtain ⟨a4, c4, rfl, w4, _⟩ := g4.arr
    have hne : sub L 14 (L.length - 22) ≠ [] := fun e => by rw [e] at l4; simp at l4; omega
    obtain ⟨b4, o4, cs4, rfl, _, _⟩ := w4.els hne
    have w20 := w4.part encY_len 0 20 (by omega)
    have t20 : ((sub L 14 (L.length - 22)).drop 0).take 20 = sub L 14 20 := sub_sub (L := L) (a := 14) (N := L.length - 22) (i := 0) (k := 20) (by omega)
    rw [t20, Nat.zero_mul, Nat.add_zero] at w20
    have l20 : (sub L 14 20).length = 20 := sub_len (by omega)
    have hL0 := w20.ldA 176 (fun e => by rw [e] at l20; cases l20) rfl (by rw [l20]; exact sz rfl)
    obtain ⟨p8, h8⟩ : ∃ x, L[22]? = some x := ⟨_, List.getElem?_eq_getElem (by omega)⟩
    obtain ⟨p9, h9⟩ : ∃ x, L[23]? = some x := ⟨_, List.getElem?_eq_getElem (by omega)⟩
    have y8 := getY hy h8
    have y9 := getY hy h9
    unfold isY at y8 y9
    have n8 : ((num (sub L 22 1) : Nat) : Int) = p8 := by rw [num_sub1 h8]; omega
    have n9 : ((num (sub L 23 1) : Nat) : Int) = p9 := by rw [num_sub1 h9]; omega
    repeat (first | (first | refine rt_nil ?_ | (refine isRun ?_; first | refine x1 ?_ | refine x2 ?_ | refine x3 fun _ => ?_ | refine x4 fun _ => ?_ | refine x5 fun _ => ?_ | (refine rt_step rfl rfl rfl ?_; first | refine st_buildSlice rfl (zr rfl) rfl rfl rfl rfl rfl rfl fun _ => ?_ | refine st_A rfl rfl (fun _ => rfl) rfl fun _ => ?_) | refine x8 ?_ | refine rt_skip rfl rfl rfl ?_ | refine rt_skip0 rfl rfl ?_)) | (first | refine sq_n ?_ | refine sq_r ?_ | refine sq_e ?_ | refine bk_n ?_ | refine bk_r ?_ | refine bk_e rfl ?_ | refine bk_x rfl ?_ | refine ct_seq ?_ | refine ct_region rfl ?_ | refine ct_skip ?_ | refine ct_label ?_ | refine ct_block ?_ | refine ct_exit ?_ | refine ct_ret ?_ | refine ct_scope ?_ | refine ct_true rfl ?_ | refine ct_false rfl ?_ | refine lt_step ?_))
    apply rt_p rfl rfl rfl
    case hp => exact p_s2a rfl rfl (by omega)
    repeat (first | (first | refine rt_nil ?_ | (refine isRun ?_; first | refine x1 ?_ | refine x2 ?_ | refine x3 fun _ => ?_ | refine x4 fun _ => ?_ | refine x5 fun _ => ?_ | (refine rt_step rfl rfl rfl ?_; first | refine st_buildSlice rfl (zr rfl) rfl rfl rfl rfl rfl rfl fun _ => ?_ | refine st_A rfl rfl (fun _ => rfl) rfl fun _ => ?_) | refine x8 ?_ | refine rt_skip rfl rfl rfl ?_ | refine rt_skip0 rfl rfl ?_)) | (first | refine sq_n ?_ | refine sq_r ?_ | refine sq_e ?_ | refine bk_n ?_ | refine bk_r ?_ | refine bk_e rfl ?_ | refine bk_x rfl ?_ | refine ct_seq ?_ | refine ct_region rfl ?_ | refine ct_skip ?_ | refine ct_label ?_ | refine ct_block ?_ | refine ct_exit ?_ | refine ct_ret ?_ | refine ct_scope ?_ | refine ct_true rfl ?_ | refine ct_false rfl ?_ | refine lt_step ?_))
    refine rt_step rfl rfl rfl (st_call rfl rfl rfl rfl (ip134_ct l20 (sub_Y hy _ _) (by rw [sub_get (by omega)]; exact h8) (by rw [sub_get (by omega)]; exact h9) ?_))
    have s1 : sub (sub L 14 20) 12 4 = sub L 26 4 := sub_sub (by omega)
    have s2 : sub (sub L 14 20) 16 4 = sub L 30 4 := sub_sub (by omega)
    rw [s1, s2]
    repeat (first | (first | refine rt_nil ?_ | (refine isRun ?_; first | refine x1 ?_ | refine x2 ?_ | refine x3 fun _ => ?_ | refine x4 fun _ => ?_ | refine x5 fun _ => ?_ | (refine rt_step rfl rfl rfl ?_; first | refine st_buildSlice rfl (zr rfl) rfl rfl rfl rfl rfl rfl fun _ => ?_ | refine st_A rfl rfl (fun _ => rfl) rfl fun _ => ?_) | refine x8 ?_ | refine rt_skip rfl rfl rfl ?_ | refine rt_skip0 rfl rfl ?_)) | (first | refine sq_n ?_ | refine sq_r ?_ | refine sq_e ?_ | refine bk_n ?_ | refine bk_r ?_ | refine bk_e rfl ?_ | refine bk_x rfl ?_ | refine ct_seq ?_ | refine ct_region rfl ?_ | refine ct_skip ?_ | refine ct_label ?_ | refine ct_block ?_ | refine ct_exit ?_ | refine ct_ret ?_ | refine ct_scope ?_ | refine ct_true rfl ?_ | refine ct_false rfl ?_ | refine lt_step ?_))
    apply rt_p rfl rfl rfl
    case hp => exact p_slc rfl rfl rfl e5
    obtain ⟨ad5, c5, e5', w5, _⟩ := g5.arr
    subst e5'
    repeat (first | (first | refine rt_nil ?_ | (refine isRun ?_; first | refine x1 ?_ | refine x2 ?_ | refine x3 fun _ => ?_ | refine x4 fun _ => ?_ | refine x5 fun _ => ?_ | (refine rt_step rfl rfl rfl ?_; first | refine st_buildSlice rfl (zr rfl) rfl rfl rfl rfl rfl rfl fun _ => ?_ | refine st_A rfl rfl (fun _ => rfl) rfl fun _ => ?_) | refine x8 ?_ | refine rt_skip rfl rfl rfl ?_ | refine rt_skip0 rfl rfl ?_)) | (first | refine sq_n ?_ | refine sq_r ?_ | refine sq_e ?_ | refine bk_n ?_ | refine bk_r ?_ | refine bk_e rfl ?_ | refine bk_x rfl ?_ | refine ct_seq ?_ | refine ct_region rfl ?_ | refine ct_skip ?_ | refine ct_label ?_ | refine ct_block ?_ | refine ct_exit ?_ | refine ct_ret ?_ | refine ct_scope ?_ | refine ct_true rfl ?_ | refine ct_false rfl ?_ | refine lt_step ?_))
    refine ct_condT te_d rfl (fun hf => ?_) (fun hf => ?_)
    · have hl5 : L.length = 50 := by omega
      obtain ⟨v6, e6, g6⟩ := g5.part encY_len (t := 34) (e := 5) (lo := none) (hi := some (.int .i64 2)) 0 2 rfl (sz rfl) (by omega) (by omega) (.inr ⟨rfl, rfl⟩) (.inl rfl)
      obtain ⟨v7, e7, g7⟩ := g5.part encY_len (t := 34) (e := 5) (lo := some (.int .i64 2)) (hi := some (.int .i64 4)) 2 4 rfl (sz rfl) (by omega) (by omega) (.inl rfl) (.inl rfl)
      have t6 : ((sub L 34 (L.length - 42)).drop 0).take (2 - 0) = sub L 34 2 := sub_sub (L := L) (a := 34) (N := L.length - 42) (i := 0) (k := 2) (by omega)
      have t7 : ((sub L 34 (L.length - 42)).drop 2).take (4 - 2) = sub L 36 2 := sub_sub (L := L) (a := 34) (N := L.length - 42) (i := 2) (k := 2) (by omega)
      rw [t6] at g6
      rw [t7] at g7
      obtain ⟨ad6, c6, rfl, w6, _⟩ := g6.arr
      obtain ⟨ad7, c7, rfl, w7, _⟩ := g7.arr
      have l6 : (sub L 34 2).length = 2 := sub_len (by omega)
      have l7 : (sub L 36 2).length = 2 := sub_len (by omega)
      have k6 := num_sub2 hy 34
      have k7 := num_sub2 hy 36
      repeat (first | (first | refine rt_nil ?_ | (refine isRun ?_; first | refine x1 ?_ | refine x2 ?_ | refine x3 fun _ => ?_ | refine x4 fun _ => ?_ | refine x5 fun _ => ?_ | (refine rt_step rfl rfl rfl ?_; first | refine st_buildSlice rfl (zr rfl) rfl rfl rfl rfl rfl rfl fun _ => ?_ | refine st_A rfl rfl (fun _ => rfl) rfl fun _ => ?_) | refine x8 ?_ | refine rt_skip rfl rfl rfl ?_ | refine rt_skip0 rfl rfl ?_)) | (first | refine sq_n ?_ | refine sq_r ?_ | refine sq_e ?_ | refine bk_n ?_ | refine bk_r ?_ | refine bk_e rfl ?_ | refine bk_x rfl ?_ | refine ct_seq ?_ | refine ct_region rfl ?_ | refine ct_skip ?_ | refine ct_label ?_ | refine ct_block ?_ | refine ct_exit ?_ | refine ct_ret ?_ | refine ct_scope ?_ | refine ct_true rfl ?_ | refine ct_false rfl ?_ | refine lt_step ?_))
      refine ct_draw (masks := [0, 1, 3, 7, 0, 16, 55, 119, 15, 271, 895, 2047, 4095, 8191]) (plan := [0, 1, 4, 5, 2, 3, 8, 9, 6, 7, 10, 11, 12, 13]) (E := []) (by kernel_rfl) (by kernel_rfl) (by kernel_rfl) (by kernel_rfl) ?_
      repeat (first | refine pl_nil ?_ | (refine isPlan ?_; first | refine y1 ?_ | refine y2 ?_ | refine pl_skip rfl rfl rfl rfl rfl ?_ | refine pl_skip0 rfl rfl rfl rfl ?_))
      refine pl_p rfl rfl rfl rfl rfl rfl (p_slc rfl rfl rfl e6) ?_
      repeat (first | refine pl_nil ?_ | (refine isPlan ?_; first | refine y1 ?_ | refine y2 ?_ | refine pl_skip rfl rfl rfl rfl rfl ?_ | refine pl_skip0 rfl rfl rfl rfl ?_))
      refine pl_p rfl rfl rfl rfl rfl rfl (p_slc rfl rfl rfl e7) ?_
      repeat (first | refine pl_nil ?_ | (refine isPlan ?_; first | refine y1 ?_ | refine y2 ?_ | refine pl_skip rfl rfl rfl rfl rfl ?_ | refine pl_skip0 rfl rfl rfl rfl ?_))
      refine pl_S rfl rfl rfl rfl rfl rfl (st_call rfl rfl rfl rfl (num132_ct (L := sub L 34 2) rfl ((w6.arr encY_len).weak (by exact drop_auto)) (sub_Y hy _ _) (by omega) ⟨by exact rec_auto, ?_⟩))
      repeat (first | refine pl_nil ?_ | (refine isPlan ?_; first | refine y1 ?_ | refine y2 ?_ | refine pl_skip rfl rfl rfl rfl rfl ?_ | refine pl_skip0 rfl rfl rfl rfl ?_))
      rw [i64_i (by omega)]
      refine pl_S rfl rfl rfl rfl rfl rfl (st_call rfl rfl rfl rfl (num132_ct (L := sub L 36 2) rfl ((w7.arr encY_len).weak (by exact drop_auto)) (sub_Y hy _ _) (by omega) ⟨by exact rec_auto, ?_⟩))
      repeat (first | refine pl_nil ?_ | (refine isPlan ?_; first | refine y1 ?_ | refine y2 ?_ | refine pl_skip rfl rfl rfl rfl rfl ?_ | refine pl_skip0 rfl rfl rfl rfl ?_))
      rw [i64_i (by omega)]
      repeat (first | refine pl_nil ?_ | (refine isPlan ?_; first | refine y1 ?_ | refine y2 ?_ | refine pl_skip rfl rfl rfl rfl rfl ?_ | refine pl_skip0 rfl rfl rfl rfl ?_))
      refine y3 ?_
      repeat (first | refine pl_nil ?_ | (refine isPlan ?_; first | refine y1 ?_ | refine y2 ?_ | refine pl_skip rfl rfl rfl rfl rfl ?_ | refine pl_skip0 rfl rfl rfl rfl ?_))
      refine y3 ?_
      repeat (first | refine pl_nil ?_ | (refine isPlan ?_; first | refine y1 ?_ | refine y2 ?_ | refine pl_skip rfl rfl rfl rfl rfl ?_ | refine pl_skip0 rfl rfl rfl rfl ?_))
      repeat (first | (first | refine rt_nil ?_ | (refine isRun ?_; first | refine x1 ?_ | refine x2 ?_ | refine x3 fun _ => ?_ | refine x4 fun _ => ?_ | refine x5 fun _ => ?_ | (refine rt_step rfl rfl rfl ?_; first | refine st_buildSlice rfl (zr rfl) rfl rfl rfl rfl rfl rfl fun _ => ?_ | refine st_A rfl rfl (fun _ => rfl) rfl fun _ => ?_) | refine x8 ?_ | refine rt_skip rfl rfl rfl ?_ | refine rt_skip0 rfl rfl ?_)) | (first | refine sq_n ?_ | refine sq_r ?_ | refine sq_e ?_ | refine bk_n ?_ | refine bk_r ?_ | refine bk_e rfl ?_ | refine bk_x rfl ?_ | refine ct_seq ?_ | refine ct_region rfl ?_ | refine ct_skip ?_ | refine ct_label ?_ | refine ct_block ?_ | refine ct_exit ?_ | refine ct_ret ?_ | refine ct_scope ?_ | refine ct_true rfl ?_ | refine ct_false rfl ?_ | refine lt_step ?_))
      have e : en31 (pkD L) = [.int .u64 ((num (sub L 6 6) : Nat) : Int), .int .u64 ((num (sub L 0 6) : Nat) : Int), .int .i64 2, .int .i64 0, .int .u64 0, .int .u32 0, .int .u64 0, .int .u32 0, .int .u32 ((num (sub L 26 4) : Nat) : Int), .int .u32 ((num (sub L 30 4) : Nat) : Int), .int .i64 p8, .int .i64 p9, .int .i64 ((num (sub L 34 2) : Nat) : Int), .int .i64 ((num (sub L 36 2) : Nat) : Int), .int .u64 ((num (sub L (L.length - 8) 8) : Nat) : Int)] := by
        unfold en31 pkD
        simp only [ht, hl5, n8, n9, if_true, show ¬ ((2048 : Nat) = 2054) by decide, if_false, and_self]
      rw [e] at hQ
      exact re_c1 rfl rfl (.own _ _ hm1) rfl (sz rfl) rfl (by exact drop_auto) hQ
    · have hl5 : L.length = 42 := by omega
      repeat (first | (first | refine rt_nil ?_ | (refine isRun ?_; first | refine x1 ?_ | refine x2 ?_ | refine x3 fun _ => ?_ | refine x4 fun _ => ?_ | refine x5 fun _ => ?_ | (refine rt_step rfl rfl rfl ?_; first | refine st_buildSlice rfl (zr rfl) rfl rfl rfl rfl rfl rfl fun _ => ?_ | refine st_A rfl rfl (fun _ => rfl) rfl fun _ => ?_) | refine x8 ?_ | refine rt_skip rfl rfl rfl ?_ | refine rt_skip0 rfl rfl ?_)) | (first | refine sq_n ?_ | refine sq_r ?_ | refine sq_e ?_ | refine bk_n ?_ | refine bk_r ?_ | refine bk_e rfl ?_ | refine bk_x rfl ?_ | refine ct_seq ?_ | refine ct_region rfl ?_ | refine ct_skip ?_ | refine ct_label ?_ | refine ct_block ?_ | refine ct_exit ?_ | refine ct_ret ?_ | refine ct_scope ?_ | refine ct_true rfl ?_ | refine ct_false rfl ?_ | refine lt_step ?_))
      have e : en31 (pkD L) = [.int .u64 ((num (sub L 6 6) : Nat) : Int), .int .u64 ((num (sub L 0 6) : Nat) : Int), .int .i64 2, .int .i64 0, .int .u64 0, .int .u32 0, .int .u64 0, .int .u32 0, .int .u32 ((num (sub L 26 4) : Nat) : Int), .int .u32 ((num (sub L 30 4) : Nat) : Int), .int .i64 p8, .int .i64 p9, .int .i64 0, .int .i64 0, .int .u64 ((num (sub L (L.length - 8) 8) : Nat) : Int)] := by
        unfold en31 pkD
        simp only [ht, hl5, n8, n9, if_true, show ¬ ((2048 : Nat) = 2054) by decide, show ¬ ((42 : Nat) = 50) by decide, if_false, and_false]
      rw [e] at hQ
      exact re_c1 rfl rfl (.own _ _ hm1) rfl (sz rfl) rfl (by exact drop_auto) hQ
  · have ht : num (sub L 12 2) = 34997 := by omega
    repeat (first | (first | refine rt_nil ?_ | (refine isRun ?_; first | refine x1 ?_ | refine x2 ?_ | refine x3 fun _ => ?_ | refine x4 fun _ => ?_ | refine x5 fun _ => ?_ | (refine rt_step rfl rfl rfl ?_; first | refine st_buildSlice rfl (zr rfl) rfl rfl rfl rfl rfl rfl fun _ => ?_ | refine st_A rfl rfl (fun _ => rfl) rfl fun _ => ?_) | refine x8 ?_ | refine rt_skip rfl rfl rfl ?_ | refine rt_skip0 rfl rfl ?_)) | (first | refine sq_n ?_ | refine sq_r ?_ | refine sq_e ?_ | refine bk_n ?_ | refine bk_r ?_ | refine bk_e rfl ?_ | refine bk_x rfl ?_ | refine ct_seq ?_ | refine ct_region rfl ?_ | refine ct_skip ?_ | refine ct_label ?_ | refine ct_block ?_ | refine ct_exit ?_ | refine ct_ret ?_ | refine ct_scope ?_ | refine ct_true rfl ?_ | refine ct_false rfl ?_ | refine lt_step ?_))
    have e : en31 (pkD L) = [.int .u64 ((num (sub L 6 6) : Nat) : Int), .int .u64 ((num (sub L 0 6) : Nat) : Int), .int .i64 0, .int .i64 0, .int .u64 0, .int .u32 0, .int .u64 0, .int .u32 0, .int .u32 0, .int .u32 0, .int .i64 0, .int .i64 0, .int .i64 0, .int .i64 0, .int .u64 ((num (sub L (L.length - 8) 8) : Nat) : Int)] := by
      unfold en31 pkD
      simp only [ht, show ¬ ((34997 : Nat) = 2054) by decide, show ¬ ((34997 : Nat) = 2048) by decide, if_false, false_and]
    rw [e] at hQ
    exact re_c1 rfl rfl (.own _ _ hm1) rfl (sz rfl) rfl (by exact drop_auto) hQ
end
end Go.Proofs.Ytjdppdoakbojcaa.Abs

/- Contracts: frames are read. -/
namespace Go.Proofs.Ytjdppdoakbojcaa.Abs
open Go
set_option linter.unusedVariables false
theorem num_subk {L : List Int} (h : ∀ y ∈ L, isY y) (i k : Nat) : num (sub L i k) < 256 ^ k := by
  have := num_lt (sub_Y h i k)
  have h2 : 256 ^ (sub L i k).length ≤ 256 ^ k := Nat.pow_le_pow_right (by decide) (sub_le L i k)
  omega
theorem pkD_wf {L : List Int} (h : ∀ y ∈ L, isY y) : (pkD L).wf := by
  have g0 := num_subk h 6 6
  have g1 := num_subk h 0 6
  have g3 := num_subk h 20 2
  have g4 := num_subk h 22 6
  have g5 := num_subk h 28 4
  have g6 := num_subk h 32 6
  have g7 := num_subk h 38 4
  have g8 := num_subk h 26 4
  have g9 := num_subk h 30 4
  have g10 := num_subk h 22 1
  have g11 := num_subk h 23 1
  have g12 := num_subk h 34 2
  have g13 := num_subk h 36 2
  have g14 := num_subk h (L.length - 8) 8
  unfold S31.wf pkD
  dsimp only
  refine ⟨by omega, by omega, ?_, ?_, ?_, ?_, ?_, ?_, ?_, ?_, ?_, ?_, ?_, ?_, by omega⟩
  · split
    · decide
    · split <;> decide
  all_goals (split <;> omega)
theorem pkB_Y (s : S31) : ∀ y ∈ pkB s, isY y := by
  unfold pkB
  refine app_Y (be_Y _ _) (app_Y (be_Y _ _) (app_Y (be_Y _ _) (app_Y ?_ (be_Y _ _))))
  unfold hdrB arpB ipB ipC
  split
  · exact app_Y (be_Y _ _) (app_Y (be_Y _ _) (app_Y (be_Y _ _) (app_Y (be_Y _ _) (app_Y (be_Y _ _) (app_Y (be_Y _ _) (app_Y (be_Y _ _) (be_Y _ _)))))))
  split
  · refine app_Y (ipH_Y _ _ _ _ _ _) ?_
    split
    · exact app_Y (be_Y _ _) (app_Y (be_Y _ _) (app_Y (be_Y _ _) (be_Y _ _)))
    · intro y hy; cases hy
  · intro y hy; cases hy
section
variable {B0 : Nat} {old : Nat → Option (List Value)} {n : Nat} {H : Hp} {Q : Value → Hp → Prop} {L : List Int} {bv : Value}
set_option maxRecDepth 10000
set_option maxHeartbeats 4000000
abbrev pkV (r : S31 × Int × Int) : Value := .tuple #[.agg ⟨en31 r.1⟩, .agg ⟨[.int .i64 r.2.1, .int .i64 r.2.2]⟩]
theorem read61_ct (h : CutV (cx B0 old) H encY 1 L bv) (hy : ∀ y ∈ L, isY y) (hl : L.length ≤ 100000) (hQ : Q (pkV (pkR L)) H) :
    CallT (cx B0 old) (acall (cx B0 old) ansP (n + 9)) 61 [bv] H Q := by
  have hcuts := h.cuts encY_len
  have h' := h
  obtain ⟨ad, c, rfl, ha, hne⟩ := h.arr
  refine call_in1 57 rfl Try.func61 rfl rfl ?_
  repeat (first | (first | refine rt_nil ?_ | (refine isRun ?_; first | refine x1 ?_ | refine x2 ?_ | refine x3 fun _ => ?_ | refine x4 fun _ => ?_ | refine x5 fun _ => ?_ | (refine rt_step rfl rfl rfl ?_; first | refine st_buildSlice rfl (zr rfl) rfl rfl rfl rfl rfl rfl fun _ => ?_ | refine st_A rfl rfl (fun _ => rfl) rfl fun _ => ?_) | refine x8 ?_ | refine rt_skip rfl rfl rfl ?_ | refine rt_skip0 rfl rfl ?_)) | (first | refine sq_n ?_ | refine sq_r ?_ | refine sq_e ?_ | refine bk_n ?_ | refine bk_r ?_ | refine bk_e rfl ?_ | refine bk_x rfl ?_ | refine ct_seq ?_ | refine ct_region rfl ?_ | refine ct_skip ?_ | refine ct_label ?_ | refine ct_block ?_ | refine ct_exit ?_ | refine ct_ret ?_ | refine ct_scope ?_ | refine ct_true rfl ?_ | refine ct_false rfl ?_ | refine lt_step ?_))
  refine ct_condT te_d rfl (fun hc => ?_) (fun hc => ?_)
  · have e : pkR L = (pkZ, 4, (L.length : Int)) := by unfold pkR; rw [if_pos (by omega)]
    rw [e] at hQ
    repeat (first | (first | refine rt_nil ?_ | (refine isRun ?_; first | refine x1 ?_ | refine x2 ?_ | refine x3 fun _ => ?_ | refine x4 fun _ => ?_ | refine x5 fun _ => ?_ | (refine rt_step rfl rfl rfl ?_; first | refine st_buildSlice rfl (zr rfl) rfl rfl rfl rfl rfl rfl fun _ => ?_ | refine st_A rfl rfl (fun _ => rfl) rfl fun _ => ?_) | refine x8 ?_ | refine rt_skip rfl rfl rfl ?_ | refine rt_skip0 rfl rfl ?_)) | (first | refine sq_n ?_ | refine sq_r ?_ | refine sq_e ?_ | refine bk_n ?_ | refine bk_r ?_ | refine bk_e rfl ?_ | refine bk_x rfl ?_ | refine ct_seq ?_ | refine ct_region rfl ?_ | refine ct_skip ?_ | refine ct_label ?_ | refine ct_block ?_ | refine ct_exit ?_ | refine ct_ret ?_ | refine ct_scope ?_ | refine ct_true rfl ?_ | refine ct_false rfl ?_ | refine lt_step ?_))
    exact re_r (by exact drop_auto) (res_cell rfl (.own _ _ hm1) rfl (sz rfl) rfl rfl (res_cell rfl (.own _ _ hm0) rfl (sz rfl) rfl rfl (res_nil hQ)))
  have h14 : 14 ≤ L.length := by omega
  repeat (first | (first | refine rt_nil ?_ | (refine isRun ?_; first | refine x1 ?_ | refine x2 ?_ | refine x3 fun _ => ?_ | refine x4 fun _ => ?_ | refine x5 fun _ => ?_ | (refine rt_step rfl rfl rfl ?_; first | refine st_buildSlice rfl (zr rfl) rfl rfl rfl rfl rfl rfl fun _ => ?_ | refine st_A rfl rfl (fun _ => rfl) rfl fun _ => ?_) | refine x8 ?_ | refine rt_skip rfl rfl rfl ?_ | refine rt_skip0 rfl rfl ?_)) | (first | refine sq_n ?_ | refine sq_r ?_ | refine sq_e ?_ | refine bk_n ?_ | refine bk_r ?_ | refine bk_e rfl ?_ | refine bk_x rfl ?_ | refine ct_seq ?_ | refine ct_region rfl ?_ | refine ct_skip ?_ | refine ct_label ?_ | refine ct_block ?_ | refine ct_exit ?_ | refine ct_ret ?_ | refine ct_scope ?_ | refine ct_true rfl ?_ | refine ct_false rfl ?_ | refine lt_step ?_))
  refine rt_step rfl rfl rfl (st_call rfl rfl rfl rfl (size101_ct (hcuts.weak (by exact drop_auto)) hy h14 hl (fun hs => ?_) (fun z hs => ?_)))
  · have e : pkR L = (pkZ, 6, 12) := by unfold pkR; rw [if_neg (by omega), hs]
    rw [e] at hQ
    repeat (first | (first | refine rt_nil ?_ | (refine isRun ?_; first | refine x1 ?_ | refine x2 ?_ | refine x3 fun _ => ?_ | refine x4 fun _ => ?_ | refine x5 fun _ => ?_ | (refine rt_step rfl rfl rfl ?_; first | refine st_buildSlice rfl (zr rfl) rfl rfl rfl rfl rfl rfl fun _ => ?_ | refine st_A rfl rfl (fun _ => rfl) rfl fun _ => ?_) | refine x8 ?_ | refine rt_skip rfl rfl rfl ?_ | refine rt_skip0 rfl rfl ?_)) | (first | refine sq_n ?_ | refine sq_r ?_ | refine sq_e ?_ | refine bk_n ?_ | refine bk_r ?_ | refine bk_e rfl ?_ | refine bk_x rfl ?_ | refine ct_seq ?_ | refine ct_region rfl ?_ | refine ct_skip ?_ | refine ct_label ?_ | refine ct_block ?_ | refine ct_exit ?_ | refine ct_ret ?_ | refine ct_scope ?_ | refine ct_true rfl ?_ | refine ct_false rfl ?_ | refine lt_step ?_))
    exact re_r (by exact drop_auto) (res_cell rfl (.own _ _ hm1) rfl (sz rfl) rfl rfl (res_cell rfl (.own _ _ hm0) rfl (sz rfl) rfl rfl (res_nil hQ)))
  have hz : z ≤ 50 := by
    unfold pkS at hs
    split at hs
    · cases hs; decide
    split at hs
    · cases hs; decide
    split at hs
    · cases hs; split <;> decide
    · cases hs
  repeat (first | (first | refine rt_nil ?_ | (refine isRun ?_; first | refine x1 ?_ | refine x2 ?_ | refine x3 fun _ => ?_ | refine x4 fun _ => ?_ | refine x5 fun _ => ?_ | (refine rt_step rfl rfl rfl ?_; first | refine st_buildSlice rfl (zr rfl) rfl rfl rfl rfl rfl rfl fun _ => ?_ | refine st_A rfl rfl (fun _ => rfl) rfl fun _ => ?_) | refine x8 ?_ | refine rt_skip rfl rfl rfl ?_ | refine rt_skip0 rfl rfl ?_)) | (first | refine sq_n ?_ | refine sq_r ?_ | refine sq_e ?_ | refine bk_n ?_ | refine bk_r ?_ | refine bk_e rfl ?_ | refine bk_x rfl ?_ | refine ct_seq ?_ | refine ct_region rfl ?_ | refine ct_skip ?_ | refine ct_label ?_ | refine ct_block ?_ | refine ct_exit ?_ | refine ct_ret ?_ | refine ct_scope ?_ | refine ct_true rfl ?_ | refine ct_false rfl ?_ | refine lt_step ?_))
  refine ct_condT te_d rfl (fun hc => ?_) (fun hc => ?_)
  · have e : pkR L = (pkZ, 4, (L.length : Int)) := by unfold pkR; rw [if_neg (by omega), hs]; simp only; rw [if_pos (by omega)]
    rw [e] at hQ
    repeat (first | (first | refine rt_nil ?_ | (refine isRun ?_; first | refine x1 ?_ | refine x2 ?_ | refine x3 fun _ => ?_ | refine x4 fun _ => ?_ | refine x5 fun _ => ?_ | (refine rt_step rfl rfl rfl ?_; first | refine st_buildSlice rfl (zr rfl) rfl rfl rfl rfl rfl rfl fun _ => ?_ | refine st_A rfl rfl (fun _ => rfl) rfl fun _ => ?_) | refine x8 ?_ | refine rt_skip rfl rfl rfl ?_ | refine rt_skip0 rfl rfl ?_)) | (first | refine sq_n ?_ | refine sq_r ?_ | refine sq_e ?_ | refine bk_n ?_ | refine bk_r ?_ | refine bk_e rfl ?_ | refine bk_x rfl ?_ | refine ct_seq ?_ | refine ct_region rfl ?_ | refine ct_skip ?_ | refine ct_label ?_ | refine ct_block ?_ | refine ct_exit ?_ | refine ct_ret ?_ | refine ct_scope ?_ | refine ct_true rfl ?_ | refine ct_false rfl ?_ | refine lt_step ?_))
    exact re_r (by exact drop_auto) (res_cell rfl (.own _ _ hm1) rfl (sz rfl) rfl rfl (res_cell rfl (.own _ _ hm0) rfl (sz rfl) rfl rfl (res_nil hQ)))
  repeat (first | (first | refine rt_nil ?_ | (refine isRun ?_; first | refine x1 ?_ | refine x2 ?_ | refine x3 fun _ => ?_ | refine x4 fun _ => ?_ | refine x5 fun _ => ?_ | (refine rt_step rfl rfl rfl ?_; first | refine st_buildSlice rfl (zr rfl) rfl rfl rfl rfl rfl rfl fun _ => ?_ | refine st_A rfl rfl (fun _ => rfl) rfl fun _ => ?_) | refine x8 ?_ | refine rt_skip rfl rfl rfl ?_ | refine rt_skip0 rfl rfl ?_)) | (first | refine sq_n ?_ | refine sq_r ?_ | refine sq_e ?_ | refine bk_n ?_ | refine bk_r ?_ | refine bk_e rfl ?_ | refine bk_x rfl ?_ | refine ct_seq ?_ | refine ct_region rfl ?_ | refine ct_skip ?_ | refine ct_label ?_ | refine ct_block ?_ | refine ct_exit ?_ | refine ct_ret ?_ | refine ct_scope ?_ | refine ct_true rfl ?_ | refine ct_false rfl ?_ | refine lt_step ?_))
  refine ct_condT te_d rfl (fun hd => ?_) (fun hd => ?_)
  · have e : pkR L = (pkZ, 5, (z : Int)) := by unfold pkR; rw [if_neg (by omega), hs]; simp only; rw [if_neg (by omega), if_pos (by omega)]
    rw [e] at hQ
    repeat (first | (first | refine rt_nil ?_ | (refine isRun ?_; first | refine x1 ?_ | refine x2 ?_ | refine x3 fun _ => ?_ | refine x4 fun _ => ?_ | refine x5 fun _ => ?_ | (refine rt_step rfl rfl rfl ?_; first | refine st_buildSlice rfl (zr rfl) rfl rfl rfl rfl rfl rfl fun _ => ?_ | refine st_A rfl rfl (fun _ => rfl) rfl fun _ => ?_) | refine x8 ?_ | refine rt_skip rfl rfl rfl ?_ | refine rt_skip0 rfl rfl ?_)) | (first | refine sq_n ?_ | refine sq_r ?_ | refine sq_e ?_ | refine bk_n ?_ | refine bk_r ?_ | refine bk_e rfl ?_ | refine bk_x rfl ?_ | refine ct_seq ?_ | refine ct_region rfl ?_ | refine ct_skip ?_ | refine ct_label ?_ | refine ct_block ?_ | refine ct_exit ?_ | refine ct_ret ?_ | refine ct_scope ?_ | refine ct_true rfl ?_ | refine ct_false rfl ?_ | refine lt_step ?_))
    exact re_r (by exact drop_auto) (res_cell rfl (.own _ _ hm1) rfl (sz rfl) rfl rfl (res_cell rfl (.own _ _ hm0) rfl (sz rfl) rfl rfl (res_nil hQ)))
  have hzl : z = L.length := by omega
  subst hzl
  have e : pkR L = if pkC (pkD L) = 0 ∧ pkB (pkD L) = L then (pkD L, 0, 0) else (pkZ, 3, 0) := by unfold pkR; rw [if_neg (by omega), hs]; simp only; rw [if_neg (by omega), if_neg (by omega)]
  rw [e] at hQ
  have hw := pkD_wf hy
  repeat (first | (first | refine rt_nil ?_ | (refine isRun ?_; first | refine x1 ?_ | refine x2 ?_ | refine x3 fun _ => ?_ | refine x4 fun _ => ?_ | refine x5 fun _ => ?_ | (refine rt_step rfl rfl rfl ?_; first | refine st_buildSlice rfl (zr rfl) rfl rfl rfl rfl rfl rfl fun _ => ?_ | refine st_A rfl rfl (fun _ => rfl) rfl fun _ => ?_) | refine x8 ?_ | refine rt_skip rfl rfl rfl ?_ | refine rt_skip0 rfl rfl ?_)) | (first | refine sq_n ?_ | refine sq_r ?_ | refine sq_e ?_ | refine bk_n ?_ | refine bk_r ?_ | refine bk_e rfl ?_ | refine bk_x rfl ?_ | refine ct_seq ?_ | refine ct_region rfl ?_ | refine ct_skip ?_ | refine ct_label ?_ | refine ct_block ?_ | refine ct_exit ?_ | refine ct_ret ?_ | refine ct_scope ?_ | refine ct_true rfl ?_ | refine ct_false rfl ?_ | refine lt_step ?_))
  refine rt_step rfl rfl rfl (st_call rfl rfl rfl rfl (dec102_ct (h'.weak (by exact drop_auto)) hy hs ?_))
  have hck : ∀ {H1 : Hp} {Θ : Value → Hp → Prop}, Θ (.int .i64 (pkC (pkD L))) H1 → CallT (cx B0 old) (acall (cx B0 old) ansP (n + 8)) 55 [.agg ⟨en31 (pkD L)⟩] H1 Θ := fun h => check55_ct _ hw h
  have henc : ∀ {H1 : Hp} {Θ : Value → Hp → Prop}, PkOk (pkD L) → (∀ v G, Own encY 1 (pkB (pkD L)) v G → Θ v (G ++ H1)) → CallT (cx B0 old) (acall (cx B0 old) ansP (n + 8)) 95 [.agg ⟨en31 (pkD L)⟩] H1 Θ := fun h1 h => enc95_ct _ hw h1 h
  have hYd := pkB_Y (pkD L)
  have hn14 := pkB_14 (pkD L)
  generalize pkD L = s at *
  unfold en31 at hck henc ⊢
  repeat (first | (first | refine rt_nil ?_ | (refine isRun ?_; first | refine x1 ?_ | refine x2 ?_ | refine x3 fun _ => ?_ | refine x4 fun _ => ?_ | refine x5 fun _ => ?_ | (refine rt_step rfl rfl rfl ?_; first | refine st_buildSlice rfl (zr rfl) rfl rfl rfl rfl rfl rfl fun _ => ?_ | refine st_A rfl rfl (fun _ => rfl) rfl fun _ => ?_) | refine x8 ?_ | refine rt_skip rfl rfl rfl ?_ | refine rt_skip0 rfl rfl ?_)) | (first | refine sq_n ?_ | refine sq_r ?_ | refine sq_e ?_ | refine bk_n ?_ | refine bk_r ?_ | refine bk_e rfl ?_ | refine bk_x rfl ?_ | refine ct_seq ?_ | refine ct_region rfl ?_ | refine ct_skip ?_ | refine ct_label ?_ | refine ct_block ?_ | refine ct_exit ?_ | refine ct_ret ?_ | refine ct_scope ?_ | refine ct_true rfl ?_ | refine ct_false rfl ?_ | refine lt_step ?_))
  refine rt_step rfl rfl rfl (st_call rfl rfl rfl rfl (hck ?_))
  repeat (first | (first | refine rt_nil ?_ | (refine isRun ?_; first | refine x1 ?_ | refine x2 ?_ | refine x3 fun _ => ?_ | refine x4 fun _ => ?_ | refine x5 fun _ => ?_ | (refine rt_step rfl rfl rfl ?_; first | refine st_buildSlice rfl (zr rfl) rfl rfl rfl rfl rfl rfl fun _ => ?_ | refine st_A rfl rfl (fun _ => rfl) rfl fun _ => ?_) | refine x8 ?_ | refine rt_skip rfl rfl rfl ?_ | refine rt_skip0 rfl rfl ?_)) | (first | refine sq_n ?_ | refine sq_r ?_ | refine sq_e ?_ | refine bk_n ?_ | refine bk_r ?_ | refine bk_e rfl ?_ | refine bk_x rfl ?_ | refine ct_seq ?_ | refine ct_region rfl ?_ | refine ct_skip ?_ | refine ct_label ?_ | refine ct_block ?_ | refine ct_exit ?_ | refine ct_ret ?_ | refine ct_scope ?_ | refine ct_true rfl ?_ | refine ct_false rfl ?_ | refine lt_step ?_))
  refine isRun ?_
  refine z1 (fun hf => ?_) (fun hf => ?_)
  · rw [if_neg (fun g => hf g.1)] at hQ
    repeat (first | (first | refine rt_nil ?_ | (refine isRun ?_; first | refine x1 ?_ | refine x2 ?_ | refine x3 fun _ => ?_ | refine x4 fun _ => ?_ | refine x5 fun _ => ?_ | (refine rt_step rfl rfl rfl ?_; first | refine st_buildSlice rfl (zr rfl) rfl rfl rfl rfl rfl rfl fun _ => ?_ | refine st_A rfl rfl (fun _ => rfl) rfl fun _ => ?_) | refine x8 ?_ | refine rt_skip rfl rfl rfl ?_ | refine rt_skip0 rfl rfl ?_)) | (first | refine sq_n ?_ | refine sq_r ?_ | refine sq_e ?_ | refine bk_n ?_ | refine bk_r ?_ | refine bk_e rfl ?_ | refine bk_x rfl ?_ | refine ct_seq ?_ | refine ct_region rfl ?_ | refine ct_skip ?_ | refine ct_label ?_ | refine ct_block ?_ | refine ct_exit ?_ | refine ct_ret ?_ | refine ct_scope ?_ | refine ct_true rfl ?_ | refine ct_false rfl ?_ | refine lt_step ?_))
    exact re_r (by exact drop_auto) (res_cell rfl (.own _ _ hm2) rfl (sz rfl) rfl rfl (res_cell rfl (.own _ _ hm1) rfl (sz rfl) rfl rfl (res_nil hQ)))
  repeat (first | (first | refine rt_nil ?_ | (refine isRun ?_; first | refine x1 ?_ | refine x2 ?_ | refine x3 fun _ => ?_ | refine x4 fun _ => ?_ | refine x5 fun _ => ?_ | (refine rt_step rfl rfl rfl ?_; first | refine st_buildSlice rfl (zr rfl) rfl rfl rfl rfl rfl rfl fun _ => ?_ | refine st_A rfl rfl (fun _ => rfl) rfl fun _ => ?_) | refine x8 ?_ | refine rt_skip rfl rfl rfl ?_ | refine rt_skip0 rfl rfl ?_)) | (first | refine sq_n ?_ | refine sq_r ?_ | refine sq_e ?_ | refine bk_n ?_ | refine bk_r ?_ | refine bk_e rfl ?_ | refine bk_x rfl ?_ | refine ct_seq ?_ | refine ct_region rfl ?_ | refine ct_skip ?_ | refine ct_label ?_ | refine ct_block ?_ | refine ct_exit ?_ | refine ct_ret ?_ | refine ct_scope ?_ | refine ct_true rfl ?_ | refine ct_false rfl ?_ | refine lt_step ?_))
  refine rt_step rfl rfl rfl (st_call rfl rfl rfl rfl (henc (pkC_ok.1 hf) fun v G ho => ?_))
  obtain ⟨a1, c1, rfl, g1⟩ := ho.arrW (C := cx B0 old) encY_len
  repeat (first | (first | refine rt_nil ?_ | (refine isRun ?_; first | refine x1 ?_ | refine x2 ?_ | refine x3 fun _ => ?_ | refine x4 fun _ => ?_ | refine x5 fun _ => ?_ | (refine rt_step rfl rfl rfl ?_; first | refine st_buildSlice rfl (zr rfl) rfl rfl rfl rfl rfl rfl fun _ => ?_ | refine st_A rfl rfl (fun _ => rfl) rfl fun _ => ?_) | refine x8 ?_ | refine rt_skip rfl rfl rfl ?_ | refine rt_skip0 rfl rfl ?_)) | (first | refine sq_n ?_ | refine sq_r ?_ | refine sq_e ?_ | refine bk_n ?_ | refine bk_r ?_ | refine bk_e rfl ?_ | refine bk_x rfl ?_ | refine ct_seq ?_ | refine ct_region rfl ?_ | refine ct_skip ?_ | refine ct_label ?_ | refine ct_block ?_ | refine ct_exit ?_ | refine ct_ret ?_ | refine ct_scope ?_ | refine ct_true rfl ?_ | refine ct_false rfl ?_ | refine lt_step ?_))
  have hLne : L ≠ [] := fun e => by rw [e] at h14; simp at h14
  refine rt_step rfl rfl rfl (st_call rfl rfl rfl rfl (eq70_ct (g1 [] _) (ha.weak (by exact drop_auto)) (.inl (fun e => by rw [e] at hn14; simp at hn14)) (.inl hLne) hYd hy ?_))
  refine RunT.weak ?_ (dr1 (List.Sublist.refl _))
  by_cases hE : pkB s = L
  · rw [if_pos ⟨hf, hE⟩] at hQ
    rw [decide_eq_true hE]
    repeat (first | (first | refine rt_nil ?_ | (refine isRun ?_; first | refine x1 ?_ | refine x2 ?_ | refine x3 fun _ => ?_ | refine x4 fun _ => ?_ | refine x5 fun _ => ?_ | (refine rt_step rfl rfl rfl ?_; first | refine st_buildSlice rfl (zr rfl) rfl rfl rfl rfl rfl rfl fun _ => ?_ | refine st_A rfl rfl (fun _ => rfl) rfl fun _ => ?_) | refine x8 ?_ | refine rt_skip rfl rfl rfl ?_ | refine rt_skip0 rfl rfl ?_)) | (first | refine sq_n ?_ | refine sq_r ?_ | refine sq_e ?_ | refine bk_n ?_ | refine bk_r ?_ | refine bk_e rfl ?_ | refine bk_x rfl ?_ | refine ct_seq ?_ | refine ct_region rfl ?_ | refine ct_skip ?_ | refine ct_label ?_ | refine ct_block ?_ | refine ct_exit ?_ | refine ct_ret ?_ | refine ct_scope ?_ | refine ct_true rfl ?_ | refine ct_false rfl ?_ | refine lt_step ?_))
    exact re_r (by exact drop_auto) (res_cell rfl (.own _ _ hm2) rfl (sz rfl) rfl rfl (res_cell rfl (.own _ _ hm1) rfl (sz rfl) rfl rfl (res_nil hQ)))
  · rw [if_neg (fun g => hE g.2)] at hQ
    rw [decide_eq_false hE]
    repeat (first | (first | refine rt_nil ?_ | (refine isRun ?_; first | refine x1 ?_ | refine x2 ?_ | refine x3 fun _ => ?_ | refine x4 fun _ => ?_ | refine x5 fun _ => ?_ | (refine rt_step rfl rfl rfl ?_; first | refine st_buildSlice rfl (zr rfl) rfl rfl rfl rfl rfl rfl fun _ => ?_ | refine st_A rfl rfl (fun _ => rfl) rfl fun _ => ?_) | refine x8 ?_ | refine rt_skip rfl rfl rfl ?_ | refine rt_skip0 rfl rfl ?_)) | (first | refine sq_n ?_ | refine sq_r ?_ | refine sq_e ?_ | refine bk_n ?_ | refine bk_r ?_ | refine bk_e rfl ?_ | refine bk_x rfl ?_ | refine ct_seq ?_ | refine ct_region rfl ?_ | refine ct_skip ?_ | refine ct_label ?_ | refine ct_block ?_ | refine ct_exit ?_ | refine ct_ret ?_ | refine ct_scope ?_ | refine ct_true rfl ?_ | refine ct_false rfl ?_ | refine lt_step ?_))
    exact re_r (by exact drop_auto) (res_cell rfl (.own _ _ hm2) rfl (sz rfl) rfl rfl (res_cell rfl (.own _ _ hm1) rfl (sz rfl) rfl rfl (res_nil hQ)))
end
end Go.Proofs.Ytjdppdoakbojcaa.Abs
