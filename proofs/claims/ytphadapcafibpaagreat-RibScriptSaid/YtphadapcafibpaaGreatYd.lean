/- The number of bits of a number; random numbers of the library's sort. -/
import Derived.Test.YtphadapcafibpaaGreatYg
import Derived.Test.YtphadapcafibpaaGreatYc
namespace Go.Proofs.YtphadapcafibpaaGreat.Abs
open Go
set_option linter.unusedVariables false
section
variable {B0 : Nat} {old : Nat → Option (List Value)} {n : Nat} {H Hs : Hp} {Q : Value → Hp → Prop}
set_option maxRecDepth 10000
set_option maxHeartbeats 4000000
theorem quoN (x d : Nat) (hx : x ≤ 1000000) : IntKind.i64.wrap ((x : Int).tdiv d) = ((x / d : Nat) : Int) := by
  have h1 : x / d ≤ x := Nat.div_le_self _ _
  have h2 : ((x : Int)).tdiv d = ((x / d : Nat) : Int) := rfl
  rw [h2]
  clear h2
  generalize x / d = y at *
  exact IntWalk.i64_in _ (by omega)
theorem andB (v : Int) (md : Nat) (h0 : 0 < md) (h1 : md ≤ 131072) : ∃ o : Nat, o < md ∧ IntKind.i64.wrap (IntKind.u64.wrap ((BitVec.ofInt IntKind.u64.bits v &&& BitVec.ofInt IntKind.u64.bits (IntKind.u64.wrap ((md : Int) - 1))).toNat : Nat)) = (o : Int) := by
  have hb : (BitVec.ofInt IntKind.u64.bits (IntKind.u64.wrap ((md : Int) - 1))).toNat = md - 1 := by
    rw [IntWalk.u64_in _ (by omega)]
    show (BitVec.ofInt 64 ((md : Int) - 1)).toNat = md - 1
    rw [BitVec.toNat_ofInt]
    omega
  refine ⟨(BitVec.ofInt IntKind.u64.bits v &&& BitVec.ofInt IntKind.u64.bits (IntKind.u64.wrap ((md : Int) - 1))).toNat, ?_, ?_⟩
  · rw [BitVec.toNat_and, hb]
    have := Nat.and_le_right (n := (BitVec.ofInt IntKind.u64.bits v).toNat) (m := md - 1)
    omega
  · have h2 : (BitVec.ofInt IntKind.u64.bits v &&& BitVec.ofInt IntKind.u64.bits (IntKind.u64.wrap ((md : Int) - 1))).toNat ≤ md - 1 := by
      rw [BitVec.toNat_and, hb]
      exact Nat.and_le_right
    generalize (BitVec.ofInt IntKind.u64.bits v &&& BitVec.ofInt IntKind.u64.bits (IntKind.u64.wrap ((md : Int) - 1))).toNat = y at *
    rw [IntWalk.u64_in _ (by omega), IntWalk.i64_in _ (by omega)]
theorem CallT.fuel {C : Ctx} {n m g : Nat} {args : List Value} {H : Hp} {Q : Value → Hp → Prop} (h : CallT C (acall C ansP n) g args H Q) (e : n = m) : CallT C (acall C ansP m) g args H Q := e ▸ h
/-- The number of bits of a byte. -/
def lenB (x : Nat) : Nat := if x < 1 then 0 else if x < 2 then 1 else if x < 4 then 2 else if x < 8 then 3 else if x < 16 then 4 else if x < 32 then 5 else if x < 64 then 6 else if x < 128 then 7 else 8
theorem lenB_le (x : Nat) (hx : x < 256) : lenB x ≤ 8 ∧ (x ≠ 0 → 2 ^ lenB x ≤ 2 * x) := by
  unfold lenB
  repeat' split
  all_goals refine ⟨by omega, fun _ => ?_⟩
  all_goals omega
def tabOk (s : ByteArray) : Bool := (List.range 256).all fun x => match s.data.toList[x]? with
  | some y => Nat.beq y.toNat (lenB x)
  | none => false
theorem p_lenTab {C : Ctx} {l : Sl} {t : TypeId} {x y : Operand} {s : ByteArray} {k : Nat} (hs : tabOk s = true) (hk : k < 256) (h : evalL l x = some (.string s)) (h2 : evalL l y = some (.int .u8 k)) (hu : C.P.underlying t = some .string) : PureT C (.index t x y) l (.int .u8 (lenB k)) := by
  have h3 := List.all_eq_true.1 hs k (List.mem_range.2 hk)
  split at h3
  · rename_i b hb
    have h3 := Nat.eq_of_beq_eq_true h3
    have hlt : k < s.data.size := by
      have := (List.getElem?_eq_some_iff.1 hb).1
      simpa using this
    have hget : s[k]? = some b := by
      have h4 : s.data.toList[k]? = some b := hb
      rw [Array.getElem?_toList] at h4
      rw [Array.getElem?_eq_getElem hlt] at h4
      have h5 : s[k]? = some (s.data[k]'hlt) := by
        show (if h : k < s.size then some (s.get k h) else none) = _
        rw [dif_pos (show k < s.size from hlt)]
        rfl
      rw [h5, h4]
    unfold PureT
    refine ⟨cov2 h h2, ?_⟩
    simp only [aP, aindex, rhoL_eq h, rhoL_eq h2, hu, natOf_nat, hget, h3]
  · cases h3
theorem len64_ct (x : Nat) (hx : x < 65536) (hQ : ∀ k : Nat, k ≤ 16 → (x ≠ 0 → 2 ^ k ≤ 2 * x) → Q (.int .i64 k) H) : CallT (cx B0 old) (acall (cx B0 old) ansP (n + 1)) 121 [.int .u64 x] H Q := by
  refine call_in1 25 rfl Tryz.func121 rfl rfl ?_
  repeat(refine ZX ?_;try intro _)
  refine ct_condT te_d rfl (fun h => ?_) (fun h => ?_)
  · exfalso; omega
  repeat(refine ZX ?_;try intro _)
  refine ct_condT te_d rfl (fun h => ?_) (fun h => ?_)
  · exfalso; omega
  repeat(refine ZX ?_;try intro _)
  refine ct_midE (ι := Nat × Nat) (fun i => i.1 < 256 ∧ (i.2 = 0 ∧ i.1 = x ∨ i.2 = 8 ∧ i.1 = x / 256 ∧ 256 ≤ x)) (fun i => [(0, .int .u64 (i.1 : Int)), (2, .int .i64 (i.2 : Int))]) (fun i => H) ?_ ?_
  · refine ct_condT te_d rfl (fun h => ?_) (fun h => ?_)
    · repeat(refine ZX ?_;try intro _)
      refine ⟨(x / 256, 8), ⟨by dsimp only; omega, .inr ⟨rfl, rfl, by omega⟩⟩, ?_, List.Sublist.refl _⟩
      refine SubL.consI (q := ((x : Int)).fdiv (2 ^ (min (8 : Int).toNat IntKind.u64.bits))) rfl ?_ ?_
      · rw [show (2 : Int) ^ (min (8 : Int).toNat IntKind.u64.bits) = 256 by decide]
        rw [Int.fdiv_eq_ediv_of_nonneg _ (by decide)]; rfl
      · repeat (first | exact SubL.nil | refine SubL.cons rfl ?_)
    · repeat(refine ZX ?_;try intro _)
      exact ⟨(x, 0), ⟨by dsimp only; omega, .inl ⟨rfl, rfl⟩⟩, by repeat (first | exact SubL.nil | refine SubL.cons rfl ?_), List.Sublist.refl _⟩
  rintro ⟨y, k⟩ ⟨h1, h2⟩
  dsimp only at h1 h2 ⊢
  obtain ⟨h3, h4⟩ := lenB_le y h1
  have hw : IntKind.u8.wrap (y : Int) = (y : Int) := IntWalk.u8_in _ (by omega)
  have hw2 : IntKind.i64.wrap ((lenB y : Nat) : Int) = ((lenB y : Nat) : Int) := IntWalk.i64_in _ (by omega)
  repeat(refine ZX ?_;try intro _)
  rw [hw]
  apply rt_p rfl rfl rfl
  case hp => exact p_lenTab (by kernel_rfl) h1 rfl rfl rfl
  repeat(refine ZX ?_;try intro _)
  rw [hw2]
  rw [show (k : Int) + ((lenB y : Nat) : Int) = ((k + lenB y : Nat) : Int) by omega]
  refine re_1 rfl rfl (List.Sublist.refl _) (hQ _ (by omega) fun hx0 => ?_)
  rcases h2 with ⟨rfl, rfl⟩ | ⟨rfl, rfl, h5⟩
  · rw [Nat.zero_add]; exact h4 hx0
  · have := h4 (by omega)
    rw [Nat.pow_add]
    omega
theorem len_ct (x : Nat) (hx : x < 65536) (hQ : ∀ k : Nat, k ≤ 16 → (x ≠ 0 → 2 ^ k ≤ 2 * x) → Q (.int .i64 k) H) : CallT (cx B0 old) (acall (cx B0 old) ansP (n + 2)) 95 [.int .u64 x] H Q := by
  refine call_in1 8 rfl Tryz.func95 rfl rfl ?_
  repeat(refine ZX ?_;try intro _)
  refine rt_step rfl rfl rfl (st_call rfl rfl rfl rfl (len64_ct x hx fun k h1 h2 => ?_))
  repeat(refine ZX ?_;try intro _)
  exact re_1 rfl rfl (List.Sublist.refl _) (hQ k h1 h2)
theorem npt_ct (x : Nat) (hx0 : x ≠ 0) (hx : x < 65536) (hQ : ∀ k : Nat, k ≤ 16 → 2 ^ k ≤ 2 * x → Q (.int .u64 ((2 ^ k : Nat) : Int)) H) : CallT (cx B0 old) (acall (cx B0 old) ansP (n + 3)) 134 [.int .i64 x] H Q := by
  refine call_in1 7 rfl Tryz.func134 rfl rfl ?_
  have hw : IntKind.u64.wrap (x : Int) = (x : Int) := IntWalk.u64_in _ (by omega)
  repeat(refine ZX ?_;try intro _)
  rw [hw]
  refine rt_step rfl rfl rfl (st_call rfl rfl rfl rfl (len_ct x hx fun k h1 h2 => ?_))
  apply rt_p rfl rfl rfl
  case hp => exact p_shl rfl rfl (by omega)
  have h3 : (2 : Nat) ^ k ≤ 131070 := by have := h2 hx0; omega
  have e : IntKind.u64.wrap (1 * 2 ^ (min (k : Int).toNat IntKind.u64.bits)) = ((2 ^ k : Nat) : Int) := by
    rw [show min (k : Int).toNat IntKind.u64.bits = k by show min k 64 = k; omega, Int.one_mul]
    have e2 : ((2 : Int) ^ k) = ((2 ^ k : Nat) : Int) := (Int.natCast_pow 2 k).symm
    rw [e2]
    clear e2
    generalize 2 ^ k = y at *
    exact IntWalk.u64_in _ (by omega)
  rw [e]
  repeat(refine ZX ?_;try intro _)
  exact re_1 rfl rfl (List.Sublist.refl _) (hQ k h1 (h2 hx0))
theorem Own.blk {α : Type} {en : α → List Value} {w : Nat} {L : List α} {v : Value} {Hs : Hp} (h : Own en w L v Hs) (hne : L ≠ []) : ∃ b c, v = .slice (some ⟨b, 0, none⟩) L.length c := by
  cases h with
  | nil => exact absurd rfl hne
  | emp b o => exact absurd rfl hne
  | el _ b es junk => exact ⟨_, _, rfl⟩
  | fix _ b es hL => exact ⟨_, _, rfl⟩
theorem p_xorL {C : Ctx} {l : Sl} {t yt : TypeId} {x y : Operand} {k : IntKind} {a b : Int} (h : evalL l x = some (.int k a)) (h2 : evalL l y = some (.int k b)) : PureT C (.binOp .xor t x y yt) l (.int k (k.wrap (BitVec.ofInt k.bits a ^^^ BitVec.ofInt k.bits b).toNat)) := by
  unfold PureT
  exact ⟨cov2 h h2, by simp only [aP, abin, isShift, aint, rhoL_eq h, rhoL_eq h2, if_true]⟩
theorem nxt_ct {sb : Nat} {s : Int} (hQ : ∀ (v : Int), Q (.int .u64 v) ((sb, .row [.int .u64 v] 1 false) :: H)) : CallT (cx B0 old) (acall (cx B0 old) ansP (n + 1)) 135 [.pointer (some ⟨sb, 0, none⟩)] ((sb, .row [.int .u64 s] 1 false) :: H) Q := by
  refine call_in1 33 rfl Tryz.func135 rfl rfl ?_
  repeat(refine ZX ?_;try intro _)
  refine ct_draw (masks := [0, 1, 3, 0, 8, 24, 56, 127, 255, 511]) (plan := [0, 1, 2, 3, 4, 5, 6, 7, 8, 9]) (E := []) (by kernel_rfl) (by kernel_rfl) (by kernel_rfl) (by kernel_rfl) ?_
  repeat refine YX ?_
  refine pl_p rfl rfl rfl rfl rfl rfl (p_xorL rfl rfl) ?_
  repeat refine YX ?_
  refine y3 ?_
  repeat refine YX ?_
  generalize IntKind.u64.wrap _ = s1
  repeat(refine ZX ?_;try intro _)
  refine ct_draw (masks := [0, 1, 3, 0, 8, 24, 56, 127, 255, 511]) (plan := [0, 1, 2, 3, 4, 5, 6, 7, 8, 9]) (E := []) (by kernel_rfl) (by kernel_rfl) (by kernel_rfl) (by kernel_rfl) ?_
  repeat refine YX ?_
  refine pl_p rfl rfl rfl rfl rfl rfl (p_xorL rfl rfl) ?_
  repeat refine YX ?_
  refine y3 ?_
  repeat refine YX ?_
  generalize IntKind.u64.wrap _ = s2
  repeat(refine ZX ?_;try intro _)
  refine ct_draw (masks := [0, 1, 3, 0, 8, 24, 56, 127, 255, 511]) (plan := [0, 1, 2, 3, 4, 5, 6, 7, 8, 9]) (E := []) (by kernel_rfl) (by kernel_rfl) (by kernel_rfl) (by kernel_rfl) ?_
  repeat refine YX ?_
  refine pl_p rfl rfl rfl rfl rfl rfl (p_xorL rfl rfl) ?_
  repeat refine YX ?_
  refine y3 ?_
  repeat refine YX ?_
  generalize IntKind.u64.wrap _ = s3
  repeat(refine ZX ?_;try intro _)
  exact re_1 rfl rfl (List.Sublist.refl _) (hQ _)
end
end Go.Proofs.YtphadapcafibpaaGreat.Abs

/- The library's insertion sort and heap sort. -/
namespace Go.Proofs.YtphadapcafibpaaGreat.Abs
open Go
set_option linter.unusedVariables false
section
variable {B0 : Nat} {old : Nat → Option (List Value)} {n : Nat} {H Hs : Hp} {Q : Value → Hp → Prop} {L : List Pk} {b c N a e : Nat} {f : Value}
set_option maxRecDepth 10000
set_option maxHeartbeats 4000000
theorem insP_ct (hc : CmpT (cx B0 old) enP rkP okP f) (ho : Own enP 22 L (.slice (some ⟨b, 0, none⟩) N c) Hs) (hp : ∀ x ∈ L, okP x) (hLN : L.length = N) (hN : N ≤ 100000) (ha : a ≤ e) (he : e ≤ N)
    (hQ : ∀ w L' Hs', Own enP 22 L' (.slice (some ⟨b, 0, none⟩) N c) Hs' → PR a e L L' → SO rkP a e L' → Q w (Hs' ++ H)) :
    CallT (cx B0 old) (acall (cx B0 old) ansP (n + 11)) 140 [(.slice (some ⟨b, 0, none⟩) N c), .int .i64 a, .int .i64 e, f] (Hs ++ H) Q := by
  obtain ⟨g, first, cap, rfl, hcal, hcmp⟩ := hc
  refine call_in4 53 rfl Tryz.func140 rfl rfl ?_
  repeat(refine ZX ?_;try intro _)
  refine loop_ind (ι := Nat × List Pk × Hp) (a + 1, L, Hs) (fun i => N + 1 - i.1) (fun i => a < i.1 ∧ i.1 ≤ max e (a + 1) ∧ PR a e L i.2.1 ∧ SO rkP a i.1 i.2.1 ∧ Own enP 22 i.2.1 (.slice (some ⟨b, 0, none⟩) N c) i.2.2)
    (fun i => [(8, .int .i64 (i.1 : Int)), (0, (.slice (some ⟨b, 0, none⟩) N c)), (1, .int .i64 (a : Int)), (2, .int .i64 (e : Int)), (3, .func (.func g) first cap)]) (fun i => i.2.2 ++ H) ⟨Nat.lt_succ_self _, by omega, PR.refl _ _ _, SO.small (Nat.le_refl _), ho⟩ (by repeat (first | exact SubL.nil | refine SubL.cons rfl ?_)) (List.Sublist.refl _) ?_
  rintro ⟨i, J, G⟩ ⟨hai, hie, pr, so, oJ⟩
  dsimp only at hai hie pr so oJ ⊢
  have hJ := pr.len
  repeat(refine ZX ?_;try intro _)
  refine ct_condT te_d rfl (fun hlt => ?_) (fun hlt => ?_)
  rotate_left
  · repeat(refine ZX ?_;try intro _)
    exact re_0 rfl (List.Sublist.refl _) (fun w => hQ w J G oJ pr (fun p q h1 h2 h3 => so p q h1 h2 (by omega)))
  repeat(refine ZX ?_;try intro _)
  refine loop_ind (ι := Nat × List Pk × Hp) (i, J, G) (fun j => j.1) (fun j => a ≤ j.1 ∧ j.1 ≤ i ∧ PR a e L j.2.1 ∧ Ins rkP a j.2.1 i j.1 ∧ Own enP 22 j.2.1 (.slice (some ⟨b, 0, none⟩) N c) j.2.2)
    (fun j => [(9, .int .i64 (j.1 : Int)), (8, .int .i64 (i : Int)), (0, (.slice (some ⟨b, 0, none⟩) N c)), (1, .int .i64 (a : Int)), (2, .int .i64 (e : Int)), (3, .func (.func g) first cap)]) (fun j => j.2.2 ++ H) ⟨by omega, Nat.le_refl _, pr, Ins.start so, oJ⟩ (by repeat (first | exact SubL.nil | refine SubL.cons rfl ?_)) (List.Sublist.refl _) ?_
  rintro ⟨j, M, G2⟩ ⟨haj, hji, pr2, hi, oM⟩
  dsimp only at haj hji pr2 hi oM ⊢
  have hM := pr2.len
  clear oJ pr so
  have hjj : ((j : Int) - 1).toNat = j - 1 := by omega
  repeat(refine ZX ?_;try intro _)
  refine ct_draw (masks := [0, 0, 3, 7, 15, 15, 15, 111, 239, 15, 15, 1039, 3599, 7695, 16383, 32767, 65535]) (plan := [0, 1, 2, 3, 4, 5, 6, 7, 8, 9, 10, 11, 12, 13, 14, 15, 16]) (E := []) (by kernel_rfl) (by kernel_rfl) (by kernel_rfl) (by kernel_rfl) ?_
  repeat refine YX ?_
  refine isPlan ?_
  refine z3 (fun hja => ?_) (fun hja => ?_)
  rotate_left
  · repeat refine YX ?_
    repeat(refine ZX ?_;try intro _)
    exact ⟨(i + 1, M, G2), ⟨by omega, by omega, pr2, hi.done hji (.inl (by omega)), oM⟩, by dsimp only; omega, by repeat (first | exact SubL.nil | refine SubL.cons rfl ?_), List.Sublist.refl _⟩
  obtain ⟨x, hx, mx, hL0⟩ := oM.ldE (C := cx B0 old) (et := 91) enP_len rfl (sz rfl) (i := j) (by omega) H
  obtain ⟨y, hy, my, hL1⟩ := oM.ldE (C := cx B0 old) (et := 91) enP_len rfl (sz rfl) (i := ((j : Int) - 1).toNat) (by omega) H
  repeat refine YX ?_
  refine pl_S rfl rfl rfl rfl rfl rfl (st_call rfl rfl hcal rfl (hcmp _ x y _ _ (hp _ (pr2.perm.mem_iff.1 mx)) (hp _ (pr2.perm.mem_iff.1 my)) fun z hz => ⟨by exact rec_auto, ?_⟩))
  repeat refine YX ?_
  repeat(refine ZX ?_;try intro _)
  rw [rk_at (r := rkP) hx, rk_at (r := rkP) hy, hjj] at hz
  refine ct_condT te_d rfl (fun hlt2 => ?_) (fun hlt2 => ?_)
  rotate_left
  · repeat(refine ZX ?_;try intro _)
    exact ⟨(i + 1, M, G2), ⟨by omega, by omega, pr2, hi.done hji (.inr (Int.not_lt.1 fun g => hlt2 (hz.2 g))), oM⟩, by dsimp only; omega, by repeat (first | exact SubL.nil | refine SubL.cons rfl ?_), List.Sublist.refl _⟩
  obtain ⟨H1, H2, o2, s1, s2⟩ := oM.swp (C := cx B0 old) (et := 91) enP_len enP_one (sz rfl) hx hy
  rw [hjj] at o2
  repeat(refine ZX ?_;try intro _)
  refine ct_draw (masks := [0, 0, 0, 0, 8, 0, 0, 64, 224, 480, 0, 0, 3072, 7168, 16355, 32739, 65535, 131071]) (plan := [0, 1, 2, 3, 4, 5, 6, 7, 8, 9, 10, 11, 12, 13, 14, 15, 16, 17]) (E := []) (by kernel_rfl) (by kernel_rfl) (by kernel_rfl) (by kernel_rfl) ?_
  repeat refine YX ?_
  apply pl_st rfl rfl rfl rfl rfl rfl rfl rfl
  case hp => exact s1 [] H
  case hr => exact rec_auto
  repeat refine YX ?_
  apply pl_st rfl rfl rfl rfl rfl rfl rfl rfl
  case hp => exact s2 [] H
  case hr => exact rec_auto
  repeat refine YX ?_
  repeat(refine ZX ?_;try intro _)
  exact ⟨(j - 1, sw M j (j - 1), H2), ⟨by omega, by omega, pr2.trans (PR.sw (by omega) (by omega) haj (by omega) (by omega) (by omega)), hi.step (by omega) hji (by omega) (hz.1 hlt2), o2⟩, by dsimp only; omega, by
    refine SubL.consI (q := (j : Int) - 1) rfl (by omega) ?_
    repeat (first | exact SubL.nil | refine SubL.cons rfl ?_), List.Sublist.refl _⟩
theorem siftP_ct {lo hi fi : Nat} (hc : CmpT (cx B0 old) enP rkP okP f) (ho : Own enP 22 L (.slice (some ⟨b, 0, none⟩) N c) Hs) (hp : ∀ x ∈ L, okP x) (hLN : L.length = N) (hN : N ≤ 100000) (hlo : lo ≤ hi) (hfi : fi + hi ≤ N) (hh : Hp2 rkP fi (lo + 1) hi L)
    (hQ : ∀ w L' Hs', Own enP 22 L' (.slice (some ⟨b, 0, none⟩) N c) Hs' → PR fi (fi + hi) L L' → Hp2 rkP fi lo hi L' → Q w (Hs' ++ H)) :
    CallT (cx B0 old) (acall (cx B0 old) ansP (n + 11)) 149 [(.slice (some ⟨b, 0, none⟩) N c), .int .i64 lo, .int .i64 hi, .int .i64 fi, f] (Hs ++ H) Q := by
  obtain ⟨g, first, cap, rfl, hcal, hcmp⟩ := hc
  refine call_in 82 rfl Tryz.func149 rfl rfl ?_
  repeat(refine ZX ?_;try intro _)
  refine loop_ind (ι := Nat × List Pk × Hp) (lo, L, Hs) (fun i => hi - i.1) (fun i => lo ≤ i.1 ∧ i.1 ≤ hi ∧ PR fi (fi + hi) L i.2.1 ∧ Dn2 rkP fi lo hi i.1 i.2.1 ∧ Own enP 22 i.2.1 (.slice (some ⟨b, 0, none⟩) N c) i.2.2)
    (fun i => [(10, .int .i64 (i.1 : Int)), (0, (.slice (some ⟨b, 0, none⟩) N c)), (2, .int .i64 (hi : Int)), (3, .int .i64 (fi : Int)), (4, .func (.func g) first cap)]) (fun i => i.2.2 ++ H) ⟨Nat.le_refl _, hlo, PR.refl _ _ _, Dn2.start hh, ho⟩ (by repeat (first | exact SubL.nil | refine SubL.cons rfl ?_)) (List.Sublist.refl _) ?_
  rintro ⟨i, J, G⟩ ⟨hli, hie, pr, dn, oJ⟩
  dsimp only at hli hie pr dn oJ ⊢
  have hJ := pr.len
  repeat(refine ZX ?_;try intro _)
  refine ct_condT te_d rfl (fun hlt => ?_) (fun hlt => ?_)
  · repeat(refine ZX ?_;try intro _)
    exact re_0 rfl (List.Sublist.refl _) (fun w => hQ w J G oJ pr (dn.leaf (by omega)))
  repeat(refine ZX ?_;try intro _)
  refine ct_draw (masks := [0, 1, 0, 7, 15, 31, 31, 31, 31, 415, 991, 2015, 31, 31, 31, 24607, 57375, 127007, 258079, 524287, 1048575, 2097151]) (plan := [0, 1, 2, 3, 4, 5, 6, 7, 8, 9, 10, 11, 12, 13, 14, 15, 16, 17, 18, 19, 20, 21]) (E := []) (by kernel_rfl) (by kernel_rfl) (by kernel_rfl) (by kernel_rfl) ?_
  repeat refine YX ?_
  refine pl_midE (ι := Bool) (fun t => (t = true → 2 * i + 2 < hi ∧ rk rkP J (fi + (2 * i + 1)) < rk rkP J (fi + (2 * i + 2))) ∧ (t = false → 2 * i + 2 < hi → rk rkP J (fi + (2 * i + 2)) ≤ rk rkP J (fi + (2 * i + 1))))
    (fun t => [(40, .bool t), (11, .int .i64 (2 * (i : Int) + 1)), (10, .int .i64 (i : Int)), (0, (.slice (some ⟨b, 0, none⟩) N c)), (2, .int .i64 (hi : Int)), (3, .int .i64 (fi : Int)), (4, .func (.func g) first cap)]) (fun _ => G ++ H) ?_ ?_
  · refine isPlan ?_
    refine z3 (fun hja => ?_) (fun hja => ?_)
    rotate_left
    · repeat refine YX ?_
      exact ⟨false, ⟨fun h => (by cases h), fun _ h => absurd h (by omega)⟩, by repeat (first | exact SubL.nil | refine SubL.cons rfl ?_), List.Sublist.refl _⟩
    obtain ⟨x, hx, mx, hL0⟩ := oJ.ldE (C := cx B0 old) (et := 91) enP_len rfl (sz rfl) (i := fi + (2 * i + 1)) (by omega) H
    obtain ⟨y, hy, my, hL1⟩ := oJ.ldE (C := cx B0 old) (et := 91) enP_len rfl (sz rfl) (i := fi + (2 * i + 1) + 1) (by omega) H
    repeat refine YX ?_
    refine pl_S rfl rfl rfl rfl rfl rfl (st_call rfl rfl hcal rfl (hcmp _ x y _ _ (hp _ (pr.perm.mem_iff.1 mx)) (hp _ (pr.perm.mem_iff.1 my)) fun z hz => ⟨by exact rec_auto, ?_⟩))
    repeat refine YX ?_
    rw [rk_at (r := rkP) hx, rk_at (r := rkP) hy] at hz
    exact ⟨decide (z < 0), ⟨fun h => ⟨by omega, hz.1 (of_decide_eq_true h)⟩, fun h _ => Int.not_lt.1 (mt hz.2 (of_decide_eq_false h))⟩, by repeat (first | exact SubL.nil | refine SubL.cons rfl ?_), List.Sublist.refl _⟩
  rintro t ⟨t1, t2⟩
  refine ct_midE (ι := Nat) (fun j => j < hi ∧ 0 < j ∧ (j - 1) / 2 = i ∧ (∀ c, 0 < c → c < hi → (c - 1) / 2 = i → rk rkP J (fi + c) ≤ rk rkP J (fi + j)))
    (fun j => [(11, .int .i64 (j : Int)), (10, .int .i64 (i : Int)), (0, (.slice (some ⟨b, 0, none⟩) N c)), (2, .int .i64 (hi : Int)), (3, .int .i64 (fi : Int)), (4, .func (.func g) first cap)]) (fun _ => G ++ H) ?_ ?_
  · refine ct_condT te_b rfl (fun hb => ?_) (fun hb => ?_)
    · obtain ⟨k1, k2⟩ := t1 hb
      repeat(refine ZX ?_;try intro _)
      refine ⟨2 * i + 2, ⟨by omega, by omega, by omega, fun c c0 ch ce => ?_⟩, by repeat (first | exact SubL.nil | refine SubL.cons rfl ?_), List.Sublist.refl _⟩
      rcases (by omega : c = 2 * i + 1 ∨ c = 2 * i + 2) with rfl | rfl
      · omega
      · exact Int.le_refl _
    · have k2 := t2 hb
      repeat(refine ZX ?_;try intro _)
      refine ⟨2 * i + 1, ⟨by omega, by omega, by omega, fun c c0 ch ce => ?_⟩, by repeat (first | exact SubL.nil | refine SubL.cons rfl ?_), List.Sublist.refl _⟩
      rcases (by omega : c = 2 * i + 1 ∨ c = 2 * i + 2) with rfl | rfl
      · exact Int.le_refl _
      · exact k2 ch
  rintro j ⟨hj1, hj0, hjp, hjm⟩
  obtain ⟨x, hx, mx, hL0⟩ := oJ.ldE (C := cx B0 old) (et := 91) enP_len rfl (sz rfl) (i := fi + i) (by omega) H
  obtain ⟨y, hy, my, hL1⟩ := oJ.ldE (C := cx B0 old) (et := 91) enP_len rfl (sz rfl) (i := fi + j) (by omega) H
  repeat(refine ZX ?_;try intro _)
  refine ct_draw (masks := [0, 0, 0, 0, 12, 30, 62, 0, 0, 0, 768, 1920, 3968, 8191, 16383, 32767]) (plan := [0, 1, 2, 3, 4, 5, 6, 7, 8, 9, 10, 11, 12, 13, 14, 15]) (E := []) (by kernel_rfl) (by kernel_rfl) (by kernel_rfl) (by kernel_rfl) ?_
  repeat refine YX ?_
  refine pl_S rfl rfl rfl rfl rfl rfl (st_call rfl rfl hcal rfl (hcmp _ x y _ _ (hp _ (pr.perm.mem_iff.1 mx)) (hp _ (pr.perm.mem_iff.1 my)) fun z hz => ⟨by exact rec_auto, ?_⟩))
  repeat refine YX ?_
  repeat(refine ZX ?_;try intro _)
  rw [rk_at (r := rkP) hx, rk_at (r := rkP) hy] at hz
  refine ct_condT (te_n te_d) rfl (fun hlt2 => ?_) (fun hlt2 => ?_)
  · repeat(refine ZX ?_;try intro _)
    exact re_0r rfl (List.Sublist.refl _) (fun w => hQ w J G oJ pr (dn.done hjm (Int.not_lt.1 fun g => hlt2 (hz.2 g))))
  obtain ⟨H1, H2, o2, s1, s2⟩ := oJ.swp (C := cx B0 old) (et := 91) enP_len enP_one (sz rfl) hx hy
  repeat(refine ZX ?_;try intro _)
  refine ct_draw (masks := [0, 0, 0, 6, 0, 0, 0, 96, 0, 0, 0, 1536, 3840, 7936, 0, 0, 0, 98304, 245760, 507904, 1048335, 2096911, 4194303, 8388607]) (plan := [0, 1, 2, 3, 4, 5, 6, 7, 8, 9, 10, 11, 12, 13, 14, 15, 16, 17, 18, 19, 20, 21, 22, 23]) (E := []) (by kernel_rfl) (by kernel_rfl) (by kernel_rfl) (by kernel_rfl) ?_
  repeat refine YX ?_
  apply pl_st rfl rfl rfl rfl rfl rfl rfl rfl
  case hp => exact s1 [] H
  case hr => exact rec_auto
  repeat refine YX ?_
  apply pl_st rfl rfl rfl rfl rfl rfl rfl rfl
  case hp => exact s2 [] H
  case hr => exact rec_auto
  repeat refine YX ?_
  repeat(refine ZX ?_;try intro _)
  exact ⟨(j, sw J (fi + i) (fi + j), H2), ⟨by omega, by omega, pr.trans (PR.sw (by omega) (by omega) (by omega) (by omega) (by omega) (by omega)), dn.step (by omega) hj1 hj0 hjp hli hjm (hz.1 hlt2), o2⟩, by dsimp only; omega, by repeat (first | exact SubL.nil | refine SubL.cons rfl ?_), List.Sublist.refl _⟩
theorem heapP_ct (hc : CmpT (cx B0 old) enP rkP okP f) (ho : Own enP 22 L (.slice (some ⟨b, 0, none⟩) N c) Hs) (hp : ∀ x ∈ L, okP x) (hLN : L.length = N) (hN : N ≤ 100000) (ha : a < e) (he : e ≤ N)
    (hQ : ∀ w L' Hs', Own enP 22 L' (.slice (some ⟨b, 0, none⟩) N c) Hs' → PR a e L L' → SO rkP a e L' → Q w (Hs' ++ H)) :
    CallT (cx B0 old) (acall (cx B0 old) ansP (n + 12)) 141 [(.slice (some ⟨b, 0, none⟩) N c), .int .i64 a, .int .i64 e, f] (Hs ++ H) Q := by
  refine call_in4 60 rfl Tryz.func141 rfl rfl ?_
  have hhi : (e : Int) - (a : Int) = ((e - a : Nat) : Int) := by omega
  have hq : IntKind.i64.wrap ((((e - a : Nat) : Int) - 1).tdiv 2) = (((e - a - 1) / 2 : Nat) : Int) := by
    rw [Int.tdiv_eq_ediv_of_nonneg (by omega), IntWalk.i64_in _ (by omega)]; omega
  repeat(refine ZX ?_;try intro _)
  rw [hhi]
  generalize hd : e - a = hi at *
  repeat(refine ZX ?_;try intro _)
  apply rt_p rfl rfl rfl
  case hp => exact p_quo rfl rfl (by decide)
  rw [hq]
  repeat(refine ZX ?_;try intro _)
  refine ct_midB (ι := List Pk × Hp) (fun i => PR a e L i.1 ∧ Hp2 rkP a 0 hi i.1 ∧ Own enP 22 i.1 (.slice (some ⟨b, 0, none⟩) N c) i.2)
    (fun i => [(8, .int .i64 (a : Int)), (9, .int .i64 0), (10, .int .i64 (hi : Int)), (0, (.slice (some ⟨b, 0, none⟩) N c)), (3, f)]) (fun i => i.2 ++ H) ?_ ?_
  · refine loop_ind (ι := Nat × List Pk × Hp) ((hi - 1) / 2 + 1, L, Hs) (fun i => i.1) (fun i => i.1 ≤ hi ∧ PR a e L i.2.1 ∧ Hp2 rkP a i.1 hi i.2.1 ∧ Own enP 22 i.2.1 (.slice (some ⟨b, 0, none⟩) N c) i.2.2)
      (fun i => [(11, .int .i64 ((i.1 : Int) - 1)), (8, .int .i64 (a : Int)), (9, .int .i64 0), (10, .int .i64 (hi : Int)), (0, (.slice (some ⟨b, 0, none⟩) N c)), (3, f)]) (fun i => i.2.2 ++ H) ⟨by omega, PR.refl _ _ _, fun c c0 ch cl => by omega, ho⟩ (by
        refine SubL.consI (q := (((hi - 1) / 2 : Nat) : Int)) rfl (by omega) ?_
        repeat (first | exact SubL.nil | refine SubL.cons rfl ?_)) (List.Sublist.refl _) ?_
    rintro ⟨m, J, G⟩ ⟨hm, pr, hh, oJ⟩
    dsimp only at hm pr hh oJ ⊢
    have hJ := pr.len
    repeat(refine ZX ?_;try intro _)
    refine ct_condT te_d rfl (fun hlt => ?_) (fun hlt => ?_)
    rotate_left
    · repeat(refine ZX ?_;try intro _)
      obtain rfl : m = 0 := by omega
      exact ⟨(J, G), ⟨pr, hh, oJ⟩, by repeat (first | exact SubL.nil | refine SubL.cons rfl ?_), List.Sublist.refl _⟩
    obtain ⟨k, rfl⟩ : ∃ k, m = k + 1 := ⟨m - 1, by omega⟩
    have hk : ((k + 1 : Nat) : Int) - 1 = (k : Int) := by omega
    rw [hk]
    repeat(refine ZX ?_;try intro _)
    refine rt_step rfl rfl rfl (st_call rfl rfl rfl rfl (siftP_ct hc oJ (fun x h => hp x (pr.perm.mem_iff.1 h)) (by omega) hN (by omega) (by omega) hh fun w L2 G2 o2 pr2 h2 => ?_))
    repeat(refine ZX ?_;try intro _)
    exact ⟨(k, L2, G2), ⟨by omega, pr.trans (pr2.mono (Nat.le_refl _) (by omega)), h2, o2⟩, by dsimp only; omega, by repeat (first | exact SubL.nil | refine SubL.cons rfl ?_), List.Sublist.refl _⟩
  rintro ⟨J, G⟩ ⟨pr, hh, oJ⟩
  dsimp only at pr hh oJ ⊢
  repeat(refine ZX ?_;try intro _)
  refine loop_ind (ι := Nat × List Pk × Hp) (hi, J, G) (fun i => i.1) (fun i => i.1 ≤ hi ∧ PR a e L i.2.1 ∧ Pop2 rkP a i.1 e i.2.1 ∧ Own enP 22 i.2.1 (.slice (some ⟨b, 0, none⟩) N c) i.2.2)
    (fun i => [(12, .int .i64 ((i.1 : Int) - 1)), (8, .int .i64 (a : Int)), (9, .int .i64 0), (10, .int .i64 (hi : Int)), (0, (.slice (some ⟨b, 0, none⟩) N c)), (3, f)]) (fun i => i.2.2 ++ H) ⟨Nat.le_refl _, pr, ⟨hh, SO.small (by omega), fun p q h1 h2 h3 h4 => by omega⟩, oJ⟩ (by repeat (first | exact SubL.nil | refine SubL.cons rfl ?_)) (List.Sublist.refl _) ?_
  clear hh oJ pr
  rintro ⟨m, J, G⟩ ⟨hm, pr, pp, oJ⟩
  dsimp only at hm pr pp oJ ⊢
  have hJ := pr.len
  repeat(refine ZX ?_;try intro _)
  refine ct_condT te_d rfl (fun hlt => ?_) (fun hlt => ?_)
  rotate_left
  · repeat(refine ZX ?_;try intro _)
    obtain rfl : m = 0 := by omega
    exact re_0 rfl (List.Sublist.refl _) (fun w => hQ w J G oJ pr pp.zero)
  obtain ⟨k, rfl⟩ : ∃ k, m = k + 1 := ⟨m - 1, by omega⟩
  have hk : ((k + 1 : Nat) : Int) - 1 = (k : Int) := by omega
  rw [hk]
  obtain ⟨x, hx, mx, hL0⟩ := oJ.ldE (C := cx B0 old) (et := 91) enP_len rfl (sz rfl) (i := a) (by omega) H
  obtain ⟨y, hy, my, hL1⟩ := oJ.ldE (C := cx B0 old) (et := 91) enP_len rfl (sz rfl) (i := a + k) (by omega) H
  obtain ⟨H1, H2, o2, s1, s2⟩ := oJ.swp (C := cx B0 old) (et := 91) enP_len enP_one (sz rfl) hx hy
  repeat(refine ZX ?_;try intro _)
  refine ct_draw (masks := [0, 0, 0, 0, 0, 24, 0, 0, 0, 384, 960, 1984, 0, 0, 12288, 28672, 65475, 131011, 262143, 524287]) (plan := [0, 1, 2, 3, 4, 5, 6, 7, 8, 9, 10, 11, 12, 13, 14, 15, 16, 17, 18, 19]) (E := []) (by kernel_rfl) (by kernel_rfl) (by kernel_rfl) (by kernel_rfl) ?_
  repeat refine YX ?_
  apply pl_st rfl rfl rfl rfl rfl rfl rfl rfl
  case hp => exact s1 [] H
  case hr => exact rec_auto
  repeat refine YX ?_
  apply pl_st rfl rfl rfl rfl rfl rfl rfl rfl
  case hp => exact s2 [] H
  case hr => exact rec_auto
  repeat refine YX ?_
  repeat(refine ZX ?_;try intro _)
  have psw : PR a e J (sw J a (a + k)) := PR.sw (by omega) (by omega) (by omega) (by omega) (by omega) (by omega)
  refine rt_step rfl rfl rfl (st_call rfl rfl rfl rfl (siftP_ct (Hs := H2) (H := H) (lo := 0) hc o2 (fun x h => hp x ((pr.trans psw).perm.mem_iff.1 h)) (by rw [sw_len]; omega) hN (by omega) (by omega) (pp.pre (by omega) (by omega)) fun w L2 G2 o3 pr2 h2 => ?_))
  repeat(refine ZX ?_;try intro _)
  exact ⟨(k, L2, G2), ⟨by omega, (pr.trans psw).trans (pr2.mono (Nat.le_refl _) (by omega)), pp.step (by omega) (by omega) pr2 h2, o3⟩, by dsimp only; omega, by repeat (first | exact SubL.nil | refine SubL.cons rfl ?_), List.Sublist.refl _⟩
end
end Go.Proofs.YtphadapcafibpaaGreat.Abs

/- The library's choice of a pivot; ranges reversed. -/
namespace Go.Proofs.YtphadapcafibpaaGreat.Abs
open Go
set_option linter.unusedVariables false
section
variable {B0 : Nat} {old : Nat → Option (List Value)} {n : Nat} {H Hs : Hp} {Q : Value → Hp → Prop} {L : List Pk} {b c N a e : Nat} {f : Value}
set_option maxRecDepth 10000
set_option maxHeartbeats 4000000
theorem revP_ct (ho : Own enP 22 L (.slice (some ⟨b, 0, none⟩) N c) Hs) (hLN : L.length = N) (hN : N ≤ 100000) (ha : a < e) (he : e ≤ N)
    (hQ : ∀ w L' Hs', Own enP 22 L' (.slice (some ⟨b, 0, none⟩) N c) Hs' → PR a e L L' → Q w (Hs' ++ H)) :
    CallT (cx B0 old) (acall (cx B0 old) ansP (n + 1)) 144 [(.slice (some ⟨b, 0, none⟩) N c), .int .i64 a, .int .i64 e, f] (Hs ++ H) Q := by
  refine call_in4 34 rfl Tryz.func144 rfl rfl ?_
  repeat(refine ZX ?_;try intro _)
  refine loop_ind (ι := Nat × Nat × List Pk × Hp) (a, e - 1, L, Hs) (fun i => i.2.1 + 1 - i.1) (fun i => a ≤ i.1 ∧ i.2.1 < e ∧ PR a e L i.2.2.1 ∧ Own enP 22 i.2.2.1 (.slice (some ⟨b, 0, none⟩) N c) i.2.2.2)
    (fun i => [(8, .int .i64 (i.1 : Int)), (9, .int .i64 (i.2.1 : Int)), (0, (.slice (some ⟨b, 0, none⟩) N c))]) (fun i => i.2.2.2 ++ H) ⟨Nat.le_refl _, by dsimp only; omega, PR.refl _ _ _, ho⟩ (by
      refine SubL.cons rfl (SubL.consI (q := (e : Int) - 1) rfl (by dsimp only; omega) ?_)
      repeat (first | exact SubL.nil | refine SubL.cons rfl ?_)) (List.Sublist.refl _) ?_
  rintro ⟨i, j, J, G⟩ ⟨hai, hje, pr, oJ⟩
  dsimp only at hai hje pr oJ ⊢
  have hJ := pr.len
  repeat(refine ZX ?_;try intro _)
  refine ct_condT te_d rfl (fun hlt => ?_) (fun hlt => ?_)
  rotate_left
  · repeat(refine ZX ?_;try intro _)
    exact re_0 rfl (List.Sublist.refl _) (fun w => hQ w J G oJ pr)
  obtain ⟨x, hx, mx, hL0⟩ := oJ.ldE (C := cx B0 old) (et := 91) enP_len rfl (sz rfl) (i := i) (by omega) H
  obtain ⟨y, hy, my, hL1⟩ := oJ.ldE (C := cx B0 old) (et := 91) enP_len rfl (sz rfl) (i := j) (by omega) H
  obtain ⟨H1, H2, o2, s1, s2⟩ := oJ.swp (C := cx B0 old) (et := 91) enP_len enP_one (sz rfl) hx hy
  repeat(refine ZX ?_;try intro _)
  refine ct_draw (masks := [0, 0, 0, 0, 0, 0, 48, 112, 0, 0, 768, 1792, 4083, 8179, 16383, 32767]) (plan := [0, 1, 2, 3, 4, 5, 6, 7, 8, 9, 10, 11, 12, 13, 14, 15]) (E := []) (by kernel_rfl) (by kernel_rfl) (by kernel_rfl) (by kernel_rfl) ?_
  repeat refine YX ?_
  apply pl_st rfl rfl rfl rfl rfl rfl rfl rfl
  case hp => exact s1 [] H
  case hr => exact rec_auto
  repeat refine YX ?_
  apply pl_st rfl rfl rfl rfl rfl rfl rfl rfl
  case hp => exact s2 [] H
  case hr => exact rec_auto
  repeat refine YX ?_
  repeat(refine ZX ?_;try intro _)
  exact ⟨(i + 1, j - 1, sw J i j, H2), ⟨by dsimp only; omega, by dsimp only; omega, pr.trans (PR.sw (by omega) (by omega) (by omega) (by omega) (by omega) (by omega)), o2⟩, by dsimp only; omega, by
    refine SubL.cons rfl (SubL.consI (q := (j : Int) - 1) rfl (by dsimp only; omega) ?_)
    repeat (first | exact SubL.nil | refine SubL.cons rfl ?_), List.Sublist.refl _⟩
theorem ordP_ct {i j sb : Nat} {s : Int} (hc : CmpT (cx B0 old) enP rkP okP f) (ho : Own enP 22 L (.slice (some ⟨b, 0, none⟩) N c) Hs) (hp : ∀ x ∈ L, okP x) (hLN : L.length = N) (hi : i < N) (hj : j < N)
    (hQ : ∀ (x y : Nat) (s' : Int), (x = i ∧ y = j ∨ x = j ∧ y = i) → Q (.tuple #[.int .i64 x, .int .i64 y]) ((sb, .row [.int .i64 s'] 1 false) :: (Hs ++ H))) :
    CallT (cx B0 old) (acall (cx B0 old) ansP (n + 11)) 152 [(.slice (some ⟨b, 0, none⟩) N c), .int .i64 i, .int .i64 j, .pointer (some ⟨sb, 0, none⟩), f] ((sb, .row [.int .i64 s] 1 false) :: (Hs ++ H)) Q := by
  obtain ⟨g, first, cap, rfl, hcal, hcmp⟩ := hc
  refine call_in 32 rfl Tryz.func152 rfl rfl ?_
  obtain ⟨x, hx, mx, hL0⟩ := ho.ldE (C := cx B0 old) (et := 91) enP_len rfl (sz rfl) (i := j) (by omega) H
  obtain ⟨y, hy, my, hL1⟩ := ho.ldE (C := cx B0 old) (et := 91) enP_len rfl (sz rfl) (i := i) (by omega) H
  repeat(refine ZX ?_;try intro _)
  refine ct_draw (masks := [0, 0, 0, 6, 14, 0, 0, 96, 224, 511, 1023]) (plan := [0, 1, 2, 3, 4, 5, 6, 7, 8, 9, 10]) (E := []) (by kernel_rfl) (by kernel_rfl) (by kernel_rfl) (by kernel_rfl) ?_
  repeat refine YX ?_
  refine pl_S rfl rfl rfl rfl rfl rfl (st_call rfl rfl hcal rfl (hcmp _ x y _ _ (hp _ mx) (hp _ my) fun z hz => ⟨by exact rec_auto, ?_⟩))
  repeat refine YX ?_
  repeat(refine ZX ?_;try intro _)
  refine ct_condT te_d rfl (fun hlt2 => ?_) (fun hlt2 => ?_)
  · repeat(refine ZX ?_;try intro _)
    exact re_2 rfl rfl rfl (List.Sublist.refl _) (hQ j i _ (.inr ⟨rfl, rfl⟩))
  · repeat(refine ZX ?_;try intro _)
    exact re_2 rfl rfl rfl (List.Sublist.refl _) (hQ i j _ (.inl ⟨rfl, rfl⟩))
theorem medP_ct {i j k sb : Nat} {s : Int} (hc : CmpT (cx B0 old) enP rkP okP f) (ho : Own enP 22 L (.slice (some ⟨b, 0, none⟩) N c) Hs) (hp : ∀ x ∈ L, okP x) (hLN : L.length = N) (hi : i < N) (hj : j < N) (hk : k < N)
    (hQ : ∀ (x : Nat) (s' : Int), (x = i ∨ x = j ∨ x = k) → Q (.int .i64 x) ((sb, .row [.int .i64 s'] 1 false) :: (Hs ++ H))) :
    CallT (cx B0 old) (acall (cx B0 old) ansP (n + 12)) 151 [(.slice (some ⟨b, 0, none⟩) N c), .int .i64 i, .int .i64 j, .int .i64 k, .pointer (some ⟨sb, 0, none⟩), f] ((sb, .row [.int .i64 s] 1 false) :: (Hs ++ H)) Q := by
  refine call_in 41 rfl Tryz.func151 rfl rfl ?_
  repeat(refine ZX ?_;try intro _)
  refine rt_step rfl rfl rfl (st_call rfl rfl rfl rfl (ordP_ct hc ho hp hLN hi hj fun p1 q1 s1 h1 => ?_))
  repeat(refine ZX ?_;try intro _)
  refine rt_step rfl rfl rfl (st_call rfl rfl rfl rfl (ordP_ct hc ho hp hLN (by omega) hk fun p2 q2 s2 h2 => ?_))
  repeat(refine ZX ?_;try intro _)
  refine rt_step rfl rfl rfl (st_call rfl rfl rfl rfl (ordP_ct hc ho hp hLN (by omega) (by omega) fun p3 q3 s3 h3 => ?_))
  repeat(refine ZX ?_;try intro _)
  exact re_1 rfl rfl (List.Sublist.refl _) (hQ q3 _ (by omega))
theorem madP_ct {i sb : Nat} {s : Int} (hc : CmpT (cx B0 old) enP rkP okP f) (ho : Own enP 22 L (.slice (some ⟨b, 0, none⟩) N c) Hs) (hp : ∀ x ∈ L, okP x) (hLN : L.length = N) (hN : N ≤ 100000) (h0 : 0 < i) (hi : i + 1 < N)
    (hQ : ∀ (x : Nat) (s' : Int), (x + 1 = i ∨ x = i ∨ x = i + 1) → Q (.int .i64 x) ((sb, .row [.int .i64 s'] 1 false) :: (Hs ++ H))) :
    CallT (cx B0 old) (acall (cx B0 old) ansP (n + 13)) 150 [(.slice (some ⟨b, 0, none⟩) N c), .int .i64 i, .pointer (some ⟨sb, 0, none⟩), f] ((sb, .row [.int .i64 s] 1 false) :: (Hs ++ H)) Q := by
  refine call_in4 18 rfl Tryz.func150 rfl rfl ?_
  repeat(refine ZX ?_;try intro _)
  rw [show (i : Int) - 1 = ((i - 1 : Nat) : Int) by omega, show (i : Int) + 1 = ((i + 1 : Nat) : Int) by omega]
  refine rt_step rfl rfl rfl (st_call rfl rfl rfl rfl (medP_ct hc ho hp hLN (by omega) (by omega) hi fun p1 s1 h1 => ?_))
  repeat(refine ZX ?_;try intro _)
  exact re_1 rfl rfl (List.Sublist.refl _) (hQ p1 _ (by omega))
theorem choP_ct (hc : CmpT (cx B0 old) enP rkP okP f) (ho : Own enP 22 L (.slice (some ⟨b, 0, none⟩) N c) Hs) (hp : ∀ x ∈ L, okP x) (hLN : L.length = N) (hN : N ≤ 100000) (ha : a + 8 ≤ e) (he : e ≤ N)
    (hQ : ∀ (p : Nat) (h : Int), a ≤ p → p < e → Q (.tuple #[.int .i64 p, .int .i64 h]) (Hs ++ H)) :
    CallT (cx B0 old) (acall (cx B0 old) ansP (n + 14)) 143 [(.slice (some ⟨b, 0, none⟩) N c), .int .i64 a, .int .i64 e, f] (Hs ++ H) Q := by
  refine call_in4 63 rfl Tryz.func143 rfl rfl ?_
  have hhi : (e : Int) - (a : Int) = ((e - a : Nat) : Int) := by omega
  have hq : IntKind.i64.wrap ((((e - a : Nat) : Int)).tdiv 4) = (((e - a) / 4 : Nat) : Int) := quoN (e - a) 4 (by omega)
  repeat(refine ZX ?_;try intro _)
  rw [hhi]
  generalize hd : e - a = l at *
  generalize hl4 : l / 4 = l4 at *
  repeat(refine ZX ?_;try intro _)
  apply rt_p rfl rfl rfl
  case hp => exact p_quo rfl rfl (by decide)
  rw [hq]
  repeat(refine ZX ?_;try intro _)
  apply rt_p rfl rfl rfl
  case hp => exact p_quo rfl rfl (by decide)
  rw [hq]
  repeat(refine ZX ?_;try intro _)
  apply rt_p rfl rfl rfl
  case hp => exact p_quo rfl rfl (by decide)
  rw [hq]
  repeat(refine ZX ?_;try intro _)
  rename_i sb
  rw [show (a : Int) + (l4 : Int) * 1 = ((a + l4 : Nat) : Int) by omega, show (a : Int) + (l4 : Int) * 2 = ((a + l4 * 2 : Nat) : Int) by omega, show (a : Int) + (l4 : Int) * 3 = ((a + l4 * 3 : Nat) : Int) by omega]
  refine ct_midE (ι := Nat × Int) (fun i => a ≤ i.1 ∧ i.1 < e) (fun i => [(13, .int .i64 (i.1 : Int)), (11, .pointer (some ⟨sb, 0, none⟩))]) (fun i => (sb, .row [.int .i64 i.2] 1 false) :: (Hs ++ H)) ?_ ?_
  · refine ct_condT te_d rfl (fun h8 => ?_) (fun h8 => ?_)
    rotate_left
    · exfalso; omega
    repeat(refine ZX ?_;try intro _)
    refine ct_midE (ι := Nat × Nat × Nat × Int) (fun i => (a ≤ i.1 ∧ i.1 < e) ∧ (a ≤ i.2.1 ∧ i.2.1 < e) ∧ a ≤ i.2.2.1 ∧ i.2.2.1 < e) (fun i => [(12, .int .i64 (i.1 : Int)), (13, .int .i64 (i.2.1 : Int)), (14, .int .i64 (i.2.2.1 : Int)), (0, (.slice (some ⟨b, 0, none⟩) N c)), (3, f), (11, .pointer (some ⟨sb, 0, none⟩))])
      (fun i => (sb, .row [.int .i64 i.2.2.2] 1 false) :: (Hs ++ H)) ?_ ?_
    · refine ct_condT te_d rfl (fun h50 => ?_) (fun h50 => ?_)
      · repeat(refine ZX ?_;try intro _)
        refine rt_step rfl rfl rfl (st_call rfl rfl rfl rfl (madP_ct hc ho hp hLN hN (by omega) (by omega) fun i1 s1 g1 => ?_))
        repeat(refine ZX ?_;try intro _)
        refine rt_step rfl rfl rfl (st_call rfl rfl rfl rfl (madP_ct hc ho hp hLN hN (by omega) (by omega) fun i2 s2 g2 => ?_))
        repeat(refine ZX ?_;try intro _)
        refine rt_step rfl rfl rfl (st_call rfl rfl rfl rfl (madP_ct hc ho hp hLN hN (by omega) (by omega) fun i3 s3 g3 => ?_))
        repeat(refine ZX ?_;try intro _)
        exact ⟨(i1, i2, i3, s3), ⟨by dsimp only; omega, by dsimp only; omega, by dsimp only; omega⟩, by repeat (first | exact SubL.nil | refine SubL.cons rfl ?_), List.Sublist.refl _⟩
      · repeat(refine ZX ?_;try intro _)
        exact ⟨(a + l4, a + l4 * 2, a + l4 * 3, 0), ⟨by dsimp only; omega, by dsimp only; omega, by dsimp only; omega⟩, by repeat (first | exact SubL.nil | refine SubL.cons rfl ?_), List.Sublist.refl _⟩
    rintro ⟨i1, i2, i3, s⟩ ⟨g1, g2, g3⟩
    dsimp only at g1 g2 g3 ⊢
    repeat(refine ZX ?_;try intro _)
    refine rt_step rfl rfl rfl (st_call rfl rfl rfl rfl (medP_ct hc ho hp hLN (by omega) (by omega) (by omega) fun p1 s1 h1 => ?_))
    repeat(refine ZX ?_;try intro _)
    exact ⟨(p1, s1), ⟨by dsimp only; omega, by dsimp only; omega⟩, by repeat (first | exact SubL.nil | refine SubL.cons rfl ?_), List.Sublist.refl _⟩
  rintro ⟨p, s⟩ ⟨h1, h2⟩
  dsimp only at h1 h2 ⊢
  repeat(refine ZX ?_;try intro _)
  refine ct_condT te_e rfl (fun _ => ?_) (fun _ => ?_)
  · repeat(refine ZX ?_;try intro _)
    exact re_2 rfl rfl rfl (List.sublist_cons_self _ _) (hQ p _ h1 h2)
  repeat(refine ZX ?_;try intro _)
  refine ct_condT te_e rfl (fun _ => ?_) (fun _ => ?_)
  · repeat(refine ZX ?_;try intro _)
    exact re_2 rfl rfl rfl (List.sublist_cons_self _ _) (hQ p _ h1 h2)
  · repeat(refine ZX ?_;try intro _)
    exact re_2 rfl rfl rfl (List.sublist_cons_self _ _) (hQ p _ h1 h2)
end
end Go.Proofs.YtphadapcafibpaaGreat.Abs

/- The library's partial insertion sort. -/
namespace Go.Proofs.YtphadapcafibpaaGreat.Abs
open Go
set_option linter.unusedVariables false
section
variable {B0 : Nat} {old : Nat → Option (List Value)} {n : Nat} {H Hs : Hp} {Q : Value → Hp → Prop} {L : List Pk} {b c N a e : Nat} {f : Value}
set_option maxRecDepth 10000
set_option maxHeartbeats 4000000
theorem pisP_ct (hc : CmpT (cx B0 old) enP rkP okP f) (ho : Own enP 22 L (.slice (some ⟨b, 0, none⟩) N c) Hs) (hp : ∀ x ∈ L, okP x) (hLN : L.length = N) (hN : N ≤ 100000) (ha : a < e) (he : e ≤ N) (hlo : Lo rkP a e L)
    (hQ : ∀ (r : Bool) L' Hs', Own enP 22 L' (.slice (some ⟨b, 0, none⟩) N c) Hs' → PR a e L L' → (r = true → SO rkP a e L') → Q (.bool r) (Hs' ++ H)) :
    CallT (cx B0 old) (acall (cx B0 old) ansP (n + 11)) 145 [(.slice (some ⟨b, 0, none⟩) N c), .int .i64 a, .int .i64 e, f] (Hs ++ H) Q := by
  obtain ⟨g, first, cap, rfl, hcal, hcmp⟩ := hc
  refine call_in4 141 rfl Tryz.func145 rfl rfl ?_
  repeat(refine ZX ?_;try intro _)
  refine loop_ind (ι := Nat × Nat × List Pk × Hp) (0, a + 1, L, Hs) (fun i => 5 - i.1) (fun i => i.1 ≤ 5 ∧ a < i.2.1 ∧ i.2.1 ≤ e ∧ PR a e L i.2.2.1 ∧ SO rkP a i.2.1 i.2.2.1 ∧ Own enP 22 i.2.2.1 (.slice (some ⟨b, 0, none⟩) N c) i.2.2.2)
    (fun i => [(9, .int .i64 (i.2.1 : Int)), (10, .int .i64 (i.1 : Int)), (8, .bool false), (0, (.slice (some ⟨b, 0, none⟩) N c)), (1, .int .i64 (a : Int)), (2, .int .i64 (e : Int)), (3, .func (.func g) first cap)]) (fun i => i.2.2.2 ++ H)
    ⟨Nat.zero_le _, Nat.lt_succ_self _, by dsimp only; omega, PR.refl _ _ _, SO.small (Nat.le_refl _), ho⟩ (by repeat (first | exact SubL.nil | refine SubL.cons rfl ?_)) (List.Sublist.refl _) ?_
  rintro ⟨q, i0, J, G⟩ ⟨hq, hai0, hie0, pr, so0, oJ⟩
  dsimp only at hq hai0 hie0 pr so0 oJ ⊢
  have hJ := pr.len
  have hloJ := hlo.pr (by omega) pr
  repeat(refine ZX ?_;try intro _)
  refine ct_condT te_d rfl (fun hq5 => ?_) (fun hq5 => ?_)
  rotate_left
  · repeat(refine ZX ?_;try intro _)
    exact re_1 rfl rfl (List.Sublist.refl _) (hQ false J G oJ pr (fun h => by cases h))
  repeat(refine ZX ?_;try intro _)
  refine ct_midB (ι := Nat) (fun i => a < i ∧ i ≤ e ∧ SO rkP a i J) (fun i => [(9, .int .i64 (i : Int)), (10, .int .i64 (q : Int)), (8, .bool false), (0, (.slice (some ⟨b, 0, none⟩) N c)), (1, .int .i64 (a : Int)), (2, .int .i64 (e : Int)), (3, .func (.func g) first cap)]) (fun _ => G ++ H) ?_ ?_
  · refine loop_ind (ι := Nat) i0 (fun i => e - i) (fun i => a < i ∧ i ≤ e ∧ SO rkP a i J) (fun i => [(9, .int .i64 (i : Int)), (10, .int .i64 (q : Int)), (8, .bool false), (0, (.slice (some ⟨b, 0, none⟩) N c)), (1, .int .i64 (a : Int)), (2, .int .i64 (e : Int)), (3, .func (.func g) first cap)]) (fun _ => G ++ H) ⟨hai0, hie0, so0⟩ (by repeat (first | exact SubL.nil | refine SubL.cons rfl ?_)) (List.Sublist.refl _) ?_
    rintro i ⟨hai, hie, so⟩
    have hjj : ((i : Int) - 1).toNat = i - 1 := by omega
    repeat(refine ZX ?_;try intro _)
    refine ct_draw (masks := [0, 0, 3, 7, 15, 15, 15, 111, 239, 15, 15, 1039, 3599, 7695, 16383, 32767, 65535, 131071]) (plan := [0, 1, 2, 3, 4, 5, 6, 7, 8, 9, 10, 11, 12, 13, 14, 15, 16, 17]) (E := []) (by kernel_rfl) (by kernel_rfl) (by kernel_rfl) (by kernel_rfl) ?_
    repeat refine YX ?_
    refine isPlan ?_
    refine z3 (fun hja => ?_) (fun hja => ?_)
    rotate_left
    · repeat refine YX ?_
      repeat(refine ZX ?_;try intro _)
      exact ⟨i, ⟨hai, hie, so⟩, by repeat (first | exact SubL.nil | refine SubL.cons rfl ?_), List.Sublist.refl _⟩
    obtain ⟨x, hx, mx, hL0⟩ := oJ.ldE (C := cx B0 old) (et := 91) enP_len rfl (sz rfl) (i := i) (by omega) H
    obtain ⟨y, hy, my, hL1⟩ := oJ.ldE (C := cx B0 old) (et := 91) enP_len rfl (sz rfl) (i := ((i : Int) - 1).toNat) (by omega) H
    repeat refine YX ?_
    refine pl_S rfl rfl rfl rfl rfl rfl (st_call rfl rfl hcal rfl (hcmp _ x y _ _ (hp _ (pr.perm.mem_iff.1 mx)) (hp _ (pr.perm.mem_iff.1 my)) fun z hz => ⟨by exact rec_auto, ?_⟩))
    repeat refine YX ?_
    repeat(refine ZX ?_;try intro _)
    rw [rk_at (r := rkP) hx, rk_at (r := rkP) hy, hjj] at hz
    refine ct_condT (te_n te_d) rfl (fun hlt2 => ?_) (fun hlt2 => ?_)
    rotate_left
    · repeat(refine ZX ?_;try intro _)
      exact ⟨i, ⟨hai, hie, so⟩, by repeat (first | exact SubL.nil | refine SubL.cons rfl ?_), List.Sublist.refl _⟩
    repeat(refine ZX ?_;try intro _)
    refine ⟨i + 1, ⟨by omega, by omega, (Ins.start so).done (Nat.le_refl _) (.inr (Int.not_lt.1 fun g => hlt2 (hz.2 g)))⟩, by omega, by repeat (first | exact SubL.nil | refine SubL.cons rfl ?_), List.Sublist.refl _⟩
  clear so0 hie0 hai0
  rintro i ⟨hai, hie, so⟩
  have hjj : ((i : Int) - 1).toNat = i - 1 := by omega
  repeat(refine ZX ?_;try intro _)
  refine ct_condT te_e rfl (fun hie2 => ?_) (fun hie2 => ?_)
  · repeat(refine ZX ?_;try intro _)
    obtain rfl : i = e := by omega
    exact re_1 rfl rfl (List.Sublist.refl _) (hQ true J G oJ pr (fun _ => so))
  repeat(refine ZX ?_;try intro _)
  refine ct_condT te_d rfl (fun hl50 => ?_) (fun hl50 => ?_)
  · repeat(refine ZX ?_;try intro _)
    exact re_1 rfl rfl (List.Sublist.refl _) (hQ false J G oJ pr (fun h => by cases h))
  obtain ⟨x, hx, mx, hL0⟩ := oJ.ldE (C := cx B0 old) (et := 91) enP_len rfl (sz rfl) (i := i) (by omega) H
  obtain ⟨y, hy, my, hL1⟩ := oJ.ldE (C := cx B0 old) (et := 91) enP_len rfl (sz rfl) (i := ((i : Int) - 1).toNat) (by omega) H
  obtain ⟨H1, H2, o2, s1, s2⟩ := oJ.swp (C := cx B0 old) (et := 91) enP_len enP_one (sz rfl) hx hy
  rw [hjj] at o2
  repeat(refine ZX ?_;try intro _)
  refine ct_draw (masks := [0, 0, 0, 0, 8, 0, 0, 64, 224, 480, 0, 0, 3072, 7168, 16355, 32739, 65535, 131071]) (plan := [0, 1, 2, 3, 4, 5, 6, 7, 8, 9, 10, 11, 12, 13, 14, 15, 16, 17]) (E := []) (by kernel_rfl) (by kernel_rfl) (by kernel_rfl) (by kernel_rfl) ?_
  repeat refine YX ?_
  apply pl_st rfl rfl rfl rfl rfl rfl rfl rfl
  case hp => exact s1 [] H
  case hr => exact rec_auto
  repeat refine YX ?_
  apply pl_st rfl rfl rfl rfl rfl rfl rfl rfl
  case hp => exact s2 [] H
  case hr => exact rec_auto
  repeat refine YX ?_
  repeat(refine ZX ?_;try intro _)
  have psw : PR (i - 1) (i + 1) J (sw J i (i - 1)) := PR.sw (by omega) (by omega) (by omega) (by omega) (by omega) (by omega)
  have pr2 : PR a e L (sw J i (i - 1)) := pr.trans (psw.mono (by omega) (by omega))
  have so2 : SO rkP a (i - 1) (sw J i (i - 1)) := SO.out (b := i - 1) (fun p q h1 h2 h3 => so p q h1 h2 (by omega)) psw (.inl (Nat.le_refl _))
  clear s1 s2 hL0 hL1 hx hy mx my oJ
  refine ct_midE (ι := List Pk × Hp) (fun k => PR a e L k.1 ∧ SO rkP a i k.1 ∧ Own enP 22 k.1 (.slice (some ⟨b, 0, none⟩) N c) k.2) (fun _ => [(9, .int .i64 (i : Int)), (10, .int .i64 (q : Int)), (8, .bool false), (0, (.slice (some ⟨b, 0, none⟩) N c)), (1, .int .i64 (a : Int)), (2, .int .i64 (e : Int)), (3, .func (.func g) first cap)]) (fun k => k.2 ++ H) ?_ ?_
  · refine ct_condT te_d rfl (fun h2 => ?_) (fun h2 => ?_)
    rotate_left
    · repeat(refine ZX ?_;try intro _)
      exact ⟨(sw J i (i - 1), H2), ⟨pr2, SO.small (by omega), o2⟩, by repeat (first | exact SubL.nil | refine SubL.cons rfl ?_), List.Sublist.refl _⟩
    repeat(refine ZX ?_;try intro _)
    refine loop_ind (ι := Nat × List Pk × Hp) (i - 1, sw J i (i - 1), H2) (fun j => j.1) (fun j => a ≤ j.1 ∧ j.1 ≤ i - 1 ∧ PR a e L j.2.1 ∧ Ins rkP a j.2.1 (i - 1) j.1 ∧ Own enP 22 j.2.1 (.slice (some ⟨b, 0, none⟩) N c) j.2.2)
      (fun j => [(11, .int .i64 (j.1 : Int)), (9, .int .i64 (i : Int)), (10, .int .i64 (q : Int)), (8, .bool false), (0, (.slice (some ⟨b, 0, none⟩) N c)), (1, .int .i64 (a : Int)), (2, .int .i64 (e : Int)), (3, .func (.func g) first cap)]) (fun j => j.2.2 ++ H) ⟨by dsimp only; omega, Nat.le_refl _, pr2, Ins.start so2, o2⟩ (by
        refine SubL.consI (q := (i : Int) - 1) rfl (by dsimp only; omega) ?_
        repeat (first | exact SubL.nil | refine SubL.cons rfl ?_)) (List.Sublist.refl _) ?_
    clear so2 o2 pr2
    rintro ⟨j, M, G2⟩ ⟨haj, hji, pr2, hi, oM⟩
    dsimp only at haj hji pr2 hi oM ⊢
    have hM := pr2.len
    have hloM := hlo.pr (by omega) pr2
    have hjj2 : ((j : Int) - 1).toNat = j - 1 := by omega
    have hdone : (j = a ∨ rk rkP M (j - 1) ≤ rk rkP M j) → SO rkP a i M := fun h => by
      have := hi.done hji h
      rwa [show i - 1 + 1 = i by omega] at this
    repeat(refine ZX ?_;try intro _)
    refine ct_condT te_d rfl (fun h1j => ?_) (fun h1j => ?_)
    rotate_left
    · repeat(refine ZX ?_;try intro _)
      exact ⟨(M, G2), ⟨pr2, hdone (.inl (by omega)), oM⟩, by repeat (first | exact SubL.nil | refine SubL.cons rfl ?_), List.Sublist.refl _⟩
    obtain ⟨x, hx, mx, hL0⟩ := oM.ldE (C := cx B0 old) (et := 91) enP_len rfl (sz rfl) (i := j) (by omega) H
    obtain ⟨y, hy, my, hL1⟩ := oM.ldE (C := cx B0 old) (et := 91) enP_len rfl (sz rfl) (i := ((j : Int) - 1).toNat) (by omega) H
    obtain ⟨H1, H3, o3, s1, s2⟩ := oM.swp (C := cx B0 old) (et := 91) enP_len enP_one (sz rfl) hx hy
    rw [hjj2] at o3
    repeat(refine ZX ?_;try intro _)
    refine ct_draw (masks := [0, 0, 0, 6, 14, 0, 0, 64, 224, 480, 1023, 2047, 4095]) (plan := [0, 1, 2, 3, 4, 5, 6, 7, 8, 9, 10, 11, 12]) (E := []) (by kernel_rfl) (by kernel_rfl) (by kernel_rfl) (by kernel_rfl) ?_
    repeat refine YX ?_
    refine pl_S rfl rfl rfl rfl rfl rfl (st_call rfl rfl hcal rfl (hcmp _ x y _ _ (hp _ (pr2.perm.mem_iff.1 mx)) (hp _ (pr2.perm.mem_iff.1 my)) fun z hz => ⟨by exact rec_auto, ?_⟩))
    repeat refine YX ?_
    repeat(refine ZX ?_;try intro _)
    rw [rk_at (r := rkP) hx, rk_at (r := rkP) hy, hjj2] at hz
    refine ct_condT (te_n te_d) rfl (fun hlt2 => ?_) (fun hlt2 => ?_)
    · repeat(refine ZX ?_;try intro _)
      exact ⟨(M, G2), ⟨pr2, hdone (.inr (Int.not_lt.1 fun g => hlt2 (hz.2 g))), oM⟩, by repeat (first | exact SubL.nil | refine SubL.cons rfl ?_), List.Sublist.refl _⟩
    have hless := hz.1 hlt2
    have hja : a < j := by
      rcases Nat.lt_or_ge a j with h | h
      · exact h
      · obtain rfl : j = a := by omega
        have := hloM (by omega) j (Nat.le_refl _) (by omega)
        omega
    repeat(refine ZX ?_;try intro _)
    refine ct_draw (masks := [0, 0, 0, 0, 8, 0, 0, 64, 224, 480, 0, 0, 3072, 7168, 16355, 32739, 65535, 131071]) (plan := [0, 1, 2, 3, 4, 5, 6, 7, 8, 9, 10, 11, 12, 13, 14, 15, 16, 17]) (E := []) (by kernel_rfl) (by kernel_rfl) (by kernel_rfl) (by kernel_rfl) ?_
    repeat refine YX ?_
    apply pl_st rfl rfl rfl rfl rfl rfl rfl rfl
    case hp => exact s1 [] H
    case hr => exact rec_auto
    repeat refine YX ?_
    apply pl_st rfl rfl rfl rfl rfl rfl rfl rfl
    case hp => exact s2 [] H
    case hr => exact rec_auto
    repeat refine YX ?_
    repeat(refine ZX ?_;try intro _)
    exact ⟨(j - 1, sw M j (j - 1), H3), ⟨by dsimp only; omega, by dsimp only; omega, pr2.trans (PR.sw (by omega) (by omega) haj (by omega) (by omega) (by omega)), hi.step (by omega) hji hja hless, o3⟩, by dsimp only; omega, by
      refine SubL.consI (q := (j : Int) - 1) rfl (by dsimp only; omega) ?_
      repeat (first | exact SubL.nil | refine SubL.cons rfl ?_), List.Sublist.refl _⟩
  clear so2 o2 pr2 psw
  rintro ⟨M, G2⟩ ⟨pr2, so2, o2⟩
  dsimp only at pr2 so2 o2 ⊢
  repeat(refine ZX ?_;try intro _)
  refine ct_midB (ι := List Pk × Hp) (fun k => PR a e L k.1 ∧ SO rkP a i k.1 ∧ Own enP 22 k.1 (.slice (some ⟨b, 0, none⟩) N c) k.2) (fun _ => [(9, .int .i64 (i : Int)), (10, .int .i64 (q : Int)), (8, .bool false), (0, (.slice (some ⟨b, 0, none⟩) N c)), (1, .int .i64 (a : Int)), (2, .int .i64 (e : Int)), (3, .func (.func g) first cap)]) (fun k => k.2 ++ H) ?_ ?_
  · refine ct_condT te_d rfl (fun h2 => ?_) (fun h2 => ?_)
    rotate_left
    · repeat(refine ZX ?_;try intro _)
      exact ⟨(M, G2), ⟨pr2, so2, o2⟩, by repeat (first | exact SubL.nil | refine SubL.cons rfl ?_), List.Sublist.refl _⟩
    repeat(refine ZX ?_;try intro _)
    refine loop_ind (ι := Nat × List Pk × Hp) (i + 1, M, G2) (fun j => e - j.1) (fun j => i < j.1 ∧ j.1 ≤ e ∧ PR a e L j.2.1 ∧ SO rkP a i j.2.1 ∧ Own enP 22 j.2.1 (.slice (some ⟨b, 0, none⟩) N c) j.2.2)
      (fun j => [(12, .int .i64 (j.1 : Int)), (9, .int .i64 (i : Int)), (10, .int .i64 (q : Int)), (8, .bool false), (0, (.slice (some ⟨b, 0, none⟩) N c)), (1, .int .i64 (a : Int)), (2, .int .i64 (e : Int)), (3, .func (.func g) first cap)]) (fun j => j.2.2 ++ H) ⟨Nat.lt_succ_self _, by dsimp only; omega, pr2, so2, o2⟩ (by repeat (first | exact SubL.nil | refine SubL.cons rfl ?_)) (List.Sublist.refl _) ?_
    clear so2 o2 pr2
    rintro ⟨j, M, G2⟩ ⟨haj, hji, pr2, so2, oM⟩
    dsimp only at haj hji pr2 so2 oM ⊢
    have hM := pr2.len
    have hjj2 : ((j : Int) - 1).toNat = j - 1 := by omega
    repeat(refine ZX ?_;try intro _)
    refine ct_condT te_d rfl (fun h1j => ?_) (fun h1j => ?_)
    rotate_left
    · repeat(refine ZX ?_;try intro _)
      exact ⟨(M, G2), ⟨pr2, so2, oM⟩, by repeat (first | exact SubL.nil | refine SubL.cons rfl ?_), List.Sublist.refl _⟩
    obtain ⟨x, hx, mx, hL0⟩ := oM.ldE (C := cx B0 old) (et := 91) enP_len rfl (sz rfl) (i := j) (by omega) H
    obtain ⟨y, hy, my, hL1⟩ := oM.ldE (C := cx B0 old) (et := 91) enP_len rfl (sz rfl) (i := ((j : Int) - 1).toNat) (by omega) H
    obtain ⟨H1, H3, o3, s1, s2⟩ := oM.swp (C := cx B0 old) (et := 91) enP_len enP_one (sz rfl) hx hy
    rw [hjj2] at o3
    repeat(refine ZX ?_;try intro _)
    refine ct_draw (masks := [0, 0, 0, 6, 14, 0, 0, 64, 224, 480, 1023, 2047, 4095]) (plan := [0, 1, 2, 3, 4, 5, 6, 7, 8, 9, 10, 11, 12]) (E := []) (by kernel_rfl) (by kernel_rfl) (by kernel_rfl) (by kernel_rfl) ?_
    repeat refine YX ?_
    refine pl_S rfl rfl rfl rfl rfl rfl (st_call rfl rfl hcal rfl (hcmp _ x y _ _ (hp _ (pr2.perm.mem_iff.1 mx)) (hp _ (pr2.perm.mem_iff.1 my)) fun z hz => ⟨by exact rec_auto, ?_⟩))
    repeat refine YX ?_
    repeat(refine ZX ?_;try intro _)
    refine ct_condT (te_n te_d) rfl (fun hlt2 => ?_) (fun hlt2 => ?_)
    · repeat(refine ZX ?_;try intro _)
      exact ⟨(M, G2), ⟨pr2, so2, oM⟩, by repeat (first | exact SubL.nil | refine SubL.cons rfl ?_), List.Sublist.refl _⟩
    repeat(refine ZX ?_;try intro _)
    refine ct_draw (masks := [0, 0, 0, 0, 8, 0, 0, 64, 224, 480, 0, 0, 3072, 7168, 16355, 32739, 65535, 131071]) (plan := [0, 1, 2, 3, 4, 5, 6, 7, 8, 9, 10, 11, 12, 13, 14, 15, 16, 17]) (E := []) (by kernel_rfl) (by kernel_rfl) (by kernel_rfl) (by kernel_rfl) ?_
    repeat refine YX ?_
    apply pl_st rfl rfl rfl rfl rfl rfl rfl rfl
    case hp => exact s1 [] H
    case hr => exact rec_auto
    repeat refine YX ?_
    apply pl_st rfl rfl rfl rfl rfl rfl rfl rfl
    case hp => exact s2 [] H
    case hr => exact rec_auto
    repeat refine YX ?_
    repeat(refine ZX ?_;try intro _)
    have psw : PR i e M (sw M j (j - 1)) := PR.sw (by omega) (by omega) (by omega) (by omega) (by omega) (by omega)
    exact ⟨(j + 1, sw M j (j - 1), H3), ⟨by dsimp only; omega, by dsimp only; omega, pr2.trans (psw.mono (by omega) (Nat.le_refl _)), so2.out psw (.inl (Nat.le_refl _)), o3⟩, by dsimp only; omega, by repeat (first | exact SubL.nil | refine SubL.cons rfl ?_), List.Sublist.refl _⟩
  clear so2 o2 pr2
  rintro ⟨M, G2⟩ ⟨pr2, so2, o2⟩
  dsimp only at pr2 so2 o2 ⊢
  repeat(refine ZX ?_;try intro _)
  exact ⟨(q + 1, i, M, G2), ⟨by dsimp only; omega, hai, hie, pr2, so2, o2⟩, by dsimp only; omega, by repeat (first | exact SubL.nil | refine SubL.cons rfl ?_), List.Sublist.refl _⟩
end
end Go.Proofs.YtphadapcafibpaaGreat.Abs

/- The library's partitions. -/
namespace Go.Proofs.YtphadapcafibpaaGreat.Abs
open Go
set_option linter.unusedVariables false
section
variable {B0 : Nat} {old : Nat → Option (List Value)} {n : Nat} {H Hs : Hp} {Q : Value → Hp → Prop} {L : List Pk} {b c N a e : Nat} {f : Value}
set_option maxRecDepth 10000
set_option maxHeartbeats 4000000
theorem parP_ct {p : Nat} (hc : CmpT (cx B0 old) enP rkP okP f) (ho : Own enP 22 L (.slice (some ⟨b, 0, none⟩) N c) Hs) (hp : ∀ x ∈ L, okP x) (hLN : L.length = N) (hN : N ≤ 100000) (ha : a + 1 < e) (he : e ≤ N) (hap : a ≤ p) (hpe : p < e)
    (hQ : ∀ (m : Nat) (r : Bool) L' Hs', Own enP 22 L' (.slice (some ⟨b, 0, none⟩) N c) Hs' → PR a e L L' → Parted rkP a e m L' → Q (.tuple #[.int .i64 m, .bool r]) (Hs' ++ H)) :
    CallT (cx B0 old) (acall (cx B0 old) ansP (n + 11)) 147 [(.slice (some ⟨b, 0, none⟩) N c), .int .i64 a, .int .i64 e, .int .i64 p, f] (Hs ++ H) Q := by
  obtain ⟨g, first, cap, rfl, hcal, hcmp⟩ := hc
  refine call_in 178 rfl Tryz.func147 rfl rfl ?_
  obtain ⟨x, hx, mx, hL0⟩ := ho.ldE (C := cx B0 old) (et := 91) enP_len rfl (sz rfl) (i := a) (by omega) H
  obtain ⟨y, hy, my, hL1⟩ := ho.ldE (C := cx B0 old) (et := 91) enP_len rfl (sz rfl) (i := p) (by omega) H
  obtain ⟨H1, H2, o2, s1, s2⟩ := ho.swp (C := cx B0 old) (et := 91) enP_len enP_one (sz rfl) hx hy
  repeat(refine ZX ?_;try intro _)
  refine ct_draw (masks := [0, 0, 0, 0, 0, 0, 48, 112, 0, 0, 768, 1792, 4083, 8179, 16383, 32767]) (plan := [0, 1, 2, 3, 4, 5, 6, 7, 8, 9, 10, 11, 12, 13, 14, 15]) (E := []) (by kernel_rfl) (by kernel_rfl) (by kernel_rfl) (by kernel_rfl) ?_
  repeat refine YX ?_
  apply pl_st rfl rfl rfl rfl rfl rfl rfl rfl
  case hp => exact s1 [] H
  case hr => exact rec_auto
  repeat refine YX ?_
  apply pl_st rfl rfl rfl rfl rfl rfl rfl rfl
  case hp => exact s2 [] H
  case hr => exact rec_auto
  repeat refine YX ?_
  repeat(refine ZX ?_;try intro _)
  have pr : PR a e L (sw L a p) := PR.sw (by omega) (by omega) (by omega) (by omega) (by omega) (by omega)
  have hlen : (sw L a p).length = N := by rw [sw_len]; exact hLN
  have hpt : Part rkP a e (a + 1) (e - 1) (sw L a p) := Part.start ha
  rw [show (e : Int) - 1 = ((e - 1 : Nat) : Int) by omega, show (a : Int) + 1 = ((a + 1 : Nat) : Int) by omega]
  clear s1 s2 hL0 hL1 hx hy mx my
  generalize sw L a p = J at *
  generalize a + 1 = i0 at *
  generalize e - 1 = j0 at *
  generalize H2 = G at *
  have oJ := o2
  clear o2
  refine ct_midB (ι := Nat) (fun i => (Part rkP a e i j0 J ∧ i0 ≤ i) ∧ (i ≤ j0 → ¬ rk rkP J i < rk rkP J a)) (fun i => [(12, .int .i64 (i : Int)), (13, .int .i64 (j0 : Int)), (0, (.slice (some ⟨b, 0, none⟩) N c)), (1, .int .i64 (a : Int)), (4, .func (.func g) first cap)]) (fun _ => G ++ H) ?_ ?_
  · refine loop_ind (ι := Nat) i0 (fun i => j0 + 1 - i) (fun i => Part rkP a e i j0 J ∧ i0 ≤ i) (fun i => [(12, .int .i64 (i : Int)), (13, .int .i64 (j0 : Int)), (0, (.slice (some ⟨b, 0, none⟩) N c)), (1, .int .i64 (a : Int)), (4, .func (.func g) first cap)]) (fun _ => G ++ H) ⟨hpt, Nat.le_refl _⟩ (by repeat (first | exact SubL.nil | refine SubL.cons rfl ?_)) (List.Sublist.refl _) ?_
    clear hpt
    rintro i ⟨hpt, hst⟩
    have hai := hpt.ai
    have hje := hpt.jb
    repeat(refine ZX ?_;try intro _)
    refine ct_draw (masks := [0, 0, 3, 7, 15, 15, 15, 111, 239, 15, 15, 1551, 3599, 8191, 16383, 32767]) (plan := [0, 1, 2, 3, 4, 5, 6, 7, 8, 9, 10, 11, 12, 13, 14, 15]) (E := []) (by kernel_rfl) (by kernel_rfl) (by kernel_rfl) (by kernel_rfl) ?_
    repeat refine YX ?_
    refine isPlan ?_
    refine z3 (fun hij => ?_) (fun hij => ?_)
    rotate_left
    · repeat refine YX ?_
      repeat(refine ZX ?_;try intro _)
      exact ⟨i, ⟨⟨hpt, hst⟩, fun h => absurd h (by omega)⟩, by repeat (first | exact SubL.nil | refine SubL.cons rfl ?_), List.Sublist.refl _⟩
    obtain ⟨x, hx, mx, hL0⟩ := oJ.ldE (C := cx B0 old) (et := 91) enP_len rfl (sz rfl) (i := i) (by omega) H
    obtain ⟨y, hy, my, hL1⟩ := oJ.ldE (C := cx B0 old) (et := 91) enP_len rfl (sz rfl) (i := a) (by omega) H
    repeat refine YX ?_
    refine pl_S rfl rfl rfl rfl rfl rfl (st_call rfl rfl hcal rfl (hcmp _ x y _ _ (hp _ (pr.perm.mem_iff.1 mx)) (hp _ (pr.perm.mem_iff.1 my)) fun z hz => ⟨by exact rec_auto, ?_⟩))
    repeat refine YX ?_
    repeat(refine ZX ?_;try intro _)
    rw [rk_at (r := rkP) hx, rk_at (r := rkP) hy] at hz
    refine ct_condT te_d rfl (fun hlt2 => ?_) (fun hlt2 => ?_)
    · repeat(refine ZX ?_;try intro _)
      exact ⟨i + 1, ⟨hpt.up (by omega) (hz.1 hlt2), by omega⟩, by omega, by
        repeat (first | exact SubL.nil | refine SubL.cons rfl ?_), List.Sublist.refl _⟩
    · repeat(refine ZX ?_;try intro _)
      exact ⟨i, ⟨⟨hpt, hst⟩, fun h => mt hz.2 hlt2⟩, by repeat (first | exact SubL.nil | refine SubL.cons rfl ?_), List.Sublist.refl _⟩
  clear hpt
  rintro i ⟨⟨hpt, hst1⟩, hup⟩
  repeat(refine ZX ?_;try intro _)
  refine ct_midB (ι := Nat) (fun j => (Part rkP a e i j J ∧ j ≤ j0 ∧ (i ≤ j0 → ¬ rk rkP J i < rk rkP J a)) ∧ (i ≤ j → rk rkP J j < rk rkP J a)) (fun j => [(12, .int .i64 (i : Int)), (13, .int .i64 (j : Int)), (0, (.slice (some ⟨b, 0, none⟩) N c)), (1, .int .i64 (a : Int)), (4, .func (.func g) first cap)]) (fun _ => G ++ H) ?_ ?_
  · refine loop_ind (ι := Nat) j0 (fun j => j + 1 - i) (fun j => Part rkP a e i j J ∧ j ≤ j0 ∧ (i ≤ j0 → ¬ rk rkP J i < rk rkP J a)) (fun j => [(12, .int .i64 (i : Int)), (13, .int .i64 (j : Int)), (0, (.slice (some ⟨b, 0, none⟩) N c)), (1, .int .i64 (a : Int)), (4, .func (.func g) first cap)]) (fun _ => G ++ H) ⟨hpt, Nat.le_refl _, hup⟩ (by repeat (first | exact SubL.nil | refine SubL.cons rfl ?_)) (List.Sublist.refl _) ?_
    clear hpt hup
    rintro j ⟨hpt, hst, hup⟩
    have hai := hpt.ai
    have hje := hpt.jb
    repeat(refine ZX ?_;try intro _)
    refine ct_draw (masks := [0, 0, 3, 7, 15, 15, 15, 111, 239, 15, 15, 1551, 3599, 8191, 16383, 32767, 65535]) (plan := [0, 1, 2, 3, 4, 5, 6, 7, 8, 9, 10, 11, 12, 13, 14, 15, 16]) (E := []) (by kernel_rfl) (by kernel_rfl) (by kernel_rfl) (by kernel_rfl) ?_
    repeat refine YX ?_
    refine isPlan ?_
    refine z3 (fun hij => ?_) (fun hij => ?_)
    rotate_left
    · repeat refine YX ?_
      repeat(refine ZX ?_;try intro _)
      exact ⟨j, ⟨⟨hpt, hst, hup⟩, fun h => absurd h (by omega)⟩, by repeat (first | exact SubL.nil | refine SubL.cons rfl ?_), List.Sublist.refl _⟩
    obtain ⟨x, hx, mx, hL0⟩ := oJ.ldE (C := cx B0 old) (et := 91) enP_len rfl (sz rfl) (i := j) (by omega) H
    obtain ⟨y, hy, my, hL1⟩ := oJ.ldE (C := cx B0 old) (et := 91) enP_len rfl (sz rfl) (i := a) (by omega) H
    repeat refine YX ?_
    refine pl_S rfl rfl rfl rfl rfl rfl (st_call rfl rfl hcal rfl (hcmp _ x y _ _ (hp _ (pr.perm.mem_iff.1 mx)) (hp _ (pr.perm.mem_iff.1 my)) fun z hz => ⟨by exact rec_auto, ?_⟩))
    repeat refine YX ?_
    repeat(refine ZX ?_;try intro _)
    rw [rk_at (r := rkP) hx, rk_at (r := rkP) hy] at hz
    refine ct_condT (te_n te_d) rfl (fun hlt2 => ?_) (fun hlt2 => ?_)
    · repeat(refine ZX ?_;try intro _)
      exact ⟨j - 1, ⟨hpt.down (by omega) (by omega) (mt hz.2 hlt2), by omega, hup⟩, by omega, by
        refine SubL.cons rfl (SubL.consI (q := (j : Int) - 1) rfl (by omega) ?_)
        repeat (first | exact SubL.nil | refine SubL.cons rfl ?_), List.Sublist.refl _⟩
    · repeat(refine ZX ?_;try intro _)
      exact ⟨j, ⟨⟨hpt, hst, hup⟩, fun h => hz.1 hlt2⟩, by repeat (first | exact SubL.nil | refine SubL.cons rfl ?_), List.Sublist.refl _⟩
  clear hpt hup
  rintro j ⟨⟨hpt, hst2, hup⟩, hdn⟩
  have hai := hpt.ai
  have hje := hpt.jb
  have hij1 := hpt.ij
  repeat(refine ZX ?_;try intro _)
  obtain ⟨x, hx, mx, hL0⟩ := oJ.ldE (C := cx B0 old) (et := 91) enP_len rfl (sz rfl) (i := j) (by omega) H
  obtain ⟨y, hy, my, hL1⟩ := oJ.ldE (C := cx B0 old) (et := 91) enP_len rfl (sz rfl) (i := a) (by omega) H
  refine ct_condT te_d rfl (fun hgt => ?_) (fun hgt => ?_)
  · obtain ⟨H1, H2, o2, s1, s2⟩ := oJ.swp (C := cx B0 old) (et := 91) enP_len enP_one (sz rfl) hx hy
    repeat(refine ZX ?_;try intro _)
    refine ct_draw (masks := [0, 0, 0, 0, 0, 0, 48, 112, 0, 0, 768, 1792, 4083, 8179, 16383, 32767]) (plan := [0, 1, 2, 3, 4, 5, 6, 7, 8, 9, 10, 11, 12, 13, 14, 15]) (E := []) (by kernel_rfl) (by kernel_rfl) (by kernel_rfl) (by kernel_rfl) ?_
    repeat refine YX ?_
    apply pl_st rfl rfl rfl rfl rfl rfl rfl rfl
    case hp => exact s1 [] H
    case hr => exact rec_auto
    repeat refine YX ?_
    apply pl_st rfl rfl rfl rfl rfl rfl rfl rfl
    case hp => exact s2 [] H
    case hr => exact rec_auto
    repeat refine YX ?_
    repeat(refine ZX ?_;try intro _)
    exact re_2 rfl rfl rfl (List.Sublist.refl _) (hQ j _ _ _ o2 (pr.trans (PR.sw (by omega) (by omega) (by omega) (by omega) (by omega) (by omega))) (hpt.done (by omega) (by omega)))
  clear hx hy mx my hL0 hL1
  obtain ⟨x, hx, mx, hL0⟩ := oJ.ldE (C := cx B0 old) (et := 91) enP_len rfl (sz rfl) (i := i) (by omega) H
  obtain ⟨y, hy, my, hL1⟩ := oJ.ldE (C := cx B0 old) (et := 91) enP_len rfl (sz rfl) (i := j) (by omega) H
  obtain ⟨H1, H2, o2, s1, s2⟩ := oJ.swp (C := cx B0 old) (et := 91) enP_len enP_one (sz rfl) hx hy
  repeat(refine ZX ?_;try intro _)
  refine ct_draw (masks := [0, 0, 0, 0, 0, 0, 48, 112, 0, 0, 768, 1792, 4083, 8179, 16383, 32767]) (plan := [0, 1, 2, 3, 4, 5, 6, 7, 8, 9, 10, 11, 12, 13, 14, 15]) (E := []) (by kernel_rfl) (by kernel_rfl) (by kernel_rfl) (by kernel_rfl) ?_
  repeat refine YX ?_
  apply pl_st rfl rfl rfl rfl rfl rfl rfl rfl
  case hp => exact s1 [] H
  case hr => exact rec_auto
  repeat refine YX ?_
  apply pl_st rfl rfl rfl rfl rfl rfl rfl rfl
  case hp => exact s2 [] H
  case hr => exact rec_auto
  repeat refine YX ?_
  repeat(refine ZX ?_;try intro _)
  obtain ⟨hlt, hpt2⟩ := hpt.swap (by omega) (by omega) (hup (by omega)) (hdn (by omega))
  have pr2 := pr.trans (PR.sw (L := J) (a := a) (b := e) (i := i) (j := j) (by omega) (by omega) (by omega) (by omega) (by omega) (by omega))
  have hlen2 : (sw J i j).length = N := by rw [sw_len]; exact hlen
  rw [show (j : Int) - 1 = ((j - 1 : Nat) : Int) by omega, show (i : Int) + 1 = ((i + 1 : Nat) : Int) by omega]
  clear s1 s2 hL0 hL1 hx hy mx my hpt hup hdn oJ pr hlen
  refine loop_ind (ι := Nat × Nat × List Pk × Hp) (i + 1, j - 1, sw J i j, H2) (fun k => k.2.1 + 1 - k.1) (fun k => Part rkP a e k.1 k.2.1 k.2.2.1 ∧ PR a e L k.2.2.1 ∧ k.2.2.1.length = N ∧ Own enP 22 k.2.2.1 (.slice (some ⟨b, 0, none⟩) N c) k.2.2.2)
    (fun k => [(12, .int .i64 (k.1 : Int)), (13, .int .i64 (k.2.1 : Int)), (0, (.slice (some ⟨b, 0, none⟩) N c)), (1, .int .i64 (a : Int)), (4, .func (.func g) first cap)]) (fun k => k.2.2.2 ++ H) ⟨hpt2, pr2, hlen2, o2⟩ (by repeat (first | exact SubL.nil | refine SubL.cons rfl ?_)) (List.Sublist.refl _) ?_
  clear hpt2 pr2 hlen2 o2 hlt hai hje hij1 hgt hst1 hst2
  rintro ⟨i0, j0, J, G⟩ ⟨hpt, pr, hlen, oJ⟩
  dsimp only at hpt pr hlen oJ ⊢
  repeat(refine ZX ?_;try intro _)
  refine ct_midB (ι := Nat) (fun i => (Part rkP a e i j0 J ∧ i0 ≤ i) ∧ (i ≤ j0 → ¬ rk rkP J i < rk rkP J a)) (fun i => [(12, .int .i64 (i : Int)), (13, .int .i64 (j0 : Int)), (0, (.slice (some ⟨b, 0, none⟩) N c)), (1, .int .i64 (a : Int)), (4, .func (.func g) first cap)]) (fun _ => G ++ H) ?_ ?_
  · refine loop_ind (ι := Nat) i0 (fun i => j0 + 1 - i) (fun i => Part rkP a e i j0 J ∧ i0 ≤ i) (fun i => [(12, .int .i64 (i : Int)), (13, .int .i64 (j0 : Int)), (0, (.slice (some ⟨b, 0, none⟩) N c)), (1, .int .i64 (a : Int)), (4, .func (.func g) first cap)]) (fun _ => G ++ H) ⟨hpt, Nat.le_refl _⟩ (by repeat (first | exact SubL.nil | refine SubL.cons rfl ?_)) (List.Sublist.refl _) ?_
    clear hpt
    rintro i ⟨hpt, hst⟩
    have hai := hpt.ai
    have hje := hpt.jb
    repeat(refine ZX ?_;try intro _)
    refine ct_draw (masks := [0, 0, 3, 7, 15, 15, 15, 111, 239, 15, 15, 1551, 3599, 8191, 16383, 32767]) (plan := [0, 1, 2, 3, 4, 5, 6, 7, 8, 9, 10, 11, 12, 13, 14, 15]) (E := []) (by kernel_rfl) (by kernel_rfl) (by kernel_rfl) (by kernel_rfl) ?_
    repeat refine YX ?_
    refine isPlan ?_
    refine z3 (fun hij => ?_) (fun hij => ?_)
    rotate_left
    · repeat refine YX ?_
      repeat(refine ZX ?_;try intro _)
      exact ⟨i, ⟨⟨hpt, hst⟩, fun h => absurd h (by omega)⟩, by repeat (first | exact SubL.nil | refine SubL.cons rfl ?_), List.Sublist.refl _⟩
    obtain ⟨x, hx, mx, hL0⟩ := oJ.ldE (C := cx B0 old) (et := 91) enP_len rfl (sz rfl) (i := i) (by omega) H
    obtain ⟨y, hy, my, hL1⟩ := oJ.ldE (C := cx B0 old) (et := 91) enP_len rfl (sz rfl) (i := a) (by omega) H
    repeat refine YX ?_
    refine pl_S rfl rfl rfl rfl rfl rfl (st_call rfl rfl hcal rfl (hcmp _ x y _ _ (hp _ (pr.perm.mem_iff.1 mx)) (hp _ (pr.perm.mem_iff.1 my)) fun z hz => ⟨by exact rec_auto, ?_⟩))
    repeat refine YX ?_
    repeat(refine ZX ?_;try intro _)
    rw [rk_at (r := rkP) hx, rk_at (r := rkP) hy] at hz
    refine ct_condT te_d rfl (fun hlt2 => ?_) (fun hlt2 => ?_)
    · repeat(refine ZX ?_;try intro _)
      exact ⟨i + 1, ⟨hpt.up (by omega) (hz.1 hlt2), by omega⟩, by omega, by
        repeat (first | exact SubL.nil | refine SubL.cons rfl ?_), List.Sublist.refl _⟩
    · repeat(refine ZX ?_;try intro _)
      exact ⟨i, ⟨⟨hpt, hst⟩, fun h => mt hz.2 hlt2⟩, by repeat (first | exact SubL.nil | refine SubL.cons rfl ?_), List.Sublist.refl _⟩
  clear hpt
  rintro i ⟨⟨hpt, hst1⟩, hup⟩
  repeat(refine ZX ?_;try intro _)
  refine ct_midB (ι := Nat) (fun j => (Part rkP a e i j J ∧ j ≤ j0 ∧ (i ≤ j0 → ¬ rk rkP J i < rk rkP J a)) ∧ (i ≤ j → rk rkP J j < rk rkP J a)) (fun j => [(12, .int .i64 (i : Int)), (13, .int .i64 (j : Int)), (0, (.slice (some ⟨b, 0, none⟩) N c)), (1, .int .i64 (a : Int)), (4, .func (.func g) first cap)]) (fun _ => G ++ H) ?_ ?_
  · refine loop_ind (ι := Nat) j0 (fun j => j + 1 - i) (fun j => Part rkP a e i j J ∧ j ≤ j0 ∧ (i ≤ j0 → ¬ rk rkP J i < rk rkP J a)) (fun j => [(12, .int .i64 (i : Int)), (13, .int .i64 (j : Int)), (0, (.slice (some ⟨b, 0, none⟩) N c)), (1, .int .i64 (a : Int)), (4, .func (.func g) first cap)]) (fun _ => G ++ H) ⟨hpt, Nat.le_refl _, hup⟩ (by repeat (first | exact SubL.nil | refine SubL.cons rfl ?_)) (List.Sublist.refl _) ?_
    clear hpt hup
    rintro j ⟨hpt, hst, hup⟩
    have hai := hpt.ai
    have hje := hpt.jb
    repeat(refine ZX ?_;try intro _)
    refine ct_draw (masks := [0, 0, 3, 7, 15, 15, 15, 111, 239, 15, 15, 1551, 3599, 8191, 16383, 32767, 65535]) (plan := [0, 1, 2, 3, 4, 5, 6, 7, 8, 9, 10, 11, 12, 13, 14, 15, 16]) (E := []) (by kernel_rfl) (by kernel_rfl) (by kernel_rfl) (by kernel_rfl) ?_
    repeat refine YX ?_
    refine isPlan ?_
    refine z3 (fun hij => ?_) (fun hij => ?_)
    rotate_left
    · repeat refine YX ?_
      repeat(refine ZX ?_;try intro _)
      exact ⟨j, ⟨⟨hpt, hst, hup⟩, fun h => absurd h (by omega)⟩, by repeat (first | exact SubL.nil | refine SubL.cons rfl ?_), List.Sublist.refl _⟩
    obtain ⟨x, hx, mx, hL0⟩ := oJ.ldE (C := cx B0 old) (et := 91) enP_len rfl (sz rfl) (i := j) (by omega) H
    obtain ⟨y, hy, my, hL1⟩ := oJ.ldE (C := cx B0 old) (et := 91) enP_len rfl (sz rfl) (i := a) (by omega) H
    repeat refine YX ?_
    refine pl_S rfl rfl rfl rfl rfl rfl (st_call rfl rfl hcal rfl (hcmp _ x y _ _ (hp _ (pr.perm.mem_iff.1 mx)) (hp _ (pr.perm.mem_iff.1 my)) fun z hz => ⟨by exact rec_auto, ?_⟩))
    repeat refine YX ?_
    repeat(refine ZX ?_;try intro _)
    rw [rk_at (r := rkP) hx, rk_at (r := rkP) hy] at hz
    refine ct_condT (te_n te_d) rfl (fun hlt2 => ?_) (fun hlt2 => ?_)
    · repeat(refine ZX ?_;try intro _)
      exact ⟨j - 1, ⟨hpt.down (by omega) (by omega) (mt hz.2 hlt2), by omega, hup⟩, by omega, by
        refine SubL.cons rfl (SubL.consI (q := (j : Int) - 1) rfl (by omega) ?_)
        repeat (first | exact SubL.nil | refine SubL.cons rfl ?_), List.Sublist.refl _⟩
    · repeat(refine ZX ?_;try intro _)
      exact ⟨j, ⟨⟨hpt, hst, hup⟩, fun h => hz.1 hlt2⟩, by repeat (first | exact SubL.nil | refine SubL.cons rfl ?_), List.Sublist.refl _⟩
  clear hpt hup
  rintro j ⟨⟨hpt, hst2, hup⟩, hdn⟩
  have hai := hpt.ai
  have hje := hpt.jb
  have hij1 := hpt.ij
  repeat(refine ZX ?_;try intro _)
  refine ct_condT te_d rfl (fun hgt => ?_) (fun hgt => ?_)
  · obtain ⟨x, hx, mx, hL0⟩ := oJ.ldE (C := cx B0 old) (et := 91) enP_len rfl (sz rfl) (i := j) (by omega) H
    obtain ⟨y, hy, my, hL1⟩ := oJ.ldE (C := cx B0 old) (et := 91) enP_len rfl (sz rfl) (i := a) (by omega) H
    obtain ⟨H1, H2, o2, s1, s2⟩ := oJ.swp (C := cx B0 old) (et := 91) enP_len enP_one (sz rfl) hx hy
    repeat(refine ZX ?_;try intro _)
    refine ct_draw (masks := [0, 0, 0, 0, 0, 0, 48, 112, 0, 0, 768, 1792, 4083, 8179, 16383, 32767]) (plan := [0, 1, 2, 3, 4, 5, 6, 7, 8, 9, 10, 11, 12, 13, 14, 15]) (E := []) (by kernel_rfl) (by kernel_rfl) (by kernel_rfl) (by kernel_rfl) ?_
    repeat refine YX ?_
    apply pl_st rfl rfl rfl rfl rfl rfl rfl rfl
    case hp => exact s1 [] H
    case hr => exact rec_auto
    repeat refine YX ?_
    apply pl_st rfl rfl rfl rfl rfl rfl rfl rfl
    case hp => exact s2 [] H
    case hr => exact rec_auto
    repeat refine YX ?_
    repeat(refine ZX ?_;try intro _)
    exact re_2 rfl rfl rfl (List.Sublist.refl _) (hQ j _ _ _ o2 (pr.trans (PR.sw (by omega) (by omega) (by omega) (by omega) (by omega) (by omega))) (hpt.done (by omega) (by omega)))
  obtain ⟨x, hx, mx, hL0⟩ := oJ.ldE (C := cx B0 old) (et := 91) enP_len rfl (sz rfl) (i := i) (by omega) H
  obtain ⟨y, hy, my, hL1⟩ := oJ.ldE (C := cx B0 old) (et := 91) enP_len rfl (sz rfl) (i := j) (by omega) H
  obtain ⟨H1, H2, o2, s1, s2⟩ := oJ.swp (C := cx B0 old) (et := 91) enP_len enP_one (sz rfl) hx hy
  repeat(refine ZX ?_;try intro _)
  refine ct_draw (masks := [0, 0, 0, 0, 0, 0, 48, 112, 0, 0, 768, 1792, 4083, 8179, 16383, 32767]) (plan := [0, 1, 2, 3, 4, 5, 6, 7, 8, 9, 10, 11, 12, 13, 14, 15]) (E := []) (by kernel_rfl) (by kernel_rfl) (by kernel_rfl) (by kernel_rfl) ?_
  repeat refine YX ?_
  apply pl_st rfl rfl rfl rfl rfl rfl rfl rfl
  case hp => exact s1 [] H
  case hr => exact rec_auto
  repeat refine YX ?_
  apply pl_st rfl rfl rfl rfl rfl rfl rfl rfl
  case hp => exact s2 [] H
  case hr => exact rec_auto
  repeat refine YX ?_
  repeat(refine ZX ?_;try intro _)
  obtain ⟨hlt, hpt2⟩ := hpt.swap (by omega) (by omega) (hup (by omega)) (hdn (by omega))
  have pr2 := pr.trans (PR.sw (L := J) (a := a) (b := e) (i := i) (j := j) (by omega) (by omega) (by omega) (by omega) (by omega) (by omega))
  exact ⟨(i + 1, j - 1, sw J i j, H2), ⟨hpt2, pr2, by dsimp only; rw [sw_len]; exact hlen, o2⟩, by dsimp only; omega, by
    refine SubL.cons rfl (SubL.consI (q := (j : Int) - 1) rfl (by dsimp only; omega) ?_)
    repeat (first | exact SubL.nil | refine SubL.cons rfl ?_), List.Sublist.refl _⟩
theorem peqP_ct {p : Nat} (hc : CmpT (cx B0 old) enP rkP okP f) (ho : Own enP 22 L (.slice (some ⟨b, 0, none⟩) N c) Hs) (hp : ∀ x ∈ L, okP x) (hLN : L.length = N) (hN : N ≤ 100000) (ha : a + 1 < e) (he : e ≤ N) (hap : a ≤ p) (hpe : p < e) (hmn : ∀ q, a ≤ q → q < e → rk rkP L p ≤ rk rkP L q)
    (hQ : ∀ (m : Nat) L' Hs', Own enP 22 L' (.slice (some ⟨b, 0, none⟩) N c) Hs' → PR a e L L' → a < m → m ≤ e → (∀ q, a ≤ q → q < m → rk rkP L' q = rk rkP L' a) → (∀ q, a ≤ q → q < e → rk rkP L' a ≤ rk rkP L' q) → Q (.int .i64 m) (Hs' ++ H)) :
    CallT (cx B0 old) (acall (cx B0 old) ansP (n + 11)) 146 [(.slice (some ⟨b, 0, none⟩) N c), .int .i64 a, .int .i64 e, .int .i64 p, f] (Hs ++ H) Q := by
  obtain ⟨g, first, cap, rfl, hcal, hcmp⟩ := hc
  refine call_in 90 rfl Tryz.func146 rfl rfl ?_
  obtain ⟨x, hx, mx, hL0⟩ := ho.ldE (C := cx B0 old) (et := 91) enP_len rfl (sz rfl) (i := a) (by omega) H
  obtain ⟨y, hy, my, hL1⟩ := ho.ldE (C := cx B0 old) (et := 91) enP_len rfl (sz rfl) (i := p) (by omega) H
  obtain ⟨H1, H2, o2, s1, s2⟩ := ho.swp (C := cx B0 old) (et := 91) enP_len enP_one (sz rfl) hx hy
  repeat(refine ZX ?_;try intro _)
  refine ct_draw (masks := [0, 0, 0, 0, 0, 0, 48, 112, 0, 0, 768, 1792, 4083, 8179, 16383, 32767]) (plan := [0, 1, 2, 3, 4, 5, 6, 7, 8, 9, 10, 11, 12, 13, 14, 15]) (E := []) (by kernel_rfl) (by kernel_rfl) (by kernel_rfl) (by kernel_rfl) ?_
  repeat refine YX ?_
  apply pl_st rfl rfl rfl rfl rfl rfl rfl rfl
  case hp => exact s1 [] H
  case hr => exact rec_auto
  repeat refine YX ?_
  apply pl_st rfl rfl rfl rfl rfl rfl rfl rfl
  case hp => exact s2 [] H
  case hr => exact rec_auto
  repeat refine YX ?_
  repeat(refine ZX ?_;try intro _)
  have pr : PR a e L (sw L a p) := PR.sw (by omega) (by omega) (by omega) (by omega) (by omega) (by omega)
  have hlen : (sw L a p).length = N := by rw [sw_len]; exact hLN
  have hpt : PartE rkP a e (a + 1) (e - 1) (sw L a p) := PartE.start ha (fun q h1 h2 => by
    have key := fun c => sw_rk (r := rkP) (L := L) (i := a) (j := p) (by omega) (by omega) c
    have h3 := (PR.sw (L := L) (a := a) (b := e) (i := a) (j := p) (by omega) (by omega) (by omega) (by omega) (by omega) (by omega)).all (r := rkP) (by omega) (P := fun x => rk rkP L p ≤ x) hmn q h1 h2
    have h4 : rk rkP (sw L a p) a = rk rkP L p := by
      rw [key]
      by_cases e : a = p
      · rw [if_pos e, e]
      · rw [if_neg e, if_pos rfl]
    rw [h4]; exact h3)
  rw [show (e : Int) - 1 = ((e - 1 : Nat) : Int) by omega, show (a : Int) + 1 = ((a + 1 : Nat) : Int) by omega]
  clear s1 s2 hL0 hL1 hx hy mx my
  refine loop_ind (ι := Nat × Nat × List Pk × Hp) (a + 1, e - 1, sw L a p, H2) (fun k => k.2.1 + 1 - k.1) (fun k => PartE rkP a e k.1 k.2.1 k.2.2.1 ∧ PR a e L k.2.2.1 ∧ k.2.2.1.length = N ∧ Own enP 22 k.2.2.1 (.slice (some ⟨b, 0, none⟩) N c) k.2.2.2)
    (fun k => [(11, .int .i64 (k.1 : Int)), (12, .int .i64 (k.2.1 : Int)), (0, (.slice (some ⟨b, 0, none⟩) N c)), (1, .int .i64 (a : Int)), (4, .func (.func g) first cap)]) (fun k => k.2.2.2 ++ H) ⟨hpt, pr, hlen, o2⟩ (by repeat (first | exact SubL.nil | refine SubL.cons rfl ?_)) (List.Sublist.refl _) ?_
  clear hpt pr hlen o2
  rintro ⟨i0, j0, J, G⟩ ⟨hpt, pr, hlen, oJ⟩
  dsimp only at hpt pr hlen oJ ⊢
  repeat(refine ZX ?_;try intro _)
  refine ct_midB (ι := Nat) (fun i => (PartE rkP a e i j0 J ∧ i0 ≤ i) ∧ (i ≤ j0 → rk rkP J a < rk rkP J i)) (fun i => [(11, .int .i64 (i : Int)), (12, .int .i64 (j0 : Int)), (0, (.slice (some ⟨b, 0, none⟩) N c)), (1, .int .i64 (a : Int)), (4, .func (.func g) first cap)]) (fun _ => G ++ H) ?_ ?_
  · refine loop_ind (ι := Nat) i0 (fun i => j0 + 1 - i) (fun i => PartE rkP a e i j0 J ∧ i0 ≤ i) (fun i => [(11, .int .i64 (i : Int)), (12, .int .i64 (j0 : Int)), (0, (.slice (some ⟨b, 0, none⟩) N c)), (1, .int .i64 (a : Int)), (4, .func (.func g) first cap)]) (fun _ => G ++ H) ⟨hpt, Nat.le_refl _⟩ (by repeat (first | exact SubL.nil | refine SubL.cons rfl ?_)) (List.Sublist.refl _) ?_
    clear hpt
    rintro i ⟨hpt, hst⟩
    have hai := hpt.ai
    have hje := hpt.jb
    repeat(refine ZX ?_;try intro _)
    refine ct_draw (masks := [0, 0, 3, 7, 15, 15, 15, 111, 239, 15, 15, 1551, 3599, 8191, 16383, 32767, 65535]) (plan := [0, 1, 2, 3, 4, 5, 6, 7, 8, 9, 10, 11, 12, 13, 14, 15, 16]) (E := []) (by kernel_rfl) (by kernel_rfl) (by kernel_rfl) (by kernel_rfl) ?_
    repeat refine YX ?_
    refine isPlan ?_
    refine z3 (fun hij => ?_) (fun hij => ?_)
    rotate_left
    · repeat refine YX ?_
      repeat(refine ZX ?_;try intro _)
      exact ⟨i, ⟨⟨hpt, hst⟩, fun h => absurd h (by omega)⟩, by repeat (first | exact SubL.nil | refine SubL.cons rfl ?_), List.Sublist.refl _⟩
    obtain ⟨x, hx, mx, hL0⟩ := oJ.ldE (C := cx B0 old) (et := 91) enP_len rfl (sz rfl) (i := a) (by omega) H
    obtain ⟨y, hy, my, hL1⟩ := oJ.ldE (C := cx B0 old) (et := 91) enP_len rfl (sz rfl) (i := i) (by omega) H
    repeat refine YX ?_
    refine pl_S rfl rfl rfl rfl rfl rfl (st_call rfl rfl hcal rfl (hcmp _ x y _ _ (hp _ (pr.perm.mem_iff.1 mx)) (hp _ (pr.perm.mem_iff.1 my)) fun z hz => ⟨by exact rec_auto, ?_⟩))
    repeat refine YX ?_
    repeat(refine ZX ?_;try intro _)
    rw [rk_at (r := rkP) hx, rk_at (r := rkP) hy] at hz
    refine ct_condT (te_n te_d) rfl (fun hlt2 => ?_) (fun hlt2 => ?_)
    · repeat(refine ZX ?_;try intro _)
      exact ⟨i + 1, ⟨hpt.up (by omega) (mt hz.2 hlt2), by omega⟩, by omega, by
        repeat (first | exact SubL.nil | refine SubL.cons rfl ?_), List.Sublist.refl _⟩
    · repeat(refine ZX ?_;try intro _)
      exact ⟨i, ⟨⟨hpt, hst⟩, fun h => hz.1 hlt2⟩, by repeat (first | exact SubL.nil | refine SubL.cons rfl ?_), List.Sublist.refl _⟩
  clear hpt
  rintro i ⟨⟨hpt, hst1⟩, hup⟩
  repeat(refine ZX ?_;try intro _)
  refine ct_midB (ι := Nat) (fun j => (PartE rkP a e i j J ∧ j ≤ j0 ∧ (i ≤ j0 → rk rkP J a < rk rkP J i)) ∧ (i ≤ j → ¬ rk rkP J a < rk rkP J j)) (fun j => [(11, .int .i64 (i : Int)), (12, .int .i64 (j : Int)), (0, (.slice (some ⟨b, 0, none⟩) N c)), (1, .int .i64 (a : Int)), (4, .func (.func g) first cap)]) (fun _ => G ++ H) ?_ ?_
  · refine loop_ind (ι := Nat) j0 (fun j => j + 1 - i) (fun j => PartE rkP a e i j J ∧ j ≤ j0 ∧ (i ≤ j0 → rk rkP J a < rk rkP J i)) (fun j => [(11, .int .i64 (i : Int)), (12, .int .i64 (j : Int)), (0, (.slice (some ⟨b, 0, none⟩) N c)), (1, .int .i64 (a : Int)), (4, .func (.func g) first cap)]) (fun _ => G ++ H) ⟨hpt, Nat.le_refl _, hup⟩ (by repeat (first | exact SubL.nil | refine SubL.cons rfl ?_)) (List.Sublist.refl _) ?_
    clear hpt hup
    rintro j ⟨hpt, hst, hup⟩
    have hai := hpt.ai
    have hje := hpt.jb
    repeat(refine ZX ?_;try intro _)
    refine ct_draw (masks := [0, 0, 3, 7, 15, 15, 15, 111, 239, 15, 15, 1551, 3599, 8191, 16383, 32767]) (plan := [0, 1, 2, 3, 4, 5, 6, 7, 8, 9, 10, 11, 12, 13, 14, 15]) (E := []) (by kernel_rfl) (by kernel_rfl) (by kernel_rfl) (by kernel_rfl) ?_
    repeat refine YX ?_
    refine isPlan ?_
    refine z3 (fun hij => ?_) (fun hij => ?_)
    rotate_left
    · repeat refine YX ?_
      repeat(refine ZX ?_;try intro _)
      exact ⟨j, ⟨⟨hpt, hst, hup⟩, fun h => absurd h (by omega)⟩, by repeat (first | exact SubL.nil | refine SubL.cons rfl ?_), List.Sublist.refl _⟩
    obtain ⟨x, hx, mx, hL0⟩ := oJ.ldE (C := cx B0 old) (et := 91) enP_len rfl (sz rfl) (i := a) (by omega) H
    obtain ⟨y, hy, my, hL1⟩ := oJ.ldE (C := cx B0 old) (et := 91) enP_len rfl (sz rfl) (i := j) (by omega) H
    repeat refine YX ?_
    refine pl_S rfl rfl rfl rfl rfl rfl (st_call rfl rfl hcal rfl (hcmp _ x y _ _ (hp _ (pr.perm.mem_iff.1 mx)) (hp _ (pr.perm.mem_iff.1 my)) fun z hz => ⟨by exact rec_auto, ?_⟩))
    repeat refine YX ?_
    repeat(refine ZX ?_;try intro _)
    rw [rk_at (r := rkP) hx, rk_at (r := rkP) hy] at hz
    refine ct_condT te_d rfl (fun hlt2 => ?_) (fun hlt2 => ?_)
    · repeat(refine ZX ?_;try intro _)
      exact ⟨j - 1, ⟨hpt.down (by omega) (hz.1 hlt2), by omega, hup⟩, by omega, by
        refine SubL.cons rfl (SubL.consI (q := (j : Int) - 1) rfl (by omega) ?_)
        repeat (first | exact SubL.nil | refine SubL.cons rfl ?_), List.Sublist.refl _⟩
    · repeat(refine ZX ?_;try intro _)
      exact ⟨j, ⟨⟨hpt, hst, hup⟩, fun h => mt hz.2 hlt2⟩, by repeat (first | exact SubL.nil | refine SubL.cons rfl ?_), List.Sublist.refl _⟩
  clear hpt hup
  rintro j ⟨⟨hpt, hst2, hup⟩, hdn⟩
  have hai := hpt.ai
  have hje := hpt.jb
  have hij1 := hpt.ij
  repeat(refine ZX ?_;try intro _)
  refine ct_condT te_d rfl (fun hgt => ?_) (fun hgt => ?_)
  · repeat(refine ZX ?_;try intro _)
    exact re_1 rfl rfl (List.Sublist.refl _) (hQ i J G oJ pr (by omega) (by omega) (fun q h1 h2 => Int.le_antisymm (hpt.lo q h1 h2) (hpt.mn q h1 (by omega))) hpt.mn)
  obtain ⟨x, hx, mx, hL0⟩ := oJ.ldE (C := cx B0 old) (et := 91) enP_len rfl (sz rfl) (i := i) (by omega) H
  obtain ⟨y, hy, my, hL1⟩ := oJ.ldE (C := cx B0 old) (et := 91) enP_len rfl (sz rfl) (i := j) (by omega) H
  obtain ⟨H1, H2, o2, s1, s2⟩ := oJ.swp (C := cx B0 old) (et := 91) enP_len enP_one (sz rfl) hx hy
  repeat(refine ZX ?_;try intro _)
  refine ct_draw (masks := [0, 0, 0, 0, 0, 0, 48, 112, 0, 0, 768, 1792, 4083, 8179, 16383, 32767]) (plan := [0, 1, 2, 3, 4, 5, 6, 7, 8, 9, 10, 11, 12, 13, 14, 15]) (E := []) (by kernel_rfl) (by kernel_rfl) (by kernel_rfl) (by kernel_rfl) ?_
  repeat refine YX ?_
  apply pl_st rfl rfl rfl rfl rfl rfl rfl rfl
  case hp => exact s1 [] H
  case hr => exact rec_auto
  repeat refine YX ?_
  apply pl_st rfl rfl rfl rfl rfl rfl rfl rfl
  case hp => exact s2 [] H
  case hr => exact rec_auto
  repeat refine YX ?_
  repeat(refine ZX ?_;try intro _)
  obtain ⟨hlt, hpt2⟩ := hpt.swap (by omega) (by omega) (hup (by omega)) (hdn (by omega))
  have pr2 := pr.trans (PR.sw (L := J) (a := a) (b := e) (i := i) (j := j) (by omega) (by omega) (by omega) (by omega) (by omega) (by omega))
  exact ⟨(i + 1, j - 1, sw J i j, H2), ⟨hpt2, pr2, by dsimp only; rw [sw_len]; exact hlen, o2⟩, by dsimp only; omega, by
    refine SubL.cons rfl (SubL.consI (q := (j : Int) - 1) rfl (by dsimp only; omega) ?_)
    repeat (first | exact SubL.nil | refine SubL.cons rfl ?_), List.Sublist.refl _⟩
end
end Go.Proofs.YtphadapcafibpaaGreat.Abs

/- Patterns are broken: the library's sort moves some elements. -/
namespace Go.Proofs.YtphadapcafibpaaGreat.Abs
open Go
set_option linter.unusedVariables false
section
variable {B0 : Nat} {old : Nat → Option (List Value)} {n : Nat} {H Hs : Hp} {Q : Value → Hp → Prop} {L : List Pk} {b c N a e : Nat} {f : Value}
set_option maxRecDepth 10000
set_option maxHeartbeats 4000000
theorem brkP_ct (ho : Own enP 22 L (.slice (some ⟨b, 0, none⟩) N c) Hs) (hLN : L.length = N) (hN : N ≤ 30000) (ha : a + 8 ≤ e) (he : e ≤ N)
    (hQ : ∀ w L' Hs', Own enP 22 L' (.slice (some ⟨b, 0, none⟩) N c) Hs' → PR a e L L' → Q w (Hs' ++ H)) :
    CallT (cx B0 old) (acall (cx B0 old) ansP (n + 4)) 142 [(.slice (some ⟨b, 0, none⟩) N c), .int .i64 a, .int .i64 e, f] (Hs ++ H) Q := by
  refine call_in4 67 rfl Tryz.func142 rfl rfl ?_
  have hhi : (e : Int) - (a : Int) = ((e - a : Nat) : Int) := by omega
  have hq : IntKind.i64.wrap ((((e - a : Nat) : Int)).tdiv 4) = (((e - a) / 4 : Nat) : Int) := quoN (e - a) 4 (by omega)
  repeat(refine ZX ?_;try intro _)
  rw [hhi]
  generalize hd : e - a = l at *
  generalize hl4 : l / 4 = l4 at *
  repeat(refine ZX ?_;try intro _)
  refine ct_condT te_d rfl (fun h8 => ?_) (fun h8 => ?_)
  rotate_left
  · exfalso; omega
  repeat(refine ZX ?_;try intro _)
  rename_i sb
  refine rt_step rfl rfl rfl (st_call rfl rfl rfl rfl (npt_ct l (by omega) (by omega) fun k hk1 hk2 => ?_))
  repeat(refine ZX ?_;try intro _)
  apply rt_p rfl rfl rfl
  case hp => exact p_quo rfl rfl (by decide)
  rw [hq]
  repeat(refine ZX ?_;try intro _)
  have h2k : 0 < 2 ^ k := Nat.pow_pos (by decide)
  generalize hmod : 2 ^ k = md at *
  refine loop_ind (ι := Nat × List Pk × Hp × Int) (a + l4 * 2 - 1, L, Hs, IntKind.u64.wrap (l : Int)) (fun i => a + l4 * 2 + 2 - i.1) (fun i => a ≤ i.1 ∧ i.1 ≤ a + l4 * 2 + 2 ∧ PR a e L i.2.1 ∧ Own enP 22 i.2.1 (.slice (some ⟨b, 0, none⟩) N c) i.2.2.1)
    (fun i => [(11, .int .i64 (i.1 : Int)), (10, .int .u64 (md : Int)), (9, .pointer (some ⟨sb, 0, none⟩)), (8, .int .i64 (l : Int)), (0, (.slice (some ⟨b, 0, none⟩) N c)), (1, .int .i64 (a : Int))]) (fun i => (sb, .row [.int .u64 i.2.2.2] 1 false) :: (i.2.2.1 ++ H)) ⟨by dsimp only; omega, by dsimp only; omega, PR.refl _ _ _, ho⟩ (by
      refine SubL.consI (q := (a : Int) + (l4 : Int) * 2 - 1) rfl (by dsimp only; omega) ?_
      repeat (first | exact SubL.nil | refine SubL.cons rfl ?_)) (List.Sublist.refl _) ?_
  rintro ⟨i, J, G, s⟩ ⟨hai, hie, pr, oJ⟩
  dsimp only at hai hie pr oJ ⊢
  have hJ := pr.len
  repeat(refine ZX ?_;try intro _)
  apply rt_p rfl rfl rfl
  case hp => exact p_quo rfl rfl (by decide)
  rw [hq]
  repeat(refine ZX ?_;try intro _)
  refine ct_condT te_d rfl (fun hi => ?_) (fun hi => ?_)
  rotate_left
  · repeat(refine ZX ?_;try intro _)
    exact re_0 rfl (List.sublist_cons_self _ _) (fun w => hQ w J G oJ pr)
  repeat(refine ZX ?_;try intro _)
  refine rt_step rfl rfl rfl (st_call rfl rfl rfl rfl (nxt_ct fun v => ?_))
  repeat(refine ZX ?_;try intro _)
  obtain ⟨o, ho, eo⟩ := andB v md h2k (by omega)
  rw [eo]
  clear eo
  refine ct_midE (ι := Nat) (fun o => o < l) (fun o => [(12, .int .i64 (o : Int)), (11, .int .i64 (i : Int)), (10, .int .u64 (md : Int)), (9, .pointer (some ⟨sb, 0, none⟩)), (8, .int .i64 (l : Int)), (0, (.slice (some ⟨b, 0, none⟩) N c)), (1, .int .i64 (a : Int))]) (fun _ => (sb, .row [.int .u64 v] 1 false) :: (G ++ H)) ?_ ?_
  · refine ct_condT te_d rfl (fun h1 => ?_) (fun h1 => ?_)
    · repeat(refine ZX ?_;try intro _)
      exact ⟨o - l, by omega, by
        refine SubL.consI (q := (o : Int) - (l : Int)) rfl (by omega) ?_
        repeat (first | exact SubL.nil | refine SubL.cons rfl ?_), List.Sublist.refl _⟩
    · repeat(refine ZX ?_;try intro _)
      exact ⟨o, by omega, by repeat (first | exact SubL.nil | refine SubL.cons rfl ?_), List.Sublist.refl _⟩
  clear ho o
  intro o ho
  obtain ⟨x, hx, mx, hL0⟩ := oJ.ldE (C := cx B0 old) (et := 91) enP_len rfl (sz rfl) (i := i) (by omega) H
  obtain ⟨y, hy, my, hL1⟩ := oJ.ldE (C := cx B0 old) (et := 91) enP_len rfl (sz rfl) (i := a + o) (by omega) H
  obtain ⟨H1, H2, o2, s1, s2⟩ := oJ.swp (C := cx B0 old) (et := 91) enP_len enP_one (sz rfl) hx hy
  repeat(refine ZX ?_;try intro _)
  refine ct_draw (masks := [0, 0, 0, 0, 0, 24, 0, 0, 0, 384, 960, 1984, 0, 0, 12288, 28672, 65475, 131011, 262143, 524287]) (plan := [0, 1, 2, 3, 4, 5, 6, 7, 8, 9, 10, 11, 12, 13, 14, 15, 16, 17, 18, 19]) (E := []) (by kernel_rfl) (by kernel_rfl) (by kernel_rfl) (by kernel_rfl) ?_
  repeat refine YX ?_
  apply pl_st rfl rfl rfl rfl rfl rfl rfl rfl
  case hp => exact s1 [_] H
  case hr => exact rec_auto
  repeat refine YX ?_
  apply pl_st rfl rfl rfl rfl rfl rfl rfl rfl
  case hp => exact s2 [_] H
  case hr => exact rec_auto
  repeat refine YX ?_
  repeat(refine ZX ?_;try intro _)
  exact ⟨(i + 1, sw J i (a + o), H2, v), ⟨by dsimp only; omega, by dsimp only; omega, pr.trans (PR.sw (by omega) (by omega) (by omega) (by omega) (by omega) (by omega)), o2⟩, by dsimp only; omega, by repeat (first | exact SubL.nil | refine SubL.cons rfl ?_), List.Sublist.refl _⟩
end
end Go.Proofs.YtphadapcafibpaaGreat.Abs

/- The library's pattern-defeating quicksort, and SortFunc. -/
namespace Go.Proofs.YtphadapcafibpaaGreat.Abs
open Go
set_option linter.unusedVariables false
section
variable {B0 : Nat} {old : Nat → Option (List Value)} {b c N : Nat} {f : Value}
set_option maxRecDepth 10000
set_option maxHeartbeats 8000000
theorem pdqP_ct (hc : CmpT (cx B0 old) enP rkP okP f) (hN : N ≤ 30000) : ∀ (d : Nat) {n a e : Nat} {lim : Int} {L : List Pk} {H Hs : Hp} {Q : Value → Hp → Prop}, e - a ≤ d → Own enP 22 L (.slice (some ⟨b, 0, none⟩) N c) Hs → (∀ x ∈ L, okP x) → L.length = N → a ≤ e → e ≤ N → Lo rkP a e L →
    (∀ w L' Hs', Own enP 22 L' (.slice (some ⟨b, 0, none⟩) N c) Hs' → PR a e L L' → SO rkP a e L' → Q w (Hs' ++ H)) →
    CallT (cx B0 old) (acall (cx B0 old) ansP (n + d + 16)) 132 [(.slice (some ⟨b, 0, none⟩) N c), .int .i64 a, .int .i64 e, .int .i64 lim, f] (Hs ++ H) Q := by
  intro d
  induction d using Nat.strongRecOn with
  | ind d ih =>
  intro n a e lim L H Hs Q hd ho hp hLN hae heN hlo hQ
  refine call_in 148 rfl Tryz.func132 rfl rfl ?_
  repeat(refine ZX ?_;try intro _)
  refine loop_ind (ι := Nat × Nat × Int × Bool × Bool × List Pk × Hp) (a, e, lim, true, true, L, Hs) (fun i => i.2.1 - i.1)
    (fun i => a ≤ i.1 ∧ i.1 ≤ i.2.1 ∧ i.2.1 ≤ e ∧ PR a e L i.2.2.2.2.2.1 ∧ Rest rkP a e L i.1 i.2.1 i.2.2.2.2.2.1 ∧ Lo rkP i.1 i.2.1 i.2.2.2.2.2.1 ∧ Own enP 22 i.2.2.2.2.2.1 (.slice (some ⟨b, 0, none⟩) N c) i.2.2.2.2.2.2)
    (fun i => [(0, (.slice (some ⟨b, 0, none⟩) N c)), (1, .int .i64 (i.1 : Int)), (2, .int .i64 (i.2.1 : Int)), (3, .int .i64 i.2.2.1), (4, f), (10, .bool i.2.2.2.1), (11, .bool i.2.2.2.2.1)]) (fun i => i.2.2.2.2.2.2 ++ H)
    ⟨Nat.le_refl _, hae, Nat.le_refl _, PR.refl _ _ _, Rest.start L, hlo, ho⟩ (by repeat (first | exact SubL.nil | refine SubL.cons rfl ?_)) (List.Sublist.refl _) ?_
  rintro ⟨s, t, lm, wb, wp, J, G⟩ ⟨has, hst, hte, pr, rs, lo, oJ⟩
  dsimp only at has hst hte pr rs lo oJ ⊢
  have hJ := pr.len
  have hpJ : ∀ x ∈ J, okP x := fun x h => hp x (pr.perm.mem_iff.1 h)
  have hlen : (t : Int) - (s : Int) = ((t - s : Nat) : Int) := by omega
  repeat(refine ZX ?_;try intro _)
  rw [hlen]
  generalize hl : t - s = l at *
  repeat(refine ZX ?_;try intro _)
  refine ct_condT te_d rfl (fun h12 => ?_) (fun h12 => ?_)
  · repeat(refine ZX ?_;try intro _)
    refine rt_step rfl rfl rfl (st_call rfl rfl rfl rfl (insP_ct hc oJ hpJ (by omega) (by omega) hst (by omega) fun w L2 G2 o2 p2 s2 => ?_))
    repeat(refine ZX ?_;try intro _)
    exact re_0r rfl (List.Sublist.refl _) (fun w => hQ w L2 G2 o2 (rs L2 p2 s2).1 (rs L2 p2 s2).2)
  repeat(refine ZX ?_;try intro _)
  refine ct_condT te_e rfl (fun hl0 => ?_) (fun hl0 => ?_)
  · repeat(refine ZX ?_;try intro _)
    refine rt_step rfl rfl rfl (st_call rfl rfl rfl rfl (heapP_ct hc oJ hpJ (by omega) (by omega) (by omega) (by omega) fun w L2 G2 o2 p2 s2 => ?_))
    repeat(refine ZX ?_;try intro _)
    exact re_0r rfl (List.Sublist.refl _) (fun w => hQ w L2 G2 o2 (rs L2 p2 s2).1 (rs L2 p2 s2).2)
  repeat(refine ZX ?_;try intro _)
  refine ct_midE (ι := Int × List Pk × Hp) (fun k => PR s t J k.2.1 ∧ Own enP 22 k.2.1 (.slice (some ⟨b, 0, none⟩) N c) k.2.2)
    (fun k => [(0, (.slice (some ⟨b, 0, none⟩) N c)), (1, .int .i64 (s : Int)), (2, .int .i64 (t : Int)), (3, .int .i64 k.1), (4, f), (10, .bool wb), (11, .bool wp), (12, .int .i64 (l : Int))]) (fun k => k.2.2 ++ H) ?_ ?_
  · refine ct_condT (te_n te_b) rfl (fun hwb => ?_) (fun hwb => ?_)
    · repeat(refine ZX ?_;try intro _)
      refine rt_step rfl rfl rfl (st_call rfl rfl rfl rfl (brkP_ct oJ (by omega) hN (by omega) (by omega) fun w L2 G2 o2 p2 => ?_))
      repeat(refine ZX ?_;try intro _)
      exact ⟨(_, L2, G2), ⟨p2, o2⟩, by repeat (first | exact SubL.nil | refine SubL.cons rfl ?_), List.Sublist.refl _⟩
    · repeat(refine ZX ?_;try intro _)
      exact ⟨(lm, J, G), ⟨PR.refl _ _ _, oJ⟩, by repeat (first | exact SubL.nil | refine SubL.cons rfl ?_), List.Sublist.refl _⟩
  rintro ⟨lm2, J2, G2⟩ ⟨p2, o2⟩
  dsimp only at p2 o2 ⊢
  repeat(refine ZX ?_;try intro _)
  refine rt_step rfl rfl rfl (st_call rfl rfl rfl rfl (choP_ct hc o2 (fun x h => hpJ x (p2.perm.mem_iff.1 h)) (by have := p2.len; omega) (by omega) (by omega) (by omega) fun p hint hsp hpt => ?_))
  repeat(refine ZX ?_;try intro _)
  refine ct_midE (ι := Nat × Int × List Pk × Hp) (fun k => s ≤ k.1 ∧ k.1 < t ∧ PR s t J k.2.2.1 ∧ Own enP 22 k.2.2.1 (.slice (some ⟨b, 0, none⟩) N c) k.2.2.2)
    (fun k => [(0, (.slice (some ⟨b, 0, none⟩) N c)), (1, .int .i64 (s : Int)), (2, .int .i64 (t : Int)), (3, .int .i64 lm2), (4, f), (10, .bool wb), (11, .bool wp), (12, .int .i64 (l : Int)), (13, .int .i64 (k.1 : Int)), (14, .int .i64 k.2.1)]) (fun k => k.2.2.2 ++ H) ?_ ?_
  · refine ct_condT te_e rfl (fun hh => ?_) (fun hh => ?_)
    · repeat(refine ZX ?_;try intro _)
      refine rt_step rfl rfl rfl (st_call rfl rfl rfl rfl (revP_ct o2 (by have := p2.len; omega) (by omega) (by omega) (by omega) fun w L3 G3 o3 p3 => ?_))
      repeat(refine ZX ?_;try intro _)
      exact ⟨((t - 1) - (p - s), 1, L3, G3), ⟨by dsimp only; omega, by dsimp only; omega, p2.trans p3, o3⟩, by
        refine SubL.cons rfl (SubL.cons rfl (SubL.cons rfl (SubL.cons rfl (SubL.cons rfl (SubL.cons rfl (SubL.cons rfl (SubL.cons rfl (SubL.consI (q := (t : Int) - 1 - ((p : Int) - (s : Int))) rfl (by dsimp only; omega) ?_))))))))
        repeat (first | exact SubL.nil | refine SubL.cons rfl ?_), List.Sublist.refl _⟩
    · repeat(refine ZX ?_;try intro _)
      exact ⟨(p, hint, J2, G2), ⟨hsp, hpt, p2, o2⟩, by repeat (first | exact SubL.nil | refine SubL.cons rfl ?_), List.Sublist.refl _⟩
  clear o2 p2 hsp hpt
  rintro ⟨p, hint, J2, G2⟩ ⟨hsp, hpt, p2, o2⟩
  dsimp only at hsp hpt p2 o2 ⊢
  repeat(refine ZX ?_;try intro _)
  refine rt_midE (ι := Bool) (fun _ => True) (fun k => [(75, .bool k), (0, (.slice (some ⟨b, 0, none⟩) N c)), (1, .int .i64 (s : Int)), (2, .int .i64 (t : Int)), (3, .int .i64 lm2), (4, f), (10, .bool wb), (11, .bool wp), (12, .int .i64 (l : Int)), (13, .int .i64 (p : Int))]) (fun _ => G2 ++ H) ?_ ?_
  · refine rt_guardT te_b rfl rfl rfl rfl (fun h1 => ?_) (fun h1 => ?_)
    · repeat(refine ZX ?_;try intro _)
      refine rt_guardT te_b rfl rfl rfl rfl (fun h2 => ?_) (fun h2 => ?_)
      · repeat(refine ZX ?_;try intro _)
        exact ⟨_, trivial, by repeat (first | exact SubL.nil | refine SubL.cons rfl ?_), List.Sublist.refl _⟩
      · repeat(refine ZX ?_;try intro _)
        exact ⟨_, trivial, by repeat (first | exact SubL.nil | refine SubL.cons rfl ?_), List.Sublist.refl _⟩
    · repeat(refine ZX ?_;try intro _)
      exact ⟨_, trivial, by repeat (first | exact SubL.nil | refine SubL.cons rfl ?_), List.Sublist.refl _⟩
  intro k _
  refine ct_midE (ι := List Pk × Hp) (fun k => PR s t J k.1 ∧ Own enP 22 k.1 (.slice (some ⟨b, 0, none⟩) N c) k.2)
    (fun k => [(0, (.slice (some ⟨b, 0, none⟩) N c)), (1, .int .i64 (s : Int)), (2, .int .i64 (t : Int)), (3, .int .i64 lm2), (4, f), (10, .bool wb), (11, .bool wp), (12, .int .i64 (l : Int)), (13, .int .i64 (p : Int))]) (fun k => k.2 ++ H) ?_ ?_
  · refine ct_condT te_b rfl (fun h1 => ?_) (fun h1 => ?_)
    · repeat(refine ZX ?_;try intro _)
      refine rt_step rfl rfl rfl (st_call rfl rfl rfl rfl (pisP_ct hc o2 (fun x h => hpJ x (p2.perm.mem_iff.1 h)) (by have := p2.len; omega) (by omega) (by omega) (by omega) (lo.pr (by omega) p2) fun r L3 G3 o3 p3 s3 => ?_))
      repeat(refine ZX ?_;try intro _)
      refine ct_condT te_b rfl (fun h2 => ?_) (fun h2 => ?_)
      · repeat(refine ZX ?_;try intro _)
        have := rs L3 (p2.trans p3) (s3 h2)
        exact re_0r rfl (List.Sublist.refl _) (fun w => hQ w L3 G3 o3 this.1 this.2)
      · repeat(refine ZX ?_;try intro _)
        exact ⟨(L3, G3), ⟨p2.trans p3, o3⟩, by repeat (first | exact SubL.nil | refine SubL.cons rfl ?_), List.Sublist.refl _⟩
    · repeat(refine ZX ?_;try intro _)
      exact ⟨(J2, G2), ⟨p2, o2⟩, by repeat (first | exact SubL.nil | refine SubL.cons rfl ?_), List.Sublist.refl _⟩
  clear o2 p2
  rintro ⟨J2, G2⟩ ⟨p2, o2⟩
  dsimp only at p2 o2 ⊢
  have pr2 : PR a e L J2 := pr.trans (p2.mono has hte)
  have rs2 := rs.pr p2
  have lo2 := lo.pr (by omega) p2
  have hJ2 := pr2.len
  have hpJ2 : ∀ x ∈ J2, okP x := fun x h => hp x (pr2.perm.mem_iff.1 h)
  clear p2 oJ rs lo pr hpJ
  have hsj : ((s : Int) - 1).toNat = s - 1 := by omega
  repeat(refine ZX ?_;try intro _)
  refine ct_draw (masks := [0, 1, 3, 7, 7, 7, 39, 119, 247, 7, 7, 1543, 3591, 8191, 16383, 32767, 65535]) (plan := [0, 1, 2, 3, 4, 5, 6, 7, 8, 9, 10, 11, 12, 13, 14, 15, 16]) (E := []) (by kernel_rfl) (by kernel_rfl) (by kernel_rfl) (by kernel_rfl) ?_
  repeat refine YX ?_
  refine pl_midE (ι := Bool) (fun k => k = true → 0 < s ∧ ¬ rk rkP J2 (s - 1) < rk rkP J2 p) (fun k => [(97, .bool k), (0, (.slice (some ⟨b, 0, none⟩) N c)), (1, .int .i64 (s : Int)), (2, .int .i64 (t : Int)), (3, .int .i64 lm2), (4, f), (10, .bool wb), (11, .bool wp), (12, .int .i64 (l : Int)), (13, .int .i64 (p : Int))]) (fun _ => G2 ++ H) ?_ ?_
  · refine isPlan ?_
    refine z3 (fun hs0 => ?_) (fun hs0 => ?_)
    rotate_left
    · repeat refine YX ?_
      exact ⟨false, fun h => (by cases h), by repeat (first | exact SubL.nil | refine SubL.cons rfl ?_), List.Sublist.refl _⟩
    obtain ⟨g, first, cap, rfl, hcal, hcmp⟩ := hc
    obtain ⟨x, hx, mx, hL0⟩ := o2.ldE (C := cx B0 old) (et := 91) enP_len rfl (sz rfl) (i := ((s : Int) - 1).toNat) (by omega) H
    obtain ⟨y, hy, my, hL1⟩ := o2.ldE (C := cx B0 old) (et := 91) enP_len rfl (sz rfl) (i := p) (by omega) H
    repeat refine YX ?_
    refine pl_S rfl rfl rfl rfl rfl rfl (st_call rfl rfl hcal rfl (CallT.fuel (hcmp (n + d + 5) x y _ _ (hpJ2 _ mx) (hpJ2 _ my) fun z hz => ⟨by exact rec_auto, ?_⟩) rfl))
    repeat refine YX ?_
    rw [rk_at (r := rkP) hx, rk_at (r := rkP) hy, hsj] at hz
    exact ⟨!decide (z < 0), fun h => ⟨by omega, fun g => by
      have := hz.2 g
      simp [this] at h⟩, by repeat (first | exact SubL.nil | refine SubL.cons rfl ?_), List.Sublist.refl _⟩
  intro k hk
  refine ct_condT te_b rfl (fun h1 => ?_) (fun h1 => ?_)
  · obtain ⟨k1, k2⟩ := hk h1
    repeat(refine ZX ?_;try intro _)
    refine rt_step rfl rfl rfl (st_call rfl rfl rfl rfl (peqP_ct hc o2 hpJ2 (by omega) (by omega) (by omega) (by omega) hsp hpt (fun q h2 h3 => by have := lo2 k1 q h2 h3; omega) fun m L3 G3 o3 p3 m1 m2 m3 m4 => ?_))
    repeat(refine ZX ?_;try intro _)
    obtain ⟨r1, r2⟩ := (rs2.pr p3).equal (by have := p3.len; omega) m1 m2 m3 m4
    exact ⟨(m, t, lm2, wb, wp, L3, G3), ⟨by dsimp only; omega, m2, hte, pr2.trans (p3.mono has hte), r1, r2, o3⟩, by dsimp only; omega, by repeat (first | exact SubL.nil | refine SubL.cons rfl ?_), List.Sublist.refl _⟩
  repeat(refine ZX ?_;try intro _)
  refine rt_step rfl rfl rfl (st_call rfl rfl rfl rfl (parP_ct hc o2 hpJ2 (by omega) (by omega) (by omega) (by omega) hsp hpt fun m r L3 G3 o3 p3 pt => ?_))
  have hq : IntKind.i64.wrap ((l : Int).tdiv 8) = ((l / 8 : Nat) : Int) := quoN l 8 (by omega)
  have ham := pt.am
  have hmb := pt.mb
  have pr3 : PR a e L L3 := pr2.trans (p3.mono has hte)
  have rs3 := rs2.pr p3
  have lo3 := lo2.pr (by omega) p3
  have hL3 := pr3.len
  have hp3 : ∀ x ∈ L3, okP x := fun x h => hp x (pr3.perm.mem_iff.1 h)
  repeat(refine ZX ?_;try intro _)
  apply rt_p rfl rfl rfl
  case hp => exact p_quo rfl rfl (by decide)
  rw [hq]
  repeat(refine ZX ?_;try intro _)
  refine ct_condT te_d rfl (fun hlr => ?_) (fun hlr => ?_)
  · repeat(refine ZX ?_;try intro _)
    refine rt_step rfl rfl rfl (st_call rfl rfl rfl rfl (CallT.fuel (ih (m - s) (by omega) (n := n + (d - 1 - (m - s))) (Nat.le_refl _) o3 hp3 (by omega) ham (by omega) (lo3.left (by omega)) fun w L4 G4 o4 p4 s4 => ?_) (by omega)))
    repeat(refine ZX ?_;try intro _)
    obtain ⟨r1, r2⟩ := rs3.right pt (by omega) p4 s4
    exact ⟨(m + 1, t, lm2, _, r, L4, G4), ⟨by dsimp only; omega, by dsimp only; omega, hte, pr3.trans (p4.mono has (by omega)), r1, r2, o4⟩, by dsimp only; omega, by repeat (first | exact SubL.nil | refine SubL.cons rfl ?_), List.Sublist.refl _⟩
  · repeat(refine ZX ?_;try intro _)
    rw [show (m : Int) + 1 = ((m + 1 : Nat) : Int) by omega]
    refine rt_step rfl rfl rfl (st_call rfl rfl rfl rfl (CallT.fuel (ih (t - (m + 1)) (by omega) (n := n + (d - 1 - (t - (m + 1)))) (Nat.le_refl _) o3 hp3 (by omega) (by omega) (by omega) pt.lo1 fun w L4 G4 o4 p4 s4 => ?_) (by omega)))
    repeat(refine ZX ?_;try intro _)
    obtain ⟨r1, r2⟩ := rs3.left lo3 pt (by omega) p4 s4
    exact ⟨(s, m, lm2, _, r, L4, G4), ⟨has, ham, by dsimp only; omega, pr3.trans (p4.mono (by omega) hte), r1, r2, o4⟩, by dsimp only; omega, by repeat (first | exact SubL.nil | refine SubL.cons rfl ?_), List.Sublist.refl _⟩
theorem pdq0P_ct {n : Nat} {lim : Int} {v f : Value} {H : Hp} {Q : Value → Hp → Prop} (hQ : ∀ w, Q w H) : CallT (cx B0 old) (acall (cx B0 old) ansP (n + 2)) 132 [v, .int .i64 0, .int .i64 0, .int .i64 lim, f] H Q := by
  have h0 : ∀ Q : Value → Hp → Prop, (∀ w, Q w H) → CallT (cx B0 old) (acall (cx B0 old) ansP (n + 1)) 140 [v, .int .i64 0, .int .i64 0, f] H Q := fun Q hQ => by
    refine call_in4 53 rfl Tryz.func140 rfl rfl ?_
    repeat(refine ZX ?_;try intro _)
    refine ct_loop 1 (lt_step ?_)
    repeat(refine ZX ?_;try intro _)
    exact re_0 rfl (List.Sublist.refl _) hQ
  refine call_in 148 rfl Tryz.func132 rfl rfl ?_
  repeat(refine ZX ?_;try intro _)
  refine ct_loop 1 (lt_step ?_)
  repeat(refine ZX ?_;try intro _)
  refine rt_step rfl rfl rfl (st_call rfl rfl rfl rfl (h0 _ fun w => ?_))
  repeat(refine ZX ?_;try intro _)
  exact re_0r rfl (List.Sublist.refl _) hQ
theorem sortFP_ct {n : Nat} {L : List Pk} {H Hs : Hp} {Q : Value → Hp → Prop} {v : Value} (hc : CmpT (cx B0 old) enP rkP okP f) (ho : Own enP 22 L v Hs) (hp : ∀ x ∈ L, okP x) (hN : L.length ≤ 30000)
    (hQ : ∀ w L' Hs', Own enP 22 L' v Hs' → L'.Perm L → (L'.map rkP).Pairwise (· ≤ ·) → Q w (Hs' ++ H)) :
    CallT (cx B0 old) (acall (cx B0 old) ansP (n + L.length + 17)) 107 [v, f] (Hs ++ H) Q := by
  by_cases hne : L = []
  · subst hne
    obtain ⟨ad, c, rfl, _⟩ := ho.arrW (C := cx B0 old) enP_len
    refine call_in2 14 rfl Tryz.func107 rfl rfl ?_
    repeat(refine ZX ?_;try intro _)
    refine rt_step rfl rfl rfl (st_call rfl rfl rfl rfl (CallT.fuel (n := n + 14 + 2) (len_ct 0 (by decide) fun k h1 h2 => ?_) rfl))
    repeat(refine ZX ?_;try intro _)
    refine rt_step rfl rfl rfl (st_call rfl rfl rfl rfl (pdq0P_ct fun w => ?_))
    repeat(refine ZX ?_;try intro _)
    exact re_0 rfl (List.Sublist.refl _) (fun w => hQ w [] Hs ho (List.Perm.refl _) List.Pairwise.nil)
  obtain ⟨b, c, rfl⟩ := ho.blk hne
  refine call_in2 14 rfl Tryz.func107 rfl rfl ?_
  have hw : IntKind.u64.wrap (L.length : Int) = (L.length : Int) := IntWalk.u64_in _ (by omega)
  repeat(refine ZX ?_;try intro _)
  rw [hw]
  refine rt_step rfl rfl rfl (st_call rfl rfl rfl rfl (CallT.fuel (n := n + L.length + 14 + 2) (len_ct L.length (by omega) fun k h1 h2 => ?_) rfl))
  repeat(refine ZX ?_;try intro _)
  refine rt_step rfl rfl rfl (st_call rfl rfl rfl rfl (pdqP_ct (a := 0) (n := n) hc hN L.length (by omega) ho hp rfl (Nat.zero_le _) (Nat.le_refl _) (fun h => absurd h (Nat.lt_irrefl _)) fun w L2 G2 o2 p2 s2 => ?_))
  repeat(refine ZX ?_;try intro _)
  have hl := p2.len
  rw [← hl] at s2
  exact re_0 rfl (List.Sublist.refl _) (fun w => hQ w L2 G2 o2 p2.perm (so_pair s2))
end
end Go.Proofs.YtphadapcafibpaaGreat.Abs
