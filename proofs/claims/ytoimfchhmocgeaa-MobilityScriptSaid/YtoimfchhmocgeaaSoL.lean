/- The number of bits of a number; random numbers of the library's sort. -/
import Derived.Test.YtoimfchhmocgeaaSep16
namespace Go.Proofs.Ytoimfchhmocgeaa.Abs
open Go
set_option linter.unusedVariables false
section
variable {B0 : Nat} {old : Nat → Option (List Value)} {n : Nat} {H Hs : Hp} {Q : Value → Hp → Prop}
set_option maxRecDepth 10000
set_option maxHeartbeats 4000000
theorem quoN (x d : Nat) (hx : x ≤ 1000000) : IntKind.i64.wrap ((x : Int).tdiv d) = ((x / d : Nat) : Int) := by
  have h1 : x / d ≤ x := Nat.div_le_self _ _
  have h2 : ((x : Int)).tdiv d = ((x / d : Nat) : Int) := rfl
  rw [h2]
  clear h2
  generalize x / d = y at *
  exact IntWalk.i64_in _ (by omega)
theorem andB (v : Int) (md : Nat) (h0 : 0 < md) (h1 : md ≤ 131072) : ∃ o : Nat, o < md ∧ IntKind.i64.wrap (IntKind.u64.wrap ((BitVec.ofInt IntKind.u64.bits v &&& BitVec.ofInt IntKind.u64.bits (IntKind.u64.wrap ((md : Int) - 1))).toNat : Nat)) = (o : Int) := by
  have hb : (BitVec.ofInt IntKind.u64.bits (IntKind.u64.wrap ((md : Int) - 1))).toNat = md - 1 := by
    rw [IntWalk.u64_in _ (by omega)]
    show (BitVec.ofInt 64 ((md : Int) - 1)).toNat = md - 1
    rw [BitVec.toNat_ofInt]
    omega
  refine ⟨(BitVec.ofInt IntKind.u64.bits v &&& BitVec.ofInt IntKind.u64.bits (IntKind.u64.wrap ((md : Int) - 1))).toNat, ?_, ?_⟩
  · rw [BitVec.toNat_and, hb]
    have := Nat.and_le_right (n := (BitVec.ofInt IntKind.u64.bits v).toNat) (m := md - 1)
    omega
  · have h2 : (BitVec.ofInt IntKind.u64.bits v &&& BitVec.ofInt IntKind.u64.bits (IntKind.u64.wrap ((md : Int) - 1))).toNat ≤ md - 1 := by
      rw [BitVec.toNat_and, hb]
      exact Nat.and_le_right
    generalize (BitVec.ofInt IntKind.u64.bits v &&& BitVec.ofInt IntKind.u64.bits (IntKind.u64.wrap ((md : Int) - 1))).toNat = y at *
    rw [IntWalk.u64_in _ (by omega), IntWalk.i64_in _ (by omega)]
theorem CallT.fuel {C : Ctx} {n m g : Nat} {args : List Value} {H : Hp} {Q : Value → Hp → Prop} (h : CallT C (acall C ansP n) g args H Q) (e : n = m) : CallT C (acall C ansP m) g args H Q := e ▸ h
/-- The number of bits of a byte. -/
def lenB (x : Nat) : Nat := if x < 1 then 0 else if x < 2 then 1 else if x < 4 then 2 else if x < 8 then 3 else if x < 16 then 4 else if x < 32 then 5 else if x < 64 then 6 else if x < 128 then 7 else 8
theorem lenB_le (x : Nat) (hx : x < 256) : lenB x ≤ 8 ∧ (x ≠ 0 → 2 ^ lenB x ≤ 2 * x) := by
  unfold lenB
  repeat' split
  all_goals refine ⟨by omega, fun _ => ?_⟩
  all_goals omega
def tabOk (s : ByteArray) : Bool := (List.range 256).all fun x => match s.data.toList[x]? with
  | some y => Nat.beq y.toNat (lenB x)
  | none => false
theorem p_lenTab {C : Ctx} {l : Sl} {t : TypeId} {x y : Operand} {s : ByteArray} {k : Nat} (hs : tabOk s = true) (hk : k < 256) (h : evalL l x = some (.string s)) (h2 : evalL l y = some (.int .u8 k)) (hu : C.P.underlying t = some .string) : PureT C (.index t x y) l (.int .u8 (lenB k)) := by
  have h3 := List.all_eq_true.1 hs k (List.mem_range.2 hk)
  split at h3
  · rename_i b hb
    have h3 := Nat.eq_of_beq_eq_true h3
    have hlt : k < s.data.size := by
      have := (List.getElem?_eq_some_iff.1 hb).1
      simpa using this
    have hget : s[k]? = some b := by
      have h4 : s.data.toList[k]? = some b := hb
      rw [Array.getElem?_toList] at h4
      rw [Array.getElem?_eq_getElem hlt] at h4
      have h5 : s[k]? = some (s.data[k]'hlt) := by
        show (if h : k < s.size then some (s.get k h) else none) = _
        rw [dif_pos (show k < s.size from hlt)]
        rfl
      rw [h5, h4]
    unfold PureT
    refine ⟨cov2 h h2, ?_⟩
    simp only [aP, aindex, rhoL_eq h, rhoL_eq h2, hu, natOf_nat, hget, h3]
  · cases h3
theorem len64_ct (x : Nat) (hx : x < 65536) (hQ : ∀ k : Nat, k ≤ 16 → (x ≠ 0 → 2 ^ k ≤ 2 * x) → Q (.int .i64 k) H) : CallT (cx B0 old) (acall (cx B0 old) ansP (n + 1)) 98 [.int .u64 x] H Q := by
  refine call_in1 25 rfl Try.func98 rfl rfl ?_
  repeat (first | refine Z0 ?_ | (refine ZR ?_; first | refine x1 ?_ | refine x2 ?_ | refine x8 ?_ | refine Z1 ?_ | refine Z2 ?_ | refine x3 fun _ => ?_ | refine x4 fun _ => ?_ | refine x5 fun _ => ?_ | refine Z3 fun _ => ?_ | refine Z4 fun _ => ?_) | refine ZC ?_)
  refine ct_condT te_d rfl (fun h => ?_) (fun h => ?_)
  · exfalso; omega
  repeat (first | refine Z0 ?_ | (refine ZR ?_; first | refine x1 ?_ | refine x2 ?_ | refine x8 ?_ | refine Z1 ?_ | refine Z2 ?_ | refine x3 fun _ => ?_ | refine x4 fun _ => ?_ | refine x5 fun _ => ?_ | refine Z3 fun _ => ?_ | refine Z4 fun _ => ?_) | refine ZC ?_)
  refine ct_condT te_d rfl (fun h => ?_) (fun h => ?_)
  · exfalso; omega
  repeat (first | refine Z0 ?_ | (refine ZR ?_; first | refine x1 ?_ | refine x2 ?_ | refine x8 ?_ | refine Z1 ?_ | refine Z2 ?_ | refine x3 fun _ => ?_ | refine x4 fun _ => ?_ | refine x5 fun _ => ?_ | refine Z3 fun _ => ?_ | refine Z4 fun _ => ?_) | refine ZC ?_)
  refine ct_midE (ι := Nat × Nat) (fun i => i.1 < 256 ∧ (i.2 = 0 ∧ i.1 = x ∨ i.2 = 8 ∧ i.1 = x / 256 ∧ 256 ≤ x)) (fun i => [(0, .int .u64 (i.1 : Int)), (2, .int .i64 (i.2 : Int))]) (fun i => H) ?_ ?_
  · refine ct_condT te_d rfl (fun h => ?_) (fun h => ?_)
    · repeat (first | refine Z0 ?_ | (refine ZR ?_; first | refine x1 ?_ | refine x2 ?_ | refine x8 ?_ | refine Z1 ?_ | refine Z2 ?_ | refine x3 fun _ => ?_ | refine x4 fun _ => ?_ | refine x5 fun _ => ?_ | refine Z3 fun _ => ?_ | refine Z4 fun _ => ?_) | refine ZC ?_)
      refine ⟨(x / 256, 8), ⟨by dsimp only; omega, .inr ⟨rfl, rfl, by omega⟩⟩, ?_, List.Sublist.refl _⟩
      refine SubL.consI (q := ((x : Int)).fdiv (2 ^ (min (8 : Int).toNat IntKind.u64.bits))) rfl ?_ ?_
      · rw [show (2 : Int) ^ (min (8 : Int).toNat IntKind.u64.bits) = 256 by decide]
        rw [Int.fdiv_eq_ediv_of_nonneg _ (by decide)]; rfl
      · repeat (first | exact SubL.nil | refine SubL.cons rfl ?_)
    · repeat (first | refine Z0 ?_ | (refine ZR ?_; first | refine x1 ?_ | refine x2 ?_ | refine x8 ?_ | refine Z1 ?_ | refine Z2 ?_ | refine x3 fun _ => ?_ | refine x4 fun _ => ?_ | refine x5 fun _ => ?_ | refine Z3 fun _ => ?_ | refine Z4 fun _ => ?_) | refine ZC ?_)
      exact ⟨(x, 0), ⟨by dsimp only; omega, .inl ⟨rfl, rfl⟩⟩, by repeat (first | exact SubL.nil | refine SubL.cons rfl ?_), List.Sublist.refl _⟩
  rintro ⟨y, k⟩ ⟨h1, h2⟩
  dsimp only at h1 h2 ⊢
  obtain ⟨h3, h4⟩ := lenB_le y h1
  have hw : IntKind.u8.wrap (y : Int) = (y : Int) := IntWalk.u8_in _ (by omega)
  have hw2 : IntKind.i64.wrap ((lenB y : Nat) : Int) = ((lenB y : Nat) : Int) := IntWalk.i64_in _ (by omega)
  repeat (first | refine Z0 ?_ | (refine ZR ?_; first | refine x1 ?_ | refine x2 ?_ | refine x8 ?_ | refine Z1 ?_ | refine Z2 ?_ | refine x3 fun _ => ?_ | refine x4 fun _ => ?_ | refine x5 fun _ => ?_ | refine Z3 fun _ => ?_ | refine Z4 fun _ => ?_) | refine ZC ?_)
  rw [hw]
  apply rt_p rfl rfl rfl
  case hp => exact p_lenTab (by kernel_rfl) h1 rfl rfl rfl
  repeat (first | refine Z0 ?_ | (refine ZR ?_; first | refine x1 ?_ | refine x2 ?_ | refine x8 ?_ | refine Z1 ?_ | refine Z2 ?_ | refine x3 fun _ => ?_ | refine x4 fun _ => ?_ | refine x5 fun _ => ?_ | refine Z3 fun _ => ?_ | refine Z4 fun _ => ?_) | refine ZC ?_)
  rw [hw2]
  rw [show (k : Int) + ((lenB y : Nat) : Int) = ((k + lenB y : Nat) : Int) by omega]
  refine re_1 rfl rfl (List.Sublist.refl _) (hQ _ (by omega) fun hx0 => ?_)
  rcases h2 with ⟨rfl, rfl⟩ | ⟨rfl, rfl, h5⟩
  · rw [Nat.zero_add]; exact h4 hx0
  · have := h4 (by omega)
    rw [Nat.pow_add]
    omega
theorem len_ct (x : Nat) (hx : x < 65536) (hQ : ∀ k : Nat, k ≤ 16 → (x ≠ 0 → 2 ^ k ≤ 2 * x) → Q (.int .i64 k) H) : CallT (cx B0 old) (acall (cx B0 old) ansP (n + 2)) 88 [.int .u64 x] H Q := by
  refine call_in1 8 rfl Try.func88 rfl rfl ?_
  repeat (first | refine Z0 ?_ | (refine ZR ?_; first | refine x1 ?_ | refine x2 ?_ | refine x8 ?_ | refine Z1 ?_ | refine Z2 ?_ | refine x3 fun _ => ?_ | refine x4 fun _ => ?_ | refine x5 fun _ => ?_ | refine Z3 fun _ => ?_ | refine Z4 fun _ => ?_) | refine ZC ?_)
  refine rt_step rfl rfl rfl (st_call rfl rfl rfl rfl (len64_ct x hx fun k h1 h2 => ?_))
  repeat (first | refine Z0 ?_ | (refine ZR ?_; first | refine x1 ?_ | refine x2 ?_ | refine x8 ?_ | refine Z1 ?_ | refine Z2 ?_ | refine x3 fun _ => ?_ | refine x4 fun _ => ?_ | refine x5 fun _ => ?_ | refine Z3 fun _ => ?_ | refine Z4 fun _ => ?_) | refine ZC ?_)
  exact re_1 rfl rfl (List.Sublist.refl _) (hQ k h1 h2)
theorem npt_ct (x : Nat) (hx0 : x ≠ 0) (hx : x < 65536) (hQ : ∀ k : Nat, k ≤ 16 → 2 ^ k ≤ 2 * x → Q (.int .u64 ((2 ^ k : Nat) : Int)) H) : CallT (cx B0 old) (acall (cx B0 old) ansP (n + 3)) 100 [.int .i64 x] H Q := by
  refine call_in1 7 rfl Try.func100 rfl rfl ?_
  have hw : IntKind.u64.wrap (x : Int) = (x : Int) := IntWalk.u64_in _ (by omega)
  repeat (first | refine Z0 ?_ | (refine ZR ?_; first | refine x1 ?_ | refine x2 ?_ | refine x8 ?_ | refine Z1 ?_ | refine Z2 ?_ | refine x3 fun _ => ?_ | refine x4 fun _ => ?_ | refine x5 fun _ => ?_ | refine Z3 fun _ => ?_ | refine Z4 fun _ => ?_) | refine ZC ?_)
  rw [hw]
  refine rt_step rfl rfl rfl (st_call rfl rfl rfl rfl (len_ct x hx fun k h1 h2 => ?_))
  apply rt_p rfl rfl rfl
  case hp => exact p_shl rfl rfl (by omega)
  have h3 : (2 : Nat) ^ k ≤ 131070 := by have := h2 hx0; omega
  have e : IntKind.u64.wrap (1 * 2 ^ (min (k : Int).toNat IntKind.u64.bits)) = ((2 ^ k : Nat) : Int) := by
    rw [show min (k : Int).toNat IntKind.u64.bits = k by show min k 64 = k; omega, Int.one_mul]
    have e2 : ((2 : Int) ^ k) = ((2 ^ k : Nat) : Int) := (Int.natCast_pow 2 k).symm
    rw [e2]
    clear e2
    generalize 2 ^ k = y at *
    exact IntWalk.u64_in _ (by omega)
  rw [e]
  repeat (first | refine Z0 ?_ | (refine ZR ?_; first | refine x1 ?_ | refine x2 ?_ | refine x8 ?_ | refine Z1 ?_ | refine Z2 ?_ | refine x3 fun _ => ?_ | refine x4 fun _ => ?_ | refine x5 fun _ => ?_ | refine Z3 fun _ => ?_ | refine Z4 fun _ => ?_) | refine ZC ?_)
  exact re_1 rfl rfl (List.Sublist.refl _) (hQ k h1 (h2 hx0))
theorem Own.blk {α : Type} {en : α → List Value} {w : Nat} {L : List α} {v : Value} {Hs : Hp} (h : Own en w L v Hs) (hne : L ≠ []) : ∃ b c, v = .slice (some ⟨b, 0, none⟩) L.length c := by
  cases h with
  | nil => exact absurd rfl hne
  | emp b o => exact absurd rfl hne
  | el _ b es junk => exact ⟨_, _, rfl⟩
  | fix _ b es hL => exact ⟨_, _, rfl⟩
theorem p_xorL {C : Ctx} {l : Sl} {t yt : TypeId} {x y : Operand} {k : IntKind} {a b : Int} (h : evalL l x = some (.int k a)) (h2 : evalL l y = some (.int k b)) : PureT C (.binOp .xor t x y yt) l (.int k (k.wrap (BitVec.ofInt k.bits a ^^^ BitVec.ofInt k.bits b).toNat)) := by
  unfold PureT
  exact ⟨cov2 h h2, by simp only [aP, abin, isShift, aint, rhoL_eq h, rhoL_eq h2, if_true]⟩
theorem nxt_ct {sb : Nat} {s : Int} (hQ : ∀ (v : Int), Q (.int .u64 v) ((sb, .row [.int .u64 v] 1 false) :: H)) : CallT (cx B0 old) (acall (cx B0 old) ansP (n + 1)) 101 [.pointer (some ⟨sb, 0, none⟩)] ((sb, .row [.int .u64 s] 1 false) :: H) Q := by
  refine call_in1 33 rfl Try.func101 rfl rfl ?_
  repeat (first | refine Z0 ?_ | (refine ZR ?_; first | refine x1 ?_ | refine x2 ?_ | refine x8 ?_ | refine Z1 ?_ | refine Z2 ?_ | refine x3 fun _ => ?_ | refine x4 fun _ => ?_ | refine x5 fun _ => ?_ | refine Z3 fun _ => ?_ | refine Z4 fun _ => ?_) | refine ZC ?_)
  refine ct_draw (masks := [0, 1, 3, 0, 8, 24, 56, 127, 255, 511]) (plan := [0, 1, 2, 3, 4, 5, 6, 7, 8, 9]) (E := []) (by kernel_rfl) (by kernel_rfl) (by kernel_rfl) (by kernel_rfl) ?_
  repeat (first | refine Y0 ?_ | (refine YP ?_; first | refine y1 ?_ | refine y2 ?_ | refine Y1 ?_ | refine Y2 ?_))
  refine pl_p rfl rfl rfl rfl rfl rfl (p_xorL rfl rfl) ?_
  repeat (first | refine Y0 ?_ | (refine YP ?_; first | refine y1 ?_ | refine y2 ?_ | refine Y1 ?_ | refine Y2 ?_))
  refine y3 ?_
  repeat (first | refine Y0 ?_ | (refine YP ?_; first | refine y1 ?_ | refine y2 ?_ | refine Y1 ?_ | refine Y2 ?_))
  generalize IntKind.u64.wrap _ = s1
  repeat (first | refine Z0 ?_ | (refine ZR ?_; first | refine x1 ?_ | refine x2 ?_ | refine x8 ?_ | refine Z1 ?_ | refine Z2 ?_ | refine x3 fun _ => ?_ | refine x4 fun _ => ?_ | refine x5 fun _ => ?_ | refine Z3 fun _ => ?_ | refine Z4 fun _ => ?_) | refine ZC ?_)
  refine ct_draw (masks := [0, 1, 3, 0, 8, 24, 56, 127, 255, 511]) (plan := [0, 1, 2, 3, 4, 5, 6, 7, 8, 9]) (E := []) (by kernel_rfl) (by kernel_rfl) (by kernel_rfl) (by kernel_rfl) ?_
  repeat (first | refine Y0 ?_ | (refine YP ?_; first | refine y1 ?_ | refine y2 ?_ | refine Y1 ?_ | refine Y2 ?_))
  refine pl_p rfl rfl rfl rfl rfl rfl (p_xorL rfl rfl) ?_
  repeat (first | refine Y0 ?_ | (refine YP ?_; first | refine y1 ?_ | refine y2 ?_ | refine Y1 ?_ | refine Y2 ?_))
  refine y3 ?_
  repeat (first | refine Y0 ?_ | (refine YP ?_; first | refine y1 ?_ | refine y2 ?_ | refine Y1 ?_ | refine Y2 ?_))
  generalize IntKind.u64.wrap _ = s2
  repeat (first | refine Z0 ?_ | (refine ZR ?_; first | refine x1 ?_ | refine x2 ?_ | refine x8 ?_ | refine Z1 ?_ | refine Z2 ?_ | refine x3 fun _ => ?_ | refine x4 fun _ => ?_ | refine x5 fun _ => ?_ | refine Z3 fun _ => ?_ | refine Z4 fun _ => ?_) | refine ZC ?_)
  refine ct_draw (masks := [0, 1, 3, 0, 8, 24, 56, 127, 255, 511]) (plan := [0, 1, 2, 3, 4, 5, 6, 7, 8, 9]) (E := []) (by kernel_rfl) (by kernel_rfl) (by kernel_rfl) (by kernel_rfl) ?_
  repeat (first | refine Y0 ?_ | (refine YP ?_; first | refine y1 ?_ | refine y2 ?_ | refine Y1 ?_ | refine Y2 ?_))
  refine pl_p rfl rfl rfl rfl rfl rfl (p_xorL rfl rfl) ?_
  repeat (first | refine Y0 ?_ | (refine YP ?_; first | refine y1 ?_ | refine y2 ?_ | refine Y1 ?_ | refine Y2 ?_))
  refine y3 ?_
  repeat (first | refine Y0 ?_ | (refine YP ?_; first | refine y1 ?_ | refine y2 ?_ | refine Y1 ?_ | refine Y2 ?_))
  generalize IntKind.u64.wrap _ = s3
  repeat (first | refine Z0 ?_ | (refine ZR ?_; first | refine x1 ?_ | refine x2 ?_ | refine x8 ?_ | refine Z1 ?_ | refine Z2 ?_ | refine x3 fun _ => ?_ | refine x4 fun _ => ?_ | refine x5 fun _ => ?_ | refine Z3 fun _ => ?_ | refine Z4 fun _ => ?_) | refine ZC ?_)
  exact re_1 rfl rfl (List.Sublist.refl _) (hQ _)
end
end Go.Proofs.Ytoimfchhmocgeaa.Abs
