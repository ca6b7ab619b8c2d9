/- Contracts of the Writer: numbers and bytes that fit are appended. -/
import Derived.Test.YtjdppdoakbojcaaAd
import Derived.Test.YtjdppdoakbojcaaSep15
namespace Go.Proofs.Ytjdppdoakbojcaa.Abs
open Go
set_option linter.unusedVariables false
def unit0 (_ : Unit) : Value := .agg #[]
theorem u8_mod (n : Nat) : IntKind.u8.wrap (n : Int) = ((n % 256 : Nat) : Int) := by rw [IntKind.wrap_u8]; omega
theorem fdiv8 (a : Nat) : ((a : Int)).fdiv (2 ^ (min (8 : Int).toNat IntKind.u64.bits)) = ((a / 256 : Nat) : Int) := by
  rw [show ((2 : Int) ^ (min (8 : Int).toNat IntKind.u64.bits)) = ((256 : Nat) : Int) from rfl]
  exact (Int.ofNat_fdiv a 256).symm
def fillJ (L : List Int) (m len n j : Nat) : List Int := L.take (m + (len - j)) ++ (be n j ++ L.drop (m + len))
theorem fillJ_len {L : List Int} {m len n j : Nat} (h : m + len ≤ L.length) (hj : j ≤ len) : (fillJ L m len n j).length = L.length := by
  unfold fillJ
  rw [List.length_append, List.length_append, be_len, List.length_take, List.length_drop]; omega
theorem fillJ_set {L : List Int} {m len n j : Nat} (h : m + len ≤ L.length) (hj : j < len) : (fillJ L m len n j).set (m + (len - 1 - j)) ((n / 256 ^ j % 256 : Nat) : Int) = fillJ L m len n (j + 1) := by
  unfold fillJ
  have e1 : m + (len - j) = m + (len - 1 - j) + 1 := by omega
  have e2 : m + (len - (j + 1)) = m + (len - 1 - j) := by omega
  have hlt : m + (len - 1 - j) < L.length := by omega
  rw [e1, e2, List.take_succ_eq_append_getElem hlt, List.append_assoc]
  have e3 : (L.take (m + (len - 1 - j))).length = m + (len - 1 - j) := by rw [List.length_take]; omega
  rw [List.set_append_right _ _ (by omega), e3, Nat.sub_self]
  rfl
theorem fdivS (nn zz : Nat) (h : zz ≤ 8) : ((nn : Int)).fdiv (2 ^ (min (8 * (zz : Int)).toNat IntKind.u64.bits)) = ((nn / 256 ^ zz : Nat) : Int) := by
  have e : min (8 * (zz : Int)).toNat IntKind.u64.bits = 8 * zz := by show min _ 64 = _; omega
  rw [e, show ((2 : Int) ^ (8 * zz)) = ((256 ^ zz : Nat) : Int) by rw [show (256 : Nat) = 2 ^ 8 from rfl, ← Nat.pow_mul]; exact (Int.natCast_pow 2 (8 * zz)).symm]
  exact (Int.ofNat_fdiv nn (256 ^ zz)).symm
def zeros : List Int := [0, 0, 0, 0, 0, 0, 0, 0]
theorem arrW_be {C : Ctx} {H : Hp} {a ez : Nat} {el : Bool} {nn zz : Nat} (hs : zz ≤ 8) (hm : (a, .row ((fillJ zeros 0 zz nn zz).flatMap encY ++ []) ez el) ∈ H) : ArrW C H (some ⟨a, 0 + 0 * 1, none⟩) 1 encY (be nn zz) := by
  have e : ((fillJ zeros 0 zz nn zz).flatMap encY ++ []) = (be nn zz).flatMap encY ++ ((zeros.drop zz).flatMap encY) := by
    unfold fillJ
    rw [Nat.sub_self, List.take_zero, List.nil_append, List.append_nil, List.flatMap_append, Nat.zero_add]
  rw [e] at hm
  exact ⟨fun _ => ⟨a, _, _, rfl, .own _ _ hm, cut_pre encY_len⟩⟩
section
variable {B0 : Nat} {old : Nat → Option (List Value)} {n : Nat} {H Hs : Hp} {Q : Value → Hp → Prop} {p ez mb b : Nat} {el : Bool} {bv : Value} {lim : Int} {L B : List Int} {junk : List Value} {X : Nat × AObj}
set_option maxRecDepth 10000
set_option maxHeartbeats 4000000
theorem valid138_ct (h : Q (.bool true) ((p, .row [bv, .int .i64 lim, .map (some mb)] ez el) :: H)) :
    CallT (cx B0 old) (acall (cx B0 old) ansP (n + 1)) 138 [.pointer (some ⟨p, 0, none⟩)] ((p, .row [bv, .int .i64 lim, .map (some mb)] ez el) :: H) Q := by
  refine call_in1 12 rfl Try.func138 rfl rfl ?_
  repeat (first | refine Z0 ?_ | (refine ZR ?_; first | refine x1 ?_ | refine x2 ?_ | refine x8 ?_ | refine Z1 ?_ | refine Z2 ?_ | refine x3 fun _ => ?_ | refine x4 fun _ => ?_ | refine x5 fun _ => ?_ | refine Z3 fun _ => ?_ | refine Z4 fun _ => ?_) | refine Za ?_ | refine Zb ?_ | refine Zl ?_ | refine Zc ?_ | refine Ze ?_ | refine Zi ?_ | refine Zj ?_ | refine Zf ?_ | refine Zg ?_ | refine Zm ?_ | refine Zn ?_ | refine Zo ?_ | refine Zp ?_ | refine Zq ?_ | refine Zr ?_ | refine Zk ?_)
  exact re_1 rfl rfl (by exact drop_auto) h
theorem left141_ct {ad : Option Addr} {c : Nat} (hB : B.length ≤ 65536) (h0 : 0 ≤ lim) (h1 : lim ≤ 65536) (h : Q (.int .i64 (lim - B.length)) ((p, .row [.slice ad B.length c, .int .i64 lim, .map (some mb)] ez el) :: H)) :
    CallT (cx B0 old) (acall (cx B0 old) ansP (n + 1)) 141 [.pointer (some ⟨p, 0, none⟩)] ((p, .row [.slice ad B.length c, .int .i64 lim, .map (some mb)] ez el) :: H) Q := by
  refine call_in1 13 rfl Try.func141 rfl rfl ?_
  repeat (first | refine Z0 ?_ | (refine ZR ?_; first | refine x1 ?_ | refine x2 ?_ | refine x8 ?_ | refine Z1 ?_ | refine Z2 ?_ | refine x3 fun _ => ?_ | refine x4 fun _ => ?_ | refine x5 fun _ => ?_ | refine Z3 fun _ => ?_ | refine Z4 fun _ => ?_) | refine Za ?_ | refine Zb ?_ | refine Zl ?_ | refine Zc ?_ | refine Ze ?_ | refine Zi ?_ | refine Zj ?_ | refine Zf ?_ | refine Zg ?_ | refine Zm ?_ | refine Zn ?_ | refine Zo ?_ | refine Zp ?_ | refine Zq ?_ | refine Zr ?_ | refine Zk ?_)
  refine ct_draw (masks := [0, 1, 3, 7, 0, 16, 48, 112, 240, 511, 1023]) (plan := [0, 1, 2, 3, 4, 5, 6, 7, 8, 9, 10]) (E := []) (by kernel_rfl) (by kernel_rfl) (by kernel_rfl) (by kernel_rfl) ?_
  repeat (first | refine Y0 ?_ | (refine YP ?_; first | refine y1 ?_ | refine y2 ?_ | refine Y1 ?_ | refine Y2 ?_))
  repeat (first | refine Z0 ?_ | (refine ZR ?_; first | refine x1 ?_ | refine x2 ?_ | refine x8 ?_ | refine Z1 ?_ | refine Z2 ?_ | refine x3 fun _ => ?_ | refine x4 fun _ => ?_ | refine x5 fun _ => ?_ | refine Z3 fun _ => ?_ | refine Z4 fun _ => ?_) | refine Za ?_ | refine Zb ?_ | refine Zl ?_ | refine Zc ?_ | refine Ze ?_ | refine Zi ?_ | refine Zj ?_ | refine Zf ?_ | refine Zg ?_ | refine Zm ?_ | refine Zn ?_ | refine Zo ?_ | refine Zp ?_ | refine Zq ?_ | refine Zr ?_ | refine Zk ?_)
  exact re_1 rfl rfl (by exact drop_auto) h
theorem out115_ct {ad : Option Addr} {c : Nat} (ha : ArrW (cx B0 old) H ad 1 encY B) (hB : B.length ≤ 65536)
    (h : ∀ v Hs, Own encY 1 B v Hs → Q v (Hs ++ H)) :
    CallT (cx B0 old) (acall (cx B0 old) ansP (n + 2)) 115 [.pointer (some ⟨p, 0, none⟩)] ((p, .row [.slice ad B.length c, .int .i64 lim, .map (some mb)] ez el) :: H) Q := by
  refine call_in1 11 rfl Try.func115 rfl rfl ?_
  repeat (first | refine Z0 ?_ | (refine ZR ?_; first | refine x1 ?_ | refine x2 ?_ | refine x8 ?_ | refine Z1 ?_ | refine Z2 ?_ | refine x3 fun _ => ?_ | refine x4 fun _ => ?_ | refine x5 fun _ => ?_ | refine Z3 fun _ => ?_ | refine Z4 fun _ => ?_) | refine Za ?_ | refine Zb ?_ | refine Zl ?_ | refine Zc ?_ | refine Ze ?_ | refine Zi ?_ | refine Zj ?_ | refine Zf ?_ | refine Zg ?_ | refine Zm ?_ | refine Zn ?_ | refine Zo ?_ | refine Zp ?_ | refine Zq ?_ | refine Zr ?_ | refine Zk ?_)
  refine rt_step rfl rfl rfl (st_call rfl rfl rfl rfl (valid138_ct ?_))
  repeat (first | refine Z0 ?_ | (refine ZR ?_; first | refine x1 ?_ | refine x2 ?_ | refine x8 ?_ | refine Z1 ?_ | refine Z2 ?_ | refine x3 fun _ => ?_ | refine x4 fun _ => ?_ | refine x5 fun _ => ?_ | refine Z3 fun _ => ?_ | refine Z4 fun _ => ?_) | refine Za ?_ | refine Zb ?_ | refine Zl ?_ | refine Zc ?_ | refine Ze ?_ | refine Zi ?_ | refine Zj ?_ | refine Zf ?_ | refine Zg ?_ | refine Zm ?_ | refine Zn ?_ | refine Zo ?_ | refine Zp ?_ | refine Zq ?_ | refine Zr ?_ | refine Zk ?_)
  refine rt_step rfl rfl rfl (st_appO (pre := []) (Hs := []) Own.nil encY_len encY_one rfl rfl (ap rfl) (ha.weak (List.sublist_cons_self _ _)) (by show _ * (1 + 1) ≤ _; simp only [List.length_nil]; omega) fun v Hs ho => ?_)
  repeat (first | refine Z0 ?_ | (refine ZR ?_; first | refine x1 ?_ | refine x2 ?_ | refine x8 ?_ | refine Z1 ?_ | refine Z2 ?_ | refine x3 fun _ => ?_ | refine x4 fun _ => ?_ | refine x5 fun _ => ?_ | refine Z3 fun _ => ?_ | refine Z4 fun _ => ?_) | refine Za ?_ | refine Zb ?_ | refine Zl ?_ | refine Zc ?_ | refine Ze ?_ | refine Zi ?_ | refine Zj ?_ | refine Zf ?_ | refine Zg ?_ | refine Zm ?_ | refine Zn ?_ | refine Zo ?_ | refine Zp ?_ | refine Zq ?_ | refine Zr ?_ | refine Zk ?_)
  exact re_1 (H' := Hs ++ H) rfl rfl (by exact drop_auto) (h v Hs ho)
theorem newWriter114_ct (h0 : 0 ≤ lim) (h1 : lim ≤ 65536) (h : ∀ p mb, Q (.tuple #[.pointer (some ⟨p, 0, none⟩), .int .i64 0]) ((p, .row [.slice none 0 0, .int .i64 lim, .map (some mb)] 3 false) :: (mb, .map [] 0) :: H)) :
    CallT (cx B0 old) (acall (cx B0 old) ansP (n + 1)) 114 [.int .i64 lim] H Q := by
  refine call_in1 14 rfl Try.func114 rfl rfl ?_
  repeat' (first | refine Z0 ?_ | (refine ZR ?_; first | refine x1 ?_ | refine x2 ?_ | refine x8 ?_ | refine Z1 ?_ | refine Z2 ?_ | refine x3 fun _ => ?_ | refine x4 fun _ => ?_ | refine x5 fun _ => ?_ | refine Z3 fun _ => ?_ | refine Z4 fun _ => ?_) | refine Za ?_ | refine Zb ?_ | refine Zl ?_ | refine Zc ?_ | refine Ze ?_ | refine Zi ?_ | refine Zj ?_ | refine Zf ?_ | refine Zg ?_ | refine Zm ?_ | refine Zn ?_ | refine Zo ?_ | refine Zp ?_ | refine Zq ?_ | refine Zr ?_ | refine Zk ?_ | refine Y0 ?_ | (refine YP ?_; first | refine y1 ?_ | refine y2 ?_ | refine Y1 ?_ | refine Y2 ?_) | (refine isPlan ?_; refine y3 ?_) | (first | (refine isRun ?_; refine z1 (fun hc => ?_) (fun hc => ?_)) | refine z2 (fun hc => ?_) (fun hc => ?_) | (refine isPlan ?_; refine z3 (fun hc => ?_) (fun hc => ?_))))
  all_goals try (exfalso; omega)
  exact re_2 rfl rfl rfl (by exact drop_auto) (h _ _)
theorem fill142_ct (m len c nn : Nat) (hlen : m + len ≤ L.length) (hl2 : len ≤ 1000000) (hnn : nn < 18446744073709551616) (h : ∀ v, Q v ((b, .row ((fillJ L m len nn len).flatMap encY ++ junk) ez el) :: H)) :
    CallT (cx B0 old) (acall (cx B0 old) ansP (n + 1)) 142 [.slice (some ⟨b, 0 + m * 1, none⟩) len c, .int .u64 nn] ((b, .row (L.flatMap encY ++ junk) ez el) :: H) Q := by
  refine call_in2 21 rfl Try.func142 rfl rfl ?_
  repeat (first | refine Z0 ?_ | (refine ZR ?_; first | refine x1 ?_ | refine x2 ?_ | refine x8 ?_ | refine Z1 ?_ | refine Z2 ?_ | refine x3 fun _ => ?_ | refine x4 fun _ => ?_ | refine x5 fun _ => ?_ | refine Z3 fun _ => ?_ | refine Z4 fun _ => ?_) | refine Za ?_ | refine Zb ?_ | refine Zl ?_ | refine Zc ?_ | refine Ze ?_ | refine Zi ?_ | refine Zj ?_ | refine Zf ?_ | refine Zg ?_ | refine Zm ?_ | refine Zn ?_ | refine Zo ?_ | refine Zp ?_ | refine Zq ?_ | refine Zr ?_ | refine Zk ?_)
  refine loop_ind (ι := Nat) 0 (fun j => len - j) (fun j => j ≤ len)
    (fun j => [(5, .int .i64 ((len : Int) - 1 - (j : Int))), (4, .int .u64 ((nn / 256 ^ j : Nat) : Int)), (0, .slice (some ⟨b, 0 + m * 1, none⟩) len c)])
    (fun j => (b, .row ((fillJ L m len nn j).flatMap encY ++ junk) ez el) :: H) (Nat.zero_le _) ?_ ?_ ?_
  · rw [show ((len : Int) - 1 - ((0 : Nat) : Int)) = (len : Int) - 1 by omega, Nat.pow_zero, Nat.div_one]
    repeat (first | exact SubL.nil | refine SubL.cons rfl ?_)
  · rw [show fillJ L m len nn 0 = L by unfold fillJ; rw [Nat.sub_zero]; exact List.take_append_drop _ _]
    exact List.Sublist.refl _
  intro j hj
  repeat (first | refine Z0 ?_ | (refine ZR ?_; first | refine x1 ?_ | refine x2 ?_ | refine x8 ?_ | refine Z1 ?_ | refine Z2 ?_ | refine x3 fun _ => ?_ | refine x4 fun _ => ?_ | refine x5 fun _ => ?_ | refine Z3 fun _ => ?_ | refine Z4 fun _ => ?_) | refine Za ?_ | refine Zb ?_ | refine Zl ?_ | refine Zc ?_ | refine Ze ?_ | refine Zi ?_ | refine Zj ?_ | refine Zf ?_ | refine Zg ?_ | refine Zm ?_ | refine Zn ?_ | refine Zo ?_ | refine Zp ?_ | refine Zq ?_ | refine Zr ?_ | refine Zk ?_)
  refine ct_condT te_d rfl (fun hc => ?_) (fun hc => ?_)
  · have hlt' : j < len := by omega
    have hi0 : 0 ≤ (len : Int) - 1 - (j : Int) := by omega
    have hi1 : ((len : Int) - 1 - (j : Int)).toNat < len := by omega
    repeat (first | refine Z0 ?_ | (refine ZR ?_; first | refine x1 ?_ | refine x2 ?_ | refine x8 ?_ | refine Z1 ?_ | refine Z2 ?_ | refine x3 fun _ => ?_ | refine x4 fun _ => ?_ | refine x5 fun _ => ?_ | refine Z3 fun _ => ?_ | refine Z4 fun _ => ?_) | refine Za ?_ | refine Zb ?_ | refine Zl ?_ | refine Zc ?_ | refine Ze ?_ | refine Zi ?_ | refine Zj ?_ | refine Zf ?_ | refine Zg ?_ | refine Zm ?_ | refine Zn ?_ | refine Zo ?_ | refine Zp ?_ | refine Zq ?_ | refine Zr ?_ | refine Zk ?_)
    rw [u8_mod]
    refine rt_st (H' := (b, .row ((fillJ L m len nn (j + 1)).flatMap encY ++ junk) ez el) :: H) rfl rfl rfl rfl rfl ?_ ?_
    · rw [show 0 + m * 1 + ((len : Int) - 1 - (j : Int)).toNat * 1 = 0 + (m + (len - 1 - j)) * 1 + 0 by omega, ← fillJ_set hlen hlt']
      refine .here ez 1 el _ _ H (sz rfl) rfl (flat_set (f := 0) encY_len (List.getElem?_eq_getElem (by rw [fillJ_len hlen hj]; omega)) rfl)
    repeat (first | refine Z0 ?_ | (refine ZR ?_; first | refine x1 ?_ | refine x2 ?_ | refine x8 ?_ | refine Z1 ?_ | refine Z2 ?_ | refine x3 fun _ => ?_ | refine x4 fun _ => ?_ | refine x5 fun _ => ?_ | refine Z3 fun _ => ?_ | refine Z4 fun _ => ?_) | refine Za ?_ | refine Zb ?_ | refine Zl ?_ | refine Zc ?_ | refine Ze ?_ | refine Zi ?_ | refine Zj ?_ | refine Zf ?_ | refine Zg ?_ | refine Zm ?_ | refine Zn ?_ | refine Zo ?_ | refine Zp ?_ | refine Zq ?_ | refine Zr ?_ | refine Zk ?_)
    have e : (len : Int) - 1 - (j : Int) - 1 = (len : Int) - 1 - ((j + 1 : Nat) : Int) := by omega
    refine ⟨j + 1, hlt', by omega, ?_, by exact drop_auto⟩
    rw [← e, Nat.pow_succ, ← Nat.div_div_eq_div_mul, ← fdiv8]
    repeat (first | exact SubL.nil | refine SubL.cons rfl ?_)
  · have he : j = len := by omega
    subst he
    repeat (first | refine Z0 ?_ | (refine ZR ?_; first | refine x1 ?_ | refine x2 ?_ | refine x8 ?_ | refine Z1 ?_ | refine Z2 ?_ | refine x3 fun _ => ?_ | refine x4 fun _ => ?_ | refine x5 fun _ => ?_ | refine Z3 fun _ => ?_ | refine Z4 fun _ => ?_) | refine Za ?_ | refine Zb ?_ | refine Zl ?_ | refine Zc ?_ | refine Ze ?_ | refine Zi ?_ | refine Zj ?_ | refine Zf ?_ | refine Zg ?_ | refine Zm ?_ | refine Zn ?_ | refine Zo ?_ | refine Zp ?_ | refine Zq ?_ | refine Zr ?_ | refine Zk ?_)
    exact re_0 rfl (by exact drop_auto) h
theorem put140_ct (nn zz : Nat) (hs : 1 ≤ zz ∧ zz ≤ 8) (ho : Own encY 1 B bv Hs) (hl : (B.length : Int) + zz ≤ lim) (h1 : lim ≤ 65536) (hnn : nn < 18446744073709551616) (hfit : nn < 256 ^ zz)
    (h : ∀ bv' Hs', Own encY 1 (B ++ be nn zz) bv' Hs' → Q (.int .i64 0) ((p, .row [bv', .int .i64 lim, .map (some mb)] ez el) :: X :: (Hs' ++ H))) :
    CallT (cx B0 old) (acall (cx B0 old) ansP (n + 2)) 140 [.pointer (some ⟨p, 0, none⟩), .int .u64 nn, .int .i64 zz] ((p, .row [bv, .int .i64 lim, .map (some mb)] ez el) :: X :: (Hs ++ H)) Q := by
  obtain ⟨hs1, hs2⟩ := hs
  obtain ⟨ad, c, rfl, _⟩ := ho.arrW (C := cx B0 old) encY_len
  refine call_in3 37 rfl Try.func140 rfl rfl ?_
  repeat (first | refine Z0 ?_ | (refine ZR ?_; first | refine x1 ?_ | refine x2 ?_ | refine x8 ?_ | refine Z1 ?_ | refine Z2 ?_ | refine x3 fun _ => ?_ | refine x4 fun _ => ?_ | refine x5 fun _ => ?_ | refine Z3 fun _ => ?_ | refine Z4 fun _ => ?_) | refine Za ?_ | refine Zb ?_ | refine Zl ?_ | refine Zc ?_ | refine Ze ?_ | refine Zi ?_ | refine Zj ?_ | refine Zf ?_ | refine Zg ?_ | refine Zm ?_ | refine Zn ?_ | refine Zo ?_ | refine Zp ?_ | refine Zq ?_ | refine Zr ?_ | refine Zk ?_)
  refine rt_step rfl rfl rfl (st_call rfl rfl rfl rfl (valid138_ct ?_))
  repeat (first | refine Z0 ?_ | (refine ZR ?_; first | refine x1 ?_ | refine x2 ?_ | refine x8 ?_ | refine Z1 ?_ | refine Z2 ?_ | refine x3 fun _ => ?_ | refine x4 fun _ => ?_ | refine x5 fun _ => ?_ | refine Z3 fun _ => ?_ | refine Z4 fun _ => ?_) | refine Za ?_ | refine Zb ?_ | refine Zl ?_ | refine Zc ?_ | refine Ze ?_ | refine Zi ?_ | refine Zj ?_ | refine Zf ?_ | refine Zg ?_ | refine Zm ?_ | refine Zn ?_ | refine Zo ?_ | refine Zp ?_ | refine Zq ?_ | refine Zr ?_ | refine Zk ?_)
  rw [fdivS nn zz hs2, Nat.div_eq_of_lt hfit]
  repeat (first | refine Z0 ?_ | (refine ZR ?_; first | refine x1 ?_ | refine x2 ?_ | refine x8 ?_ | refine Z1 ?_ | refine Z2 ?_ | refine x3 fun _ => ?_ | refine x4 fun _ => ?_ | refine x5 fun _ => ?_ | refine Z3 fun _ => ?_ | refine Z4 fun _ => ?_) | refine Za ?_ | refine Zb ?_ | refine Zl ?_ | refine Zc ?_ | refine Ze ?_ | refine Zi ?_ | refine Zj ?_ | refine Zf ?_ | refine Zg ?_ | refine Zm ?_ | refine Zn ?_ | refine Zo ?_ | refine Zp ?_ | refine Zq ?_ | refine Zr ?_ | refine Zk ?_)
  refine rt_step rfl rfl rfl (st_call rfl rfl rfl rfl (left141_ct (by omega) (by omega) h1 ?_))
  repeat (first | refine Z0 ?_ | (refine ZR ?_; first | refine x1 ?_ | refine x2 ?_ | refine x8 ?_ | refine Z1 ?_ | refine Z2 ?_ | refine x3 fun _ => ?_ | refine x4 fun _ => ?_ | refine x5 fun _ => ?_ | refine Z3 fun _ => ?_ | refine Z4 fun _ => ?_) | refine Za ?_ | refine Zb ?_ | refine Zl ?_ | refine Zc ?_ | refine Ze ?_ | refine Zi ?_ | refine Zj ?_ | refine Zf ?_ | refine Zg ?_ | refine Zm ?_ | refine Zn ?_ | refine Zo ?_ | refine Zp ?_ | refine Zq ?_ | refine Zr ?_ | refine Zk ?_)
  refine ct_condT te_d rfl (fun hc => ?_) (fun hc => ?_)
  · exfalso; omega
  repeat (first | refine Z0 ?_ | (refine ZR ?_; first | refine x1 ?_ | refine x2 ?_ | refine x8 ?_ | refine Z1 ?_ | refine Z2 ?_ | refine x3 fun _ => ?_ | refine x4 fun _ => ?_ | refine x5 fun _ => ?_ | refine Z3 fun _ => ?_ | refine Z4 fun _ => ?_) | refine Za ?_ | refine Zb ?_ | refine Zl ?_ | refine Zc ?_ | refine Ze ?_ | refine Zi ?_ | refine Zj ?_ | refine Zf ?_ | refine Zg ?_ | refine Zm ?_ | refine Zn ?_ | refine Zo ?_ | refine Zp ?_ | refine Zq ?_ | refine Zr ?_ | refine Zk ?_)
  rename_i a
  have hsl : aslice (cx B0 old) 194 (.pointer (some ⟨a, 0, none⟩)) none (some (.int .i64 zz)) none = some (.slice (some ⟨a, 0 + 0 * 1, none⟩) zz 8) := by
    have := aslice_arr (C := cx B0 old) (t := 194) (b := a) (o := 0) (m := 0) (q := zz) (k := 1) (lo := none) (hi := some (.int .i64 zz)) rfl (show sizeAt (cx B0 old) 5 = some 1 from sz rfl) (by decide) (Nat.zero_le _) hs2 (.inr ⟨rfl, rfl⟩) (.inl (by simp [natOf]))
    simpa using this
  have hap : ∀ ez' el', ArrW (cx B0 old) ((a, .row ((fillJ zeros 0 zz nn zz).flatMap encY ++ []) ez' el') :: (p, AObj.row [Value.slice ad B.length c, Value.int IntKind.i64 lim, Value.map (some mb)] ez el) :: X :: (Hs ++ H)) (some ⟨a, 0 + 0 * 1, none⟩) 1 encY (be nn zz) := fun _ _ => arrW_be hs2 hm0
  apply rt_p rfl rfl rfl
  case hp => exact p_slc rfl rfl rfl hsl
  repeat (first | refine Z0 ?_ | (refine ZR ?_; first | refine x1 ?_ | refine x2 ?_ | refine x8 ?_ | refine Z1 ?_ | refine Z2 ?_ | refine x3 fun _ => ?_ | refine x4 fun _ => ?_ | refine x5 fun _ => ?_ | refine Z3 fun _ => ?_ | refine Z4 fun _ => ?_) | refine Za ?_ | refine Zb ?_ | refine Zl ?_ | refine Zc ?_ | refine Ze ?_ | refine Zi ?_ | refine Zj ?_ | refine Zf ?_ | refine Zg ?_ | refine Zm ?_ | refine Zn ?_ | refine Zo ?_ | refine Zp ?_ | refine Zq ?_ | refine Zr ?_ | refine Zk ?_)
  refine rt_step rfl rfl rfl (st_call rfl rfl rfl rfl (fill142_ct (L := zeros) (junk := []) 0 zz 8 nn (by simp [zeros]; omega) (by omega) hnn fun _ => ?_))
  repeat (first | refine Z0 ?_ | (refine ZR ?_; first | refine x1 ?_ | refine x2 ?_ | refine x8 ?_ | refine Z1 ?_ | refine Z2 ?_ | refine x3 fun _ => ?_ | refine x4 fun _ => ?_ | refine x5 fun _ => ?_ | refine Z3 fun _ => ?_ | refine Z4 fun _ => ?_) | refine Za ?_ | refine Zb ?_ | refine Zl ?_ | refine Zc ?_ | refine Ze ?_ | refine Zi ?_ | refine Zj ?_ | refine Zf ?_ | refine Zg ?_ | refine Zm ?_ | refine Zn ?_ | refine Zo ?_ | refine Zp ?_ | refine Zq ?_ | refine Zr ?_ | refine Zk ?_)
  refine ct_draw (masks := [0, 0, 2, 6, 14, 0, 32, 126, 255, 511, 1023]) (plan := [0, 1, 2, 3, 4, 5, 6, 7, 8, 9, 10]) (E := []) (by kernel_rfl) (by kernel_rfl) (by kernel_rfl) (by kernel_rfl) ?_
  repeat (first | refine Y0 ?_ | (refine YP ?_; first | refine y1 ?_ | refine y2 ?_ | refine Y1 ?_ | refine Y2 ?_))
  refine pl_p rfl rfl rfl rfl rfl rfl (p_slc rfl rfl rfl hsl) ?_
  repeat (first | refine Y0 ?_ | (refine YP ?_; first | refine y1 ?_ | refine y2 ?_ | refine Y1 ?_ | refine Y2 ?_))
  have hM := be_len nn zz
  rw [← hM] at hsl
  refine pl_S rfl rfl rfl rfl rfl rfl (st_appP (M := be nn zz) (c := 8) (pre := [_, _, _]) ho encY_len encY_one rfl (by rw [hM]; rfl) (ap rfl) (hap _ _) (by show _ * (1 + 1) ≤ _; rw [hM]; omega) fun v' Hs' ho' => ⟨by exact rec_auto, ?_⟩)
  have ho2 := ho'
  obtain ⟨ad', c', rfl, _⟩ := ho'.arrW (C := cx B0 old) encY_len
  repeat (first | refine Y0 ?_ | (refine YP ?_; first | refine y1 ?_ | refine y2 ?_ | refine Y1 ?_ | refine Y2 ?_))
  refine y3 ?_
  repeat (first | refine Y0 ?_ | (refine YP ?_; first | refine y1 ?_ | refine y2 ?_ | refine Y1 ?_ | refine Y2 ?_))
  repeat (first | refine Z0 ?_ | (refine ZR ?_; first | refine x1 ?_ | refine x2 ?_ | refine x8 ?_ | refine Z1 ?_ | refine Z2 ?_ | refine x3 fun _ => ?_ | refine x4 fun _ => ?_ | refine x5 fun _ => ?_ | refine Z3 fun _ => ?_ | refine Z4 fun _ => ?_) | refine Za ?_ | refine Zb ?_ | refine Zl ?_ | refine Zc ?_ | refine Ze ?_ | refine Zi ?_ | refine Zj ?_ | refine Zf ?_ | refine Zg ?_ | refine Zm ?_ | refine Zn ?_ | refine Zo ?_ | refine Zp ?_ | refine Zq ?_ | refine Zr ?_ | refine Zk ?_)
  exact re_1 rfl rfl (by exact drop_auto) (h _ _ ho2)
end
end Go.Proofs.Ytjdppdoakbojcaa.Abs
