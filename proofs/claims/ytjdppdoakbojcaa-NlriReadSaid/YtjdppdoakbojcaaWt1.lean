/- Contracts of the Writer: numbers of each size, bytes. -/
import Derived.Test.YtjdppdoakbojcaaWt0
namespace Go.Proofs.Ytjdppdoakbojcaa.Abs
open Go
set_option linter.unusedVariables false
section
variable {B0 : Nat} {old : Nat → Option (List Value)} {n : Nat} {H Hs : Hp} {Q : Value → Hp → Prop} {p ez mb b : Nat} {el : Bool} {bv : Value} {lim : Int} {L B : List Int} {X : Nat × AObj}
set_option maxRecDepth 10000
set_option maxHeartbeats 4000000
theorem w8_ct (x : Int) (h0 : 0 ≤ x) (hx : x < 256 ^ 1) (ho : Own encY 1 B bv Hs) (hl : (B.length : Int) + 1 ≤ lim) (h1 : lim ≤ 65536)
    (h : ∀ bv' Hs', Own encY 1 (B ++ be x.toNat 1) bv' Hs' → Q (.int .i64 0) ((p, .row [bv', .int .i64 lim, .map (some mb)] ez el) :: X :: (Hs' ++ H))) :
    CallT (cx B0 old) (acall (cx B0 old) ansP (n + 3)) 179 [.pointer (some ⟨p, 0, none⟩), .int .u64 x] ((p, .row [bv, .int .i64 lim, .map (some mb)] ez el) :: X :: (Hs ++ H)) Q := by
  obtain ⟨nn, rfl⟩ := Int.eq_ofNat_of_zero_le h0
  rw [Int.toNat_natCast] at h
  refine call_in2 8 rfl Try.func179 rfl rfl ?_
  repeat (first | refine Z0 ?_ | (refine ZR ?_; first | refine x1 ?_ | refine x2 ?_ | refine x8 ?_ | refine Z1 ?_ | refine Z2 ?_ | refine x3 fun _ => ?_ | refine x4 fun _ => ?_ | refine x5 fun _ => ?_ | refine Z3 fun _ => ?_ | refine Z4 fun _ => ?_) | refine Za ?_ | refine Zb ?_ | refine Zl ?_ | refine Zc ?_ | refine Ze ?_ | refine Zi ?_ | refine Zj ?_ | refine Zf ?_ | refine Zg ?_ | refine Zm ?_ | refine Zn ?_ | refine Zo ?_ | refine Zp ?_ | refine Zq ?_ | refine Zr ?_ | refine Zk ?_)
  refine rt_step rfl rfl rfl (st_call rfl rfl rfl rfl (put140_ct nn 1 (by omega) ho hl h1 (by omega) (by omega) fun v' Hs' ho' => ?_))
  repeat (first | refine Z0 ?_ | (refine ZR ?_; first | refine x1 ?_ | refine x2 ?_ | refine x8 ?_ | refine Z1 ?_ | refine Z2 ?_ | refine x3 fun _ => ?_ | refine x4 fun _ => ?_ | refine x5 fun _ => ?_ | refine Z3 fun _ => ?_ | refine Z4 fun _ => ?_) | refine Za ?_ | refine Zb ?_ | refine Zl ?_ | refine Zc ?_ | refine Ze ?_ | refine Zi ?_ | refine Zj ?_ | refine Zf ?_ | refine Zg ?_ | refine Zm ?_ | refine Zn ?_ | refine Zo ?_ | refine Zp ?_ | refine Zq ?_ | refine Zr ?_ | refine Zk ?_)
  exact re_1 rfl rfl (List.Sublist.refl _) (h _ _ ho')
theorem w16_ct (x : Int) (h0 : 0 ≤ x) (hx : x < 256 ^ 2) (ho : Own encY 1 B bv Hs) (hl : (B.length : Int) + 2 ≤ lim) (h1 : lim ≤ 65536)
    (h : ∀ bv' Hs', Own encY 1 (B ++ be x.toNat 2) bv' Hs' → Q (.int .i64 0) ((p, .row [bv', .int .i64 lim, .map (some mb)] ez el) :: X :: (Hs' ++ H))) :
    CallT (cx B0 old) (acall (cx B0 old) ansP (n + 3)) 128 [.pointer (some ⟨p, 0, none⟩), .int .u64 x] ((p, .row [bv, .int .i64 lim, .map (some mb)] ez el) :: X :: (Hs ++ H)) Q := by
  obtain ⟨nn, rfl⟩ := Int.eq_ofNat_of_zero_le h0
  rw [Int.toNat_natCast] at h
  refine call_in2 8 rfl Try.func128 rfl rfl ?_
  repeat (first | refine Z0 ?_ | (refine ZR ?_; first | refine x1 ?_ | refine x2 ?_ | refine x8 ?_ | refine Z1 ?_ | refine Z2 ?_ | refine x3 fun _ => ?_ | refine x4 fun _ => ?_ | refine x5 fun _ => ?_ | refine Z3 fun _ => ?_ | refine Z4 fun _ => ?_) | refine Za ?_ | refine Zb ?_ | refine Zl ?_ | refine Zc ?_ | refine Ze ?_ | refine Zi ?_ | refine Zj ?_ | refine Zf ?_ | refine Zg ?_ | refine Zm ?_ | refine Zn ?_ | refine Zo ?_ | refine Zp ?_ | refine Zq ?_ | refine Zr ?_ | refine Zk ?_)
  refine rt_step rfl rfl rfl (st_call rfl rfl rfl rfl (put140_ct nn 2 (by omega) ho hl h1 (by omega) (by omega) fun v' Hs' ho' => ?_))
  repeat (first | refine Z0 ?_ | (refine ZR ?_; first | refine x1 ?_ | refine x2 ?_ | refine x8 ?_ | refine Z1 ?_ | refine Z2 ?_ | refine x3 fun _ => ?_ | refine x4 fun _ => ?_ | refine x5 fun _ => ?_ | refine Z3 fun _ => ?_ | refine Z4 fun _ => ?_) | refine Za ?_ | refine Zb ?_ | refine Zl ?_ | refine Zc ?_ | refine Ze ?_ | refine Zi ?_ | refine Zj ?_ | refine Zf ?_ | refine Zg ?_ | refine Zm ?_ | refine Zn ?_ | refine Zo ?_ | refine Zp ?_ | refine Zq ?_ | refine Zr ?_ | refine Zk ?_)
  exact re_1 rfl rfl (List.Sublist.refl _) (h _ _ ho')
theorem w24_ct (x : Int) (h0 : 0 ≤ x) (hx : x < 256 ^ 3) (ho : Own encY 1 B bv Hs) (hl : (B.length : Int) + 3 ≤ lim) (h1 : lim ≤ 65536)
    (h : ∀ bv' Hs', Own encY 1 (B ++ be x.toNat 3) bv' Hs' → Q (.int .i64 0) ((p, .row [bv', .int .i64 lim, .map (some mb)] ez el) :: X :: (Hs' ++ H))) :
    CallT (cx B0 old) (acall (cx B0 old) ansP (n + 3)) 168 [.pointer (some ⟨p, 0, none⟩), .int .u64 x] ((p, .row [bv, .int .i64 lim, .map (some mb)] ez el) :: X :: (Hs ++ H)) Q := by
  obtain ⟨nn, rfl⟩ := Int.eq_ofNat_of_zero_le h0
  rw [Int.toNat_natCast] at h
  refine call_in2 8 rfl Try.func168 rfl rfl ?_
  repeat (first | refine Z0 ?_ | (refine ZR ?_; first | refine x1 ?_ | refine x2 ?_ | refine x8 ?_ | refine Z1 ?_ | refine Z2 ?_ | refine x3 fun _ => ?_ | refine x4 fun _ => ?_ | refine x5 fun _ => ?_ | refine Z3 fun _ => ?_ | refine Z4 fun _ => ?_) | refine Za ?_ | refine Zb ?_ | refine Zl ?_ | refine Zc ?_ | refine Ze ?_ | refine Zi ?_ | refine Zj ?_ | refine Zf ?_ | refine Zg ?_ | refine Zm ?_ | refine Zn ?_ | refine Zo ?_ | refine Zp ?_ | refine Zq ?_ | refine Zr ?_ | refine Zk ?_)
  refine rt_step rfl rfl rfl (st_call rfl rfl rfl rfl (put140_ct nn 3 (by omega) ho hl h1 (by omega) (by omega) fun v' Hs' ho' => ?_))
  repeat (first | refine Z0 ?_ | (refine ZR ?_; first | refine x1 ?_ | refine x2 ?_ | refine x8 ?_ | refine Z1 ?_ | refine Z2 ?_ | refine x3 fun _ => ?_ | refine x4 fun _ => ?_ | refine x5 fun _ => ?_ | refine Z3 fun _ => ?_ | refine Z4 fun _ => ?_) | refine Za ?_ | refine Zb ?_ | refine Zl ?_ | refine Zc ?_ | refine Ze ?_ | refine Zi ?_ | refine Zj ?_ | refine Zf ?_ | refine Zg ?_ | refine Zm ?_ | refine Zn ?_ | refine Zo ?_ | refine Zp ?_ | refine Zq ?_ | refine Zr ?_ | refine Zk ?_)
  exact re_1 rfl rfl (List.Sublist.refl _) (h _ _ ho')
theorem w32_ct (x : Int) (h0 : 0 ≤ x) (hx : x < 256 ^ 4) (ho : Own encY 1 B bv Hs) (hl : (B.length : Int) + 4 ≤ lim) (h1 : lim ≤ 65536)
    (h : ∀ bv' Hs', Own encY 1 (B ++ be x.toNat 4) bv' Hs' → Q (.int .i64 0) ((p, .row [bv', .int .i64 lim, .map (some mb)] ez el) :: X :: (Hs' ++ H))) :
    CallT (cx B0 old) (acall (cx B0 old) ansP (n + 3)) 167 [.pointer (some ⟨p, 0, none⟩), .int .u64 x] ((p, .row [bv, .int .i64 lim, .map (some mb)] ez el) :: X :: (Hs ++ H)) Q := by
  obtain ⟨nn, rfl⟩ := Int.eq_ofNat_of_zero_le h0
  rw [Int.toNat_natCast] at h
  refine call_in2 8 rfl Try.func167 rfl rfl ?_
  repeat (first | refine Z0 ?_ | (refine ZR ?_; first | refine x1 ?_ | refine x2 ?_ | refine x8 ?_ | refine Z1 ?_ | refine Z2 ?_ | refine x3 fun _ => ?_ | refine x4 fun _ => ?_ | refine x5 fun _ => ?_ | refine Z3 fun _ => ?_ | refine Z4 fun _ => ?_) | refine Za ?_ | refine Zb ?_ | refine Zl ?_ | refine Zc ?_ | refine Ze ?_ | refine Zi ?_ | refine Zj ?_ | refine Zf ?_ | refine Zg ?_ | refine Zm ?_ | refine Zn ?_ | refine Zo ?_ | refine Zp ?_ | refine Zq ?_ | refine Zr ?_ | refine Zk ?_)
  refine rt_step rfl rfl rfl (st_call rfl rfl rfl rfl (put140_ct nn 4 (by omega) ho hl h1 (by omega) (by omega) fun v' Hs' ho' => ?_))
  repeat (first | refine Z0 ?_ | (refine ZR ?_; first | refine x1 ?_ | refine x2 ?_ | refine x8 ?_ | refine Z1 ?_ | refine Z2 ?_ | refine x3 fun _ => ?_ | refine x4 fun _ => ?_ | refine x5 fun _ => ?_ | refine Z3 fun _ => ?_ | refine Z4 fun _ => ?_) | refine Za ?_ | refine Zb ?_ | refine Zl ?_ | refine Zc ?_ | refine Ze ?_ | refine Zi ?_ | refine Zj ?_ | refine Zf ?_ | refine Zg ?_ | refine Zm ?_ | refine Zn ?_ | refine Zo ?_ | refine Zp ?_ | refine Zq ?_ | refine Zr ?_ | refine Zk ?_)
  exact re_1 rfl rfl (List.Sublist.refl _) (h _ _ ho')
theorem w48_ct (x : Int) (h0 : 0 ≤ x) (hx : x < 256 ^ 6) (ho : Own encY 1 B bv Hs) (hl : (B.length : Int) + 6 ≤ lim) (h1 : lim ≤ 65536)
    (h : ∀ bv' Hs', Own encY 1 (B ++ be x.toNat 6) bv' Hs' → Q (.int .i64 0) ((p, .row [bv', .int .i64 lim, .map (some mb)] ez el) :: X :: (Hs' ++ H))) :
    CallT (cx B0 old) (acall (cx B0 old) ansP (n + 3)) 127 [.pointer (some ⟨p, 0, none⟩), .int .u64 x] ((p, .row [bv, .int .i64 lim, .map (some mb)] ez el) :: X :: (Hs ++ H)) Q := by
  obtain ⟨nn, rfl⟩ := Int.eq_ofNat_of_zero_le h0
  rw [Int.toNat_natCast] at h
  refine call_in2 8 rfl Try.func127 rfl rfl ?_
  repeat (first | refine Z0 ?_ | (refine ZR ?_; first | refine x1 ?_ | refine x2 ?_ | refine x8 ?_ | refine Z1 ?_ | refine Z2 ?_ | refine x3 fun _ => ?_ | refine x4 fun _ => ?_ | refine x5 fun _ => ?_ | refine Z3 fun _ => ?_ | refine Z4 fun _ => ?_) | refine Za ?_ | refine Zb ?_ | refine Zl ?_ | refine Zc ?_ | refine Ze ?_ | refine Zi ?_ | refine Zj ?_ | refine Zf ?_ | refine Zg ?_ | refine Zm ?_ | refine Zn ?_ | refine Zo ?_ | refine Zp ?_ | refine Zq ?_ | refine Zr ?_ | refine Zk ?_)
  refine rt_step rfl rfl rfl (st_call rfl rfl rfl rfl (put140_ct nn 6 (by omega) ho hl h1 (by omega) (by omega) fun v' Hs' ho' => ?_))
  repeat (first | refine Z0 ?_ | (refine ZR ?_; first | refine x1 ?_ | refine x2 ?_ | refine x8 ?_ | refine Z1 ?_ | refine Z2 ?_ | refine x3 fun _ => ?_ | refine x4 fun _ => ?_ | refine x5 fun _ => ?_ | refine Z3 fun _ => ?_ | refine Z4 fun _ => ?_) | refine Za ?_ | refine Zb ?_ | refine Zl ?_ | refine Zc ?_ | refine Ze ?_ | refine Zi ?_ | refine Zj ?_ | refine Zf ?_ | refine Zg ?_ | refine Zm ?_ | refine Zn ?_ | refine Zo ?_ | refine Zp ?_ | refine Zq ?_ | refine Zr ?_ | refine Zk ?_)
  exact re_1 rfl rfl (List.Sublist.refl _) (h _ _ ho')
theorem w64_ct (x : Int) (h0 : 0 ≤ x) (hx : x < 256 ^ 8) (ho : Own encY 1 B bv Hs) (hl : (B.length : Int) + 8 ≤ lim) (h1 : lim ≤ 65536)
    (h : ∀ bv' Hs', Own encY 1 (B ++ be x.toNat 8) bv' Hs' → Q (.int .i64 0) ((p, .row [bv', .int .i64 lim, .map (some mb)] ez el) :: X :: (Hs' ++ H))) :
    CallT (cx B0 old) (acall (cx B0 old) ansP (n + 3)) 129 [.pointer (some ⟨p, 0, none⟩), .int .u64 x] ((p, .row [bv, .int .i64 lim, .map (some mb)] ez el) :: X :: (Hs ++ H)) Q := by
  obtain ⟨nn, rfl⟩ := Int.eq_ofNat_of_zero_le h0
  rw [Int.toNat_natCast] at h
  refine call_in2 8 rfl Try.func129 rfl rfl ?_
  repeat (first | refine Z0 ?_ | (refine ZR ?_; first | refine x1 ?_ | refine x2 ?_ | refine x8 ?_ | refine Z1 ?_ | refine Z2 ?_ | refine x3 fun _ => ?_ | refine x4 fun _ => ?_ | refine x5 fun _ => ?_ | refine Z3 fun _ => ?_ | refine Z4 fun _ => ?_) | refine Za ?_ | refine Zb ?_ | refine Zl ?_ | refine Zc ?_ | refine Ze ?_ | refine Zi ?_ | refine Zj ?_ | refine Zf ?_ | refine Zg ?_ | refine Zm ?_ | refine Zn ?_ | refine Zo ?_ | refine Zp ?_ | refine Zq ?_ | refine Zr ?_ | refine Zk ?_)
  refine rt_step rfl rfl rfl (st_call rfl rfl rfl rfl (put140_ct nn 8 (by omega) ho hl h1 (by omega) (by omega) fun v' Hs' ho' => ?_))
  repeat (first | refine Z0 ?_ | (refine ZR ?_; first | refine x1 ?_ | refine x2 ?_ | refine x8 ?_ | refine Z1 ?_ | refine Z2 ?_ | refine x3 fun _ => ?_ | refine x4 fun _ => ?_ | refine x5 fun _ => ?_ | refine Z3 fun _ => ?_ | refine Z4 fun _ => ?_) | refine Za ?_ | refine Zb ?_ | refine Zl ?_ | refine Zc ?_ | refine Ze ?_ | refine Zi ?_ | refine Zj ?_ | refine Zf ?_ | refine Zg ?_ | refine Zm ?_ | refine Zn ?_ | refine Zo ?_ | refine Zp ?_ | refine Zq ?_ | refine Zr ?_ | refine Zk ?_)
  exact re_1 rfl rfl (List.Sublist.refl _) (h _ _ ho')
theorem wB_ct (ad1 : Option Addr) (c1 : Nat) (M : List Int) (ha : ArrW (cx B0 old) H ad1 1 encY M) (ho : Own encY 1 B bv Hs) (hl : (B.length : Int) + M.length ≤ lim) (h1 : lim ≤ 65536)
    (h : ∀ bv' Hs', Own encY 1 (B ++ M) bv' Hs' → Q (.int .i64 0) ((p, .row [bv', .int .i64 lim, .map (some mb)] ez el) :: X :: (Hs' ++ H))) :
    CallT (cx B0 old) (acall (cx B0 old) ansP (n + 2)) 166 [.pointer (some ⟨p, 0, none⟩), .slice ad1 M.length c1] ((p, .row [bv, .int .i64 lim, .map (some mb)] ez el) :: X :: (Hs ++ H)) Q := by
  obtain ⟨ad, c, rfl, _⟩ := ho.arrW (C := cx B0 old) encY_len
  refine call_in2 24 rfl Try.func166 rfl rfl ?_
  repeat (first | refine Z0 ?_ | (refine ZR ?_; first | refine x1 ?_ | refine x2 ?_ | refine x8 ?_ | refine Z1 ?_ | refine Z2 ?_ | refine x3 fun _ => ?_ | refine x4 fun _ => ?_ | refine x5 fun _ => ?_ | refine Z3 fun _ => ?_ | refine Z4 fun _ => ?_) | refine Za ?_ | refine Zb ?_ | refine Zl ?_ | refine Zc ?_ | refine Ze ?_ | refine Zi ?_ | refine Zj ?_ | refine Zf ?_ | refine Zg ?_ | refine Zm ?_ | refine Zn ?_ | refine Zo ?_ | refine Zp ?_ | refine Zq ?_ | refine Zr ?_ | refine Zk ?_)
  refine rt_step rfl rfl rfl (st_call rfl rfl rfl rfl (valid138_ct ?_))
  repeat (first | refine Z0 ?_ | (refine ZR ?_; first | refine x1 ?_ | refine x2 ?_ | refine x8 ?_ | refine Z1 ?_ | refine Z2 ?_ | refine x3 fun _ => ?_ | refine x4 fun _ => ?_ | refine x5 fun _ => ?_ | refine Z3 fun _ => ?_ | refine Z4 fun _ => ?_) | refine Za ?_ | refine Zb ?_ | refine Zl ?_ | refine Zc ?_ | refine Ze ?_ | refine Zi ?_ | refine Zj ?_ | refine Zf ?_ | refine Zg ?_ | refine Zm ?_ | refine Zn ?_ | refine Zo ?_ | refine Zp ?_ | refine Zq ?_ | refine Zr ?_ | refine Zk ?_)
  refine rt_step rfl rfl rfl (st_call rfl rfl rfl rfl (left141_ct (by omega) (by omega) h1 ?_))
  repeat (first | refine Z0 ?_ | (refine ZR ?_; first | refine x1 ?_ | refine x2 ?_ | refine x8 ?_ | refine Z1 ?_ | refine Z2 ?_ | refine x3 fun _ => ?_ | refine x4 fun _ => ?_ | refine x5 fun _ => ?_ | refine Z3 fun _ => ?_ | refine Z4 fun _ => ?_) | refine Za ?_ | refine Zb ?_ | refine Zl ?_ | refine Zc ?_ | refine Ze ?_ | refine Zi ?_ | refine Zj ?_ | refine Zf ?_ | refine Zg ?_ | refine Zm ?_ | refine Zn ?_ | refine Zo ?_ | refine Zp ?_ | refine Zq ?_ | refine Zr ?_ | refine Zk ?_)
  refine ct_condT te_d rfl (fun hc => ?_) (fun hc => ?_)
  · exfalso; omega
  repeat (first | refine Z0 ?_ | (refine ZR ?_; first | refine x1 ?_ | refine x2 ?_ | refine x8 ?_ | refine Z1 ?_ | refine Z2 ?_ | refine x3 fun _ => ?_ | refine x4 fun _ => ?_ | refine x5 fun _ => ?_ | refine Z3 fun _ => ?_ | refine Z4 fun _ => ?_) | refine Za ?_ | refine Zb ?_ | refine Zl ?_ | refine Zc ?_ | refine Ze ?_ | refine Zi ?_ | refine Zj ?_ | refine Zf ?_ | refine Zg ?_ | refine Zm ?_ | refine Zn ?_ | refine Zo ?_ | refine Zp ?_ | refine Zq ?_ | refine Zr ?_ | refine Zk ?_)
  refine rt_step rfl rfl rfl (st_appP (M := M) (c := c1) (pre := [_, _]) ho encY_len encY_one rfl rfl (ap rfl) (ha.weak ((List.sublist_append_right _ _).trans (List.sublist_append_right _ _))) (by show _ * (1 + 1) ≤ _; omega) fun v' Hs' ho' => ?_)
  have ho2 := ho'
  obtain ⟨ad', c', rfl, _⟩ := ho'.arrW (C := cx B0 old) encY_len
  repeat (first | refine Z0 ?_ | (refine ZR ?_; first | refine x1 ?_ | refine x2 ?_ | refine x8 ?_ | refine Z1 ?_ | refine Z2 ?_ | refine x3 fun _ => ?_ | refine x4 fun _ => ?_ | refine x5 fun _ => ?_ | refine Z3 fun _ => ?_ | refine Z4 fun _ => ?_) | refine Za ?_ | refine Zb ?_ | refine Zl ?_ | refine Zc ?_ | refine Ze ?_ | refine Zi ?_ | refine Zj ?_ | refine Zf ?_ | refine Zg ?_ | refine Zm ?_ | refine Zn ?_ | refine Zo ?_ | refine Zp ?_ | refine Zq ?_ | refine Zr ?_ | refine Zk ?_)
  exact re_1 rfl rfl (by exact drop_auto) (h _ _ ho2)
end
end Go.Proofs.Ytjdppdoakbojcaa.Abs
