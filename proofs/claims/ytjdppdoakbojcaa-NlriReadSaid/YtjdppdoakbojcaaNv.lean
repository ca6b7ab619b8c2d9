/- Routes in plain Lean: which are valid, how they are encoded. -/
import Derived.Test.YtjdppdoakbojcaaNu
import Derived.Test.YtjdppdoakbojcaaBy
namespace Go.Proofs.Ytjdppdoakbojcaa.Abs
open Go
set_option linter.unusedVariables false
def zS : S60 := ⟨0, 0, 0, 0, 0, 0, 0, 0, 0, 0, 0, 0, 0, 0, 0, false, 0, 0, 0, 0, 0⟩
/-- The fields that the kind uses. -/
def onlyS (x : S60) : S60 := if x.a0 = 1 then { x with a13 := 0, a14 := 0, a15 := false, a16 := 0, a17 := 0, a18 := 0, a20 := 0 } else if x.a0 = 2 then { x with a14 := if x.a15 then x.a14 else 0, a16 := 0, a17 := 0, a18 := 0 } else if x.a0 = 3 then { x with a2 := 0, a3 := 0, a4 := 0, a5 := 0, a6 := 0, a7 := 0, a8 := 0, a9 := 0, a10 := 0, a11 := 0, a13 := 0, a15 := true, a16 := 0, a17 := 0, a18 := 0, a19 := 0, a20 := 0 } else if x.a0 = 4 then { x with a12 := 0, a13 := 0, a15 := true, a16 := 0, a17 := 0, a18 := 0, a19 := 0, a20 := 0 } else { x with a13 := 0, a14 := 0, a15 := false, a20 := 0 }
/-- The fields that the kind does not use. -/
def zapS (x : S60) : S60 := if x.a0 = 2 then { x with a0 := 0, a1 := 0, a2 := 0, a3 := 0, a4 := 0, a5 := 0, a6 := 0, a7 := 0, a8 := 0, a9 := 0, a10 := 0, a11 := 0, a12 := 0, a13 := 0, a15 := false, a14 := 0, a19 := 0, a20 := 0 } else if x.a0 = 1 then { x with a0 := 0, a1 := 0, a2 := 0, a3 := 0, a4 := 0, a5 := 0, a6 := 0, a7 := 0, a8 := 0, a9 := 0, a10 := 0, a11 := 0, a12 := 0, a19 := 0 } else if x.a0 = 3 then { x with a0 := 0, a1 := 0, a12 := 0, a15 := false, a14 := 0 } else if x.a0 = 4 then { x with a0 := 0, a1 := 0, a2 := 0, a3 := 0, a4 := 0, a5 := 0, a6 := 0, a7 := 0, a8 := 0, a9 := 0, a10 := 0, a11 := 0, a15 := false, a14 := 0 } else if x.a0 = 5 then { x with a0 := 0, a1 := 0, a2 := 0, a3 := 0, a4 := 0, a5 := 0, a6 := 0, a7 := 0, a8 := 0, a9 := 0, a10 := 0, a11 := 0, a12 := 0, a16 := 0, a17 := 0, a18 := 0, a19 := 0 } else { x with a0 := 0, a1 := 0 }
def nlForm (x : S60) : Bool := leafsEq (en60 (onlyS x)) (en60 x)
def nlFor (x : S60) : Bool := leafsEq (en60 (zapS x)) (en60 zS)
def okIP (x : S60) : Prop := x.a15 = true ∨ ¬ (x.a0 = 3 ∨ x.a0 = 4 ∨ (x.a0 = 2 ∧ x.a14 ≠ 0))
theorem form_iff {x : S60} (h : 1 ≤ x.a0 ∧ x.a0 ≤ 5) : nlForm x = true ↔ nlFor x = true ∧ okIP x := by
  have hk : x.a0 = 1 ∨ x.a0 = 2 ∨ x.a0 = 3 ∨ x.a0 = 4 ∨ x.a0 = 5 := by omega
  clear h
  obtain ⟨x0, x1, x2, x3, x4, x5, x6, x7, x8, x9, x10, x11, x12, x13, x14, x15, x16, x17, x18, x19, x20⟩ := x
  dsimp only at hk
  unfold nlForm nlFor okIP onlyS zapS zS
  rcases hk with h | h | h | h | h
  all_goals subst h
  all_goals simp [en60, leafsEq, leafN, leafT]
  all_goals (try cases x15)
  all_goals (try simp)
  all_goals (first | done | omega | (constructor <;> (intro h; simp_all)))
def mskI (l : Int) : Int := IntKind.u32.wrap (4294967295 * 2 ^ (min (32 - l).toNat IntKind.u32.bits))
def clI (ip l : Int) : Int := IntKind.u32.wrap ((BitVec.ofInt IntKind.u32.bits ip &&& BitVec.ofInt IntKind.u32.bits (mskI l)).toNat : Int)
def nlCk (x : S60) : Int := if x.a0 < 1 ∨ x.a0 > 5 then 6 else if nlForm x = false then 3 else if x.a13 > 281474976710655 ∨ x.a19 > 16777215 ∨ x.a20 > 16777215 ∨ x.a17 < 0 ∨ x.a17 > 32 then 2 else if clI x.a16 x.a17 ≠ x.a16 then 3 else 0
theorem ck_6 {x : S60} (h : x.a0 < 1 ∨ x.a0 > 5) : nlCk x = 6 := by unfold nlCk; rw [if_pos h]
theorem ck_3 {x : S60} (h : ¬ (x.a0 < 1 ∨ x.a0 > 5)) (h2 : nlForm x = false) : nlCk x = 3 := by unfold nlCk; rw [if_neg h, if_pos h2]
theorem ck_2 {x : S60} (h : ¬ (x.a0 < 1 ∨ x.a0 > 5)) (h2 : nlForm x = true) (h3 : x.a13 > 281474976710655 ∨ x.a19 > 16777215 ∨ x.a20 > 16777215 ∨ x.a17 < 0 ∨ x.a17 > 32) : nlCk x = 2 := by unfold nlCk; rw [if_neg h, h2, if_neg (by decide), if_pos h3]
theorem ck_c {x : S60} (h : ¬ (x.a0 < 1 ∨ x.a0 > 5)) (h2 : nlForm x = true) (h3 : ¬ (x.a13 > 281474976710655 ∨ x.a19 > 16777215 ∨ x.a20 > 16777215 ∨ x.a17 < 0 ∨ x.a17 > 32)) : nlCk x = if clI x.a16 x.a17 ≠ x.a16 then 3 else 0 := by unfold nlCk; rw [if_neg h, h2, if_neg (by decide), if_neg h3]
/-- What a valid route satisfies. -/
structure NlOk (x : S60) : Prop where
  kind : 1 ≤ x.a0 ∧ x.a0 ≤ 5
  form : nlForm x = true
  rng : x.a13 ≤ 281474976710655 ∧ x.a19 ≤ 16777215 ∧ x.a20 ≤ 16777215 ∧ 0 ≤ x.a17 ∧ x.a17 ≤ 32
  clean : clI x.a16 x.a17 = x.a16
theorem nlOk_iff {x : S60} : nlCk x = 0 ↔ NlOk x := by
  constructor
  · intro h
    by_cases h1 : x.a0 < 1 ∨ x.a0 > 5
    · rw [ck_6 h1] at h; cases h
    cases h2 : nlForm x with
    | false => rw [ck_3 h1 h2] at h; cases h
    | true =>
      by_cases h3 : x.a13 > 281474976710655 ∨ x.a19 > 16777215 ∨ x.a20 > 16777215 ∨ x.a17 < 0 ∨ x.a17 > 32
      · rw [ck_2 h1 h2 h3] at h; cases h
      · rw [ck_c h1 h2 h3] at h
        refine ⟨by omega, h2, by omega, ?_⟩
        split at h
        · cases h
        · rename_i g; exact Decidable.not_not.1 g
  · rintro ⟨h1, h2, h3, h4⟩
    rw [ck_c (by omega) h2 (by omega), if_neg (fun g => g h4)]
/-- The value of a route. -/
def nlV (x : S60) : List Int :=
  if x.a0 = 1 then be x.a1.toNat 8 ++ (esL x ++ (be x.a12.toNat 4 ++ be x.a19.toNat 3))
  else if x.a0 = 2 then be x.a1.toNat 8 ++ (esL x ++ (be x.a12.toNat 4 ++ (be 48 1 ++ (be x.a13.toNat 6 ++ ((if x.a15 then be 32 1 ++ be x.a14.toNat 4 else be 0 1) ++ (be x.a19.toNat 3 ++ (if x.a20 ≠ 0 then be x.a20.toNat 3 else [])))))))
  else if x.a0 = 3 then be x.a1.toNat 8 ++ (be x.a12.toNat 4 ++ (be 32 1 ++ be x.a14.toNat 4))
  else if x.a0 = 4 then be x.a1.toNat 8 ++ (esL x ++ (be 32 1 ++ be x.a14.toNat 4))
  else be x.a1.toNat 8 ++ (esL x ++ (be x.a12.toNat 4 ++ (be x.a17.toNat 1 ++ (be x.a16.toNat 4 ++ (be x.a18.toNat 4 ++ be x.a19.toNat 3)))))
def nlB (x : S60) : List Int := x.a0 :: ((nlV x).length : Int) :: nlV x
theorem esL_len (x : S60) : (esL x).length = 10 := rfl
theorem nlV_len (x : S60) : (nlV x).length ≤ 40 := by
  unfold nlV
  split
  · (try simp only [List.length_append]); (try simp only [be_len]); (try simp only [esL_len]); omega
  split
  · (try simp only [List.length_append]); (try simp only [be_len]); (try simp only [esL_len])
    split <;> split <;> simp [be_len]
  split
  · (try simp only [List.length_append]); (try simp only [be_len]); (try simp only [esL_len]); omega
  split
  · (try simp only [List.length_append]); (try simp only [be_len]); (try simp only [esL_len]); omega
  · (try simp only [List.length_append]); (try simp only [be_len]); (try simp only [esL_len]); omega
theorem wf60_z {x : S60} (h : x.wf) : ∀ y ∈ esL x, isY y := by
  unfold S60.wf at h
  intro y hy
  unfold esL at hy
  unfold isY
  simp only [List.mem_cons, List.not_mem_nil, or_false] at hy
  rcases hy with rfl | rfl | rfl | rfl | rfl | rfl | rfl | rfl | rfl | rfl <;> omega
end Go.Proofs.Ytjdppdoakbojcaa.Abs

/- Contracts: routes are encoded by the program. -/
namespace Go.Proofs.Ytjdppdoakbojcaa.Abs
open Go
set_option linter.unusedVariables false
section
variable {C : Ctx} {hd : HH Prop} {l : Sl} {H H' : Hp} {v : Value} {x y z : Operand} {t : TypeId} {Θ : Value → Hp → Prop}
theorem st_insert {b c c' : Nat} {es es' : List MEnt} {k : Value} (h1 : evalL l x = some (.map (some b))) (h2 : evalL l y = some k) (h3 : evalL l z = some v) (hu : updE C t es c k v = some (es', c')) (hsw : Swap H b (.map es c) (.map es' c') H') (h : Θ undef H') :
    StepT C hd (.insert t x y z) l H Θ :=
  st_W (by simp [Op.operands, covL, h1, h2, h3]) rfl (fun _ => rfl) rfl fun s hm => ⟨undef, H', s.setObj b (.map es' c'), by simp only [aW, rhoL_eq h1, rhoL_eq h2, rhoL_eq h3, aupdate_is hm hsw.mem hu, Option.map_some], hm.swap hsw, h⟩
end
abbrev cdI (t : Nat) : Value := .iface t (.agg ⟨[]⟩)
def cdE (k : Nat) : List MEnt := (List.range k).map fun (i : Nat) => { key := .int .i64 ((i : Int) + 1), val := cdI (150 + i), born := i }
theorem u8_k {x : Int} (h : 0 ≤ x ∧ x < 256) : IntKind.u8.wrap x = x := by
  have : IntKind.u8.wrap x = x % 256 := by simp [IntKind.wrap, IntKind.bits, IntKind.signed]
  omega
theorem nlV1 {x : S60} (h : x.a0 = 1) : nlV x = be x.a1.toNat 8 ++ (esL x ++ (be x.a12.toNat 4 ++ be x.a19.toNat 3)) := if_pos h
theorem nlV2 {x : S60} (h : x.a0 = 2) : nlV x = be x.a1.toNat 8 ++ (esL x ++ (be x.a12.toNat 4 ++ (be 48 1 ++ (be x.a13.toNat 6 ++ ((if x.a15 then be 32 1 ++ be x.a14.toNat 4 else be 0 1) ++ (be x.a19.toNat 3 ++ (if x.a20 ≠ 0 then be x.a20.toNat 3 else []))))))) := by unfold nlV; rw [if_neg (by omega), if_pos h]
theorem nlV3 {x : S60} (h : x.a0 = 3) : nlV x = be x.a1.toNat 8 ++ (be x.a12.toNat 4 ++ (be 32 1 ++ be x.a14.toNat 4)) := by unfold nlV; rw [if_neg (by omega), if_neg (by omega), if_pos h]
theorem nlV4 {x : S60} (h : x.a0 = 4) : nlV x = be x.a1.toNat 8 ++ (esL x ++ (be 32 1 ++ be x.a14.toNat 4)) := by unfold nlV; rw [if_neg (by omega), if_neg (by omega), if_neg (by omega), if_pos h]
theorem nlV5 {x : S60} (h : x.a0 = 5) : nlV x = be x.a1.toNat 8 ++ (esL x ++ (be x.a12.toNat 4 ++ (be x.a17.toNat 1 ++ (be x.a16.toNat 4 ++ (be x.a18.toNat 4 ++ be x.a19.toNat 3))))) := by unfold nlV; rw [if_neg (by omega), if_neg (by omega), if_neg (by omega), if_neg (by omega)]
section
variable {B0 : Nat} {old : Nat → Option (List Value)} {n : Nat} {H Hs : Hp} {Q : Value → Hp → Prop} {p ez mb b : Nat} {el : Bool} {bv : Value} {lim : Int} {L B : List Int} {X Y : Nat × AObj}
set_option maxRecDepth 10000
set_option maxHeartbeats 4000000
theorem codecs81_ct (hQ : ∀ b, Q (.map (some b)) ((b, .map (cdE 5) 5) :: H)) : CallT (cx B0 old) (acall (cx B0 old) ansP (n + 1)) 81 [] H Q := by
  refine call_in 13 rfl rfl rfl rfl ?_
  repeat (first | refine Z0 ?_ | (refine ZR ?_; first | refine x1 ?_ | refine x2 ?_ | refine x8 ?_ | refine Z1 ?_ | refine Z2 ?_ | refine x3 fun _ => ?_ | refine x4 fun _ => ?_ | refine x5 fun _ => ?_ | refine Z3 fun _ => ?_ | refine Z4 fun _ => ?_) | refine Za ?_ | refine Zb ?_ | refine Zl ?_ | refine Zc ?_ | refine Ze ?_ | refine Zi ?_ | refine Zj ?_ | refine Zf ?_ | refine Zg ?_ | refine Zm ?_ | refine Zn ?_ | refine Zo ?_ | refine Zp ?_ | refine Zq ?_ | refine Zr ?_ | refine Zk ?_)
  rename_i bm
  refine rt_step0 rfl rfl (st_insert (es' := cdE 1) (c' := 1) rfl rfl rfl (by kernel_rfl) (.here _ _ _ _) ?_)
  repeat (first | refine Z0 ?_ | (refine ZR ?_; first | refine x1 ?_ | refine x2 ?_ | refine x8 ?_ | refine Z1 ?_ | refine Z2 ?_ | refine x3 fun _ => ?_ | refine x4 fun _ => ?_ | refine x5 fun _ => ?_ | refine Z3 fun _ => ?_ | refine Z4 fun _ => ?_) | refine Za ?_ | refine Zb ?_ | refine Zl ?_ | refine Zc ?_ | refine Ze ?_ | refine Zi ?_ | refine Zj ?_ | refine Zf ?_ | refine Zg ?_ | refine Zm ?_ | refine Zn ?_ | refine Zo ?_ | refine Zp ?_ | refine Zq ?_ | refine Zr ?_ | refine Zk ?_)
  refine rt_step0 rfl rfl (st_insert (es' := cdE 2) (c' := 2) rfl rfl rfl (by kernel_rfl) (.here _ _ _ _) ?_)
  repeat (first | refine Z0 ?_ | (refine ZR ?_; first | refine x1 ?_ | refine x2 ?_ | refine x8 ?_ | refine Z1 ?_ | refine Z2 ?_ | refine x3 fun _ => ?_ | refine x4 fun _ => ?_ | refine x5 fun _ => ?_ | refine Z3 fun _ => ?_ | refine Z4 fun _ => ?_) | refine Za ?_ | refine Zb ?_ | refine Zl ?_ | refine Zc ?_ | refine Ze ?_ | refine Zi ?_ | refine Zj ?_ | refine Zf ?_ | refine Zg ?_ | refine Zm ?_ | refine Zn ?_ | refine Zo ?_ | refine Zp ?_ | refine Zq ?_ | refine Zr ?_ | refine Zk ?_)
  refine rt_step0 rfl rfl (st_insert (es' := cdE 3) (c' := 3) rfl rfl rfl (by kernel_rfl) (.here _ _ _ _) ?_)
  repeat (first | refine Z0 ?_ | (refine ZR ?_; first | refine x1 ?_ | refine x2 ?_ | refine x8 ?_ | refine Z1 ?_ | refine Z2 ?_ | refine x3 fun _ => ?_ | refine x4 fun _ => ?_ | refine x5 fun _ => ?_ | refine Z3 fun _ => ?_ | refine Z4 fun _ => ?_) | refine Za ?_ | refine Zb ?_ | refine Zl ?_ | refine Zc ?_ | refine Ze ?_ | refine Zi ?_ | refine Zj ?_ | refine Zf ?_ | refine Zg ?_ | refine Zm ?_ | refine Zn ?_ | refine Zo ?_ | refine Zp ?_ | refine Zq ?_ | refine Zr ?_ | refine Zk ?_)
  refine rt_step0 rfl rfl (st_insert (es' := cdE 4) (c' := 4) rfl rfl rfl (by kernel_rfl) (.here _ _ _ _) ?_)
  repeat (first | refine Z0 ?_ | (refine ZR ?_; first | refine x1 ?_ | refine x2 ?_ | refine x8 ?_ | refine Z1 ?_ | refine Z2 ?_ | refine x3 fun _ => ?_ | refine x4 fun _ => ?_ | refine x5 fun _ => ?_ | refine Z3 fun _ => ?_ | refine Z4 fun _ => ?_) | refine Za ?_ | refine Zb ?_ | refine Zl ?_ | refine Zc ?_ | refine Ze ?_ | refine Zi ?_ | refine Zj ?_ | refine Zf ?_ | refine Zg ?_ | refine Zm ?_ | refine Zn ?_ | refine Zo ?_ | refine Zp ?_ | refine Zq ?_ | refine Zr ?_ | refine Zk ?_)
  refine rt_step0 rfl rfl (st_insert (es' := cdE 5) (c' := 5) rfl rfl rfl (by kernel_rfl) (.here _ _ _ _) ?_)
  repeat (first | refine Z0 ?_ | (refine ZR ?_; first | refine x1 ?_ | refine x2 ?_ | refine x8 ?_ | refine Z1 ?_ | refine Z2 ?_ | refine x3 fun _ => ?_ | refine x4 fun _ => ?_ | refine x5 fun _ => ?_ | refine Z3 fun _ => ?_ | refine Z4 fun _ => ?_) | refine Za ?_ | refine Zb ?_ | refine Zl ?_ | refine Zc ?_ | refine Ze ?_ | refine Zi ?_ | refine Zj ?_ | refine Zf ?_ | refine Zg ?_ | refine Zm ?_ | refine Zn ?_ | refine Zo ?_ | refine Zp ?_ | refine Zq ?_ | refine Zr ?_ | refine Zk ?_)
  exact re_1 rfl rfl (List.Sublist.refl _) (hQ _)
theorem host180_ct (x : Int) (hx : 0 ≤ x ∧ x ≤ 4294967295) (ho : Own encY 1 B bv Hs) (hl : (B.length : Int) + 5 ≤ lim) (h1 : lim ≤ 65536)
    (h : ∀ v bv' Hs', Own encY 1 (B ++ (be 32 1 ++ be x.toNat 4)) bv' Hs' → Q v ((p, .row [bv', .int .i64 lim, .map (some mb)] ez el) :: X :: (Hs' ++ H))) :
    CallT (cx B0 old) (acall (cx B0 old) ansP (n + 4)) 180 [.pointer (some ⟨p, 0, none⟩), .int .u32 x] ((p, .row [bv, .int .i64 lim, .map (some mb)] ez el) :: X :: (Hs ++ H)) Q := by
  refine call_in2 10 rfl Try.func180 rfl rfl ?_
  repeat (first | refine Z0 ?_ | (refine ZR ?_; first | refine x1 ?_ | refine x2 ?_ | refine x8 ?_ | refine Z1 ?_ | refine Z2 ?_ | refine x3 fun _ => ?_ | refine x4 fun _ => ?_ | refine x5 fun _ => ?_ | refine Z3 fun _ => ?_ | refine Z4 fun _ => ?_) | refine Za ?_ | refine Zb ?_ | refine Zl ?_ | refine Zc ?_ | refine Ze ?_ | refine Zi ?_ | refine Zj ?_ | refine Zf ?_ | refine Zg ?_ | refine Zm ?_ | refine Zn ?_ | refine Zo ?_ | refine Zp ?_ | refine Zq ?_ | refine Zr ?_ | refine Zk ?_)
  refine rt_step rfl rfl rfl (st_call rfl rfl rfl rfl (w8_ct 32 (by decide) (by decide) ho (by omega) h1 fun v1 G1 o1 => ?_))
  repeat (first | refine Z0 ?_ | (refine ZR ?_; first | refine x1 ?_ | refine x2 ?_ | refine x8 ?_ | refine Z1 ?_ | refine Z2 ?_ | refine x3 fun _ => ?_ | refine x4 fun _ => ?_ | refine x5 fun _ => ?_ | refine Z3 fun _ => ?_ | refine Z4 fun _ => ?_) | refine Za ?_ | refine Zb ?_ | refine Zl ?_ | refine Zc ?_ | refine Ze ?_ | refine Zi ?_ | refine Zj ?_ | refine Zf ?_ | refine Zg ?_ | refine Zm ?_ | refine Zn ?_ | refine Zo ?_ | refine Zp ?_ | refine Zq ?_ | refine Zr ?_ | refine Zk ?_)
  rw [u64_id (show 0 ≤ x ∧ x < 18446744073709551616 by omega)]
  repeat (first | refine Z0 ?_ | (refine ZR ?_; first | refine x1 ?_ | refine x2 ?_ | refine x8 ?_ | refine Z1 ?_ | refine Z2 ?_ | refine x3 fun _ => ?_ | refine x4 fun _ => ?_ | refine x5 fun _ => ?_ | refine Z3 fun _ => ?_ | refine Z4 fun _ => ?_) | refine Za ?_ | refine Zb ?_ | refine Zl ?_ | refine Zc ?_ | refine Ze ?_ | refine Zi ?_ | refine Zj ?_ | refine Zf ?_ | refine Zg ?_ | refine Zm ?_ | refine Zn ?_ | refine Zo ?_ | refine Zp ?_ | refine Zq ?_ | refine Zr ?_ | refine Zk ?_)
  refine rt_step rfl rfl rfl (st_call rfl rfl rfl rfl (w32_ct x (by omega) (by omega) o1 (by (try simp only [List.length_append]); (try simp only [be_len]); omega) h1 fun v2 G2 o2 => ?_))
  repeat (first | refine Z0 ?_ | (refine ZR ?_; first | refine x1 ?_ | refine x2 ?_ | refine x8 ?_ | refine Z1 ?_ | refine Z2 ?_ | refine x3 fun _ => ?_ | refine x4 fun _ => ?_ | refine x5 fun _ => ?_ | refine Z3 fun _ => ?_ | refine Z4 fun _ => ?_) | refine Za ?_ | refine Zb ?_ | refine Zl ?_ | refine Zc ?_ | refine Ze ?_ | refine Zi ?_ | refine Zj ?_ | refine Zf ?_ | refine Zg ?_ | refine Zm ?_ | refine Zn ?_ | refine Zo ?_ | refine Zp ?_ | refine Zq ?_ | refine Zr ?_ | refine Zk ?_)
  simp only [List.append_assoc] at o2
  exact re_0 rfl (by exact drop_auto) fun v => h v _ _ o2
theorem host180b_ct (x : Int) (hx : 0 ≤ x ∧ x ≤ 4294967295) (ho : Own encY 1 B bv Hs) (hl : (B.length : Int) + 5 ≤ lim) (h1 : lim ≤ 65536)
    (h : ∀ v bv' Hs', Own encY 1 (B ++ (be 32 1 ++ be x.toNat 4)) bv' Hs' → Q v (Y :: (p, .row [bv', .int .i64 lim, .map (some mb)] ez el) :: X :: (Hs' ++ H))) :
    CallT (cx B0 old) (acall (cx B0 old) ansP (n + 4)) 180 [.pointer (some ⟨p, 0, none⟩), .int .u32 x] (Y :: (p, .row [bv, .int .i64 lim, .map (some mb)] ez el) :: X :: (Hs ++ H)) Q :=
  CallT.permQ (host180_ct x hx ho hl h1 fun v bv' Hs' ho' => ⟨_, permB.symm, h v bv' Hs' ho'⟩) permB
theorem put161_ct (x : S60) (hw : x.wf) (ok : NlOk x) (hk : x.a0 = 1)
    (hQ : ∀ v bv' Hs', Own encY 1 (nlV x) bv' Hs' → Q v ((p, .row [bv', .int .i64 40, .map (some mb)] ez el) :: X :: (Hs' ++ H))) :
    CallT (cx B0 old) (acall (cx B0 old) ansP (n + 5)) 161 [.agg ⟨[]⟩, .pointer (some ⟨p, 0, none⟩), .agg ⟨en60 x⟩] ((p, .row [.slice none 0 0, .int .i64 40, .map (some mb)] ez el) :: X :: H) Q := by
  have hr := ok.rng
  unfold S60.wf at hw
  rw [nlV1 hk] at hQ
  refine call_in3 24 rfl Try.func161 rfl rfl ?_
  unfold en60
  repeat (first | refine Z0 ?_ | (refine ZR ?_; first | refine x1 ?_ | refine x2 ?_ | refine x8 ?_ | refine Z1 ?_ | refine Z2 ?_ | refine x3 fun _ => ?_ | refine x4 fun _ => ?_ | refine x5 fun _ => ?_ | refine Z3 fun _ => ?_ | refine Z4 fun _ => ?_) | refine Za ?_ | refine Zb ?_ | refine Zl ?_ | refine Zc ?_ | refine Ze ?_ | refine Zi ?_ | refine Zj ?_ | refine Zf ?_ | refine Zg ?_ | refine Zm ?_ | refine Zn ?_ | refine Zo ?_ | refine Zp ?_ | refine Zq ?_ | refine Zr ?_ | refine Zk ?_)
  rename_i c3 c5
  refine RunT.weak ?_ (List.Sublist.cons_cons _ (List.Sublist.cons _ (List.Sublist.refl _)))
  have hsl : aslice (cx B0 old) 56 (.pointer (some ⟨c5, 0 + 2, none⟩)) none none none = some (.slice (some ⟨c5, 2, none⟩) 10 10) := by
    have := aslice_arr (C := cx B0 old) (t := 56) (b := c5) (o := 2) (m := 0) (q := 10) (k := 1) (lo := none) (hi := none) rfl (show sizeAt (cx B0 old) 5 = some 1 from sz rfl) (by decide) (Nat.zero_le _) (by decide) (.inr ⟨rfl, rfl⟩) (.inr ⟨rfl, rfl⟩)
    simpa using this
  refine rt_step rfl rfl rfl (st_call rfl rfl rfl rfl (w64b_ct (B := []) (Hs := []) x.a1 (by omega) (by omega) Own.nil (by (try simp only [List.length_append]); (try simp only [List.length_nil]); (try simp only [be_len]); (try simp only [esL_len]); omega) (by decide) fun v1 G1 o1 => ?_))
  repeat (first | refine Z0 ?_ | (refine ZR ?_; first | refine x1 ?_ | refine x2 ?_ | refine x8 ?_ | refine Z1 ?_ | refine Z2 ?_ | refine x3 fun _ => ?_ | refine x4 fun _ => ?_ | refine x5 fun _ => ?_ | refine Z3 fun _ => ?_ | refine Z4 fun _ => ?_) | refine Za ?_ | refine Zb ?_ | refine Zl ?_ | refine Zc ?_ | refine Ze ?_ | refine Zi ?_ | refine Zj ?_ | refine Zf ?_ | refine Zg ?_ | refine Zm ?_ | refine Zn ?_ | refine Zo ?_ | refine Zp ?_ | refine Zq ?_ | refine Zr ?_ | refine Zk ?_)
  apply rt_p rfl rfl rfl
  case hp => exact p_slc rfl rfl rfl hsl
  repeat (first | refine Z0 ?_ | (refine ZR ?_; first | refine x1 ?_ | refine x2 ?_ | refine x8 ?_ | refine Z1 ?_ | refine Z2 ?_ | refine x3 fun _ => ?_ | refine x4 fun _ => ?_ | refine x5 fun _ => ?_ | refine Z3 fun _ => ?_ | refine Z4 fun _ => ?_) | refine Za ?_ | refine Zb ?_ | refine Zl ?_ | refine Zc ?_ | refine Ze ?_ | refine Zi ?_ | refine Zj ?_ | refine Zf ?_ | refine Zg ?_ | refine Zm ?_ | refine Zn ?_ | refine Zo ?_ | refine Zp ?_ | refine Zq ?_ | refine Zr ?_ | refine Zk ?_)
  refine rt_step rfl rfl rfl (st_call rfl rfl rfl rfl (wBb_ct (some ⟨c5, 2, none⟩) 10 (esL x) ⟨fun _ => ⟨c5, 2, _, rfl, .own _ _ hm0, rfl⟩⟩ o1 (by (try simp only [List.length_append]); (try simp only [List.length_nil]); (try simp only [be_len]); (try simp only [esL_len]); omega) (by decide) fun v2 G2 o2 => ?_))
  repeat (first | refine Z0 ?_ | (refine ZR ?_; first | refine x1 ?_ | refine x2 ?_ | refine x8 ?_ | refine Z1 ?_ | refine Z2 ?_ | refine x3 fun _ => ?_ | refine x4 fun _ => ?_ | refine x5 fun _ => ?_ | refine Z3 fun _ => ?_ | refine Z4 fun _ => ?_) | refine Za ?_ | refine Zb ?_ | refine Zl ?_ | refine Zc ?_ | refine Ze ?_ | refine Zi ?_ | refine Zj ?_ | refine Zf ?_ | refine Zg ?_ | refine Zm ?_ | refine Zn ?_ | refine Zo ?_ | refine Zp ?_ | refine Zq ?_ | refine Zr ?_ | refine Zk ?_)
  rw [u64_id (show 0 ≤ x.a12 ∧ x.a12 < 18446744073709551616 by omega)]
  repeat (first | refine Z0 ?_ | (refine ZR ?_; first | refine x1 ?_ | refine x2 ?_ | refine x8 ?_ | refine Z1 ?_ | refine Z2 ?_ | refine x3 fun _ => ?_ | refine x4 fun _ => ?_ | refine x5 fun _ => ?_ | refine Z3 fun _ => ?_ | refine Z4 fun _ => ?_) | refine Za ?_ | refine Zb ?_ | refine Zl ?_ | refine Zc ?_ | refine Ze ?_ | refine Zi ?_ | refine Zj ?_ | refine Zf ?_ | refine Zg ?_ | refine Zm ?_ | refine Zn ?_ | refine Zo ?_ | refine Zp ?_ | refine Zq ?_ | refine Zr ?_ | refine Zk ?_)
  refine rt_step rfl rfl rfl (st_call rfl rfl rfl rfl (w32b_ct x.a12 (by omega) (by omega) o2 (by (try simp only [List.length_append]); (try simp only [List.length_nil]); (try simp only [be_len]); (try simp only [esL_len]); omega) (by decide) fun v3 G3 o3 => ?_))
  repeat (first | refine Z0 ?_ | (refine ZR ?_; first | refine x1 ?_ | refine x2 ?_ | refine x8 ?_ | refine Z1 ?_ | refine Z2 ?_ | refine x3 fun _ => ?_ | refine x4 fun _ => ?_ | refine x5 fun _ => ?_ | refine Z3 fun _ => ?_ | refine Z4 fun _ => ?_) | refine Za ?_ | refine Zb ?_ | refine Zl ?_ | refine Zc ?_ | refine Ze ?_ | refine Zi ?_ | refine Zj ?_ | refine Zf ?_ | refine Zg ?_ | refine Zm ?_ | refine Zn ?_ | refine Zo ?_ | refine Zp ?_ | refine Zq ?_ | refine Zr ?_ | refine Zk ?_)
  rw [u64_id (show 0 ≤ x.a19 ∧ x.a19 < 18446744073709551616 by omega)]
  repeat (first | refine Z0 ?_ | (refine ZR ?_; first | refine x1 ?_ | refine x2 ?_ | refine x8 ?_ | refine Z1 ?_ | refine Z2 ?_ | refine x3 fun _ => ?_ | refine x4 fun _ => ?_ | refine x5 fun _ => ?_ | refine Z3 fun _ => ?_ | refine Z4 fun _ => ?_) | refine Za ?_ | refine Zb ?_ | refine Zl ?_ | refine Zc ?_ | refine Ze ?_ | refine Zi ?_ | refine Zj ?_ | refine Zf ?_ | refine Zg ?_ | refine Zm ?_ | refine Zn ?_ | refine Zo ?_ | refine Zp ?_ | refine Zq ?_ | refine Zr ?_ | refine Zk ?_)
  refine rt_step rfl rfl rfl (st_call rfl rfl rfl rfl (w24b_ct x.a19 (by omega) (by omega) o3 (by (try simp only [List.length_append]); (try simp only [List.length_nil]); (try simp only [be_len]); (try simp only [esL_len]); omega) (by decide) fun v4 G4 o4 => ?_))
  repeat (first | refine Z0 ?_ | (refine ZR ?_; first | refine x1 ?_ | refine x2 ?_ | refine x8 ?_ | refine Z1 ?_ | refine Z2 ?_ | refine x3 fun _ => ?_ | refine x4 fun _ => ?_ | refine x5 fun _ => ?_ | refine Z3 fun _ => ?_ | refine Z4 fun _ => ?_) | refine Za ?_ | refine Zb ?_ | refine Zl ?_ | refine Zc ?_ | refine Ze ?_ | refine Zi ?_ | refine Zj ?_ | refine Zf ?_ | refine Zg ?_ | refine Zm ?_ | refine Zn ?_ | refine Zo ?_ | refine Zp ?_ | refine Zq ?_ | refine Zr ?_ | refine Zk ?_)
  simp only [List.nil_append, List.append_assoc] at o4
  exact re_0 rfl (by exact drop_auto) fun v => hQ v _ _ o4
theorem put182_ct (x : S60) (hw : x.wf) (ok : NlOk x) (hk : x.a0 = 3)
    (hQ : ∀ v bv' Hs', Own encY 1 (nlV x) bv' Hs' → Q v ((p, .row [bv', .int .i64 40, .map (some mb)] ez el) :: X :: (Hs' ++ H))) :
    CallT (cx B0 old) (acall (cx B0 old) ansP (n + 5)) 182 [.agg ⟨[]⟩, .pointer (some ⟨p, 0, none⟩), .agg ⟨en60 x⟩] ((p, .row [.slice none 0 0, .int .i64 40, .map (some mb)] ez el) :: X :: H) Q := by
  have hr := ok.rng
  unfold S60.wf at hw
  rw [nlV3 hk] at hQ
  refine call_in3 19 rfl Try.func182 rfl rfl ?_
  unfold en60
  repeat (first | refine Z0 ?_ | (refine ZR ?_; first | refine x1 ?_ | refine x2 ?_ | refine x8 ?_ | refine Z1 ?_ | refine Z2 ?_ | refine x3 fun _ => ?_ | refine x4 fun _ => ?_ | refine x5 fun _ => ?_ | refine Z3 fun _ => ?_ | refine Z4 fun _ => ?_) | refine Za ?_ | refine Zb ?_ | refine Zl ?_ | refine Zc ?_ | refine Ze ?_ | refine Zi ?_ | refine Zj ?_ | refine Zf ?_ | refine Zg ?_ | refine Zm ?_ | refine Zn ?_ | refine Zo ?_ | refine Zp ?_ | refine Zq ?_ | refine Zr ?_ | refine Zk ?_)
  rename_i c3 c5
  refine RunT.weak ?_ (List.Sublist.cons_cons _ (List.Sublist.cons _ (List.Sublist.refl _)))
  have hsl : aslice (cx B0 old) 56 (.pointer (some ⟨c5, 0 + 2, none⟩)) none none none = some (.slice (some ⟨c5, 2, none⟩) 10 10) := by
    have := aslice_arr (C := cx B0 old) (t := 56) (b := c5) (o := 2) (m := 0) (q := 10) (k := 1) (lo := none) (hi := none) rfl (show sizeAt (cx B0 old) 5 = some 1 from sz rfl) (by decide) (Nat.zero_le _) (by decide) (.inr ⟨rfl, rfl⟩) (.inr ⟨rfl, rfl⟩)
    simpa using this
  refine rt_step rfl rfl rfl (st_call rfl rfl rfl rfl (w64b_ct (B := []) (Hs := []) x.a1 (by omega) (by omega) Own.nil (by (try simp only [List.length_append]); (try simp only [List.length_nil]); (try simp only [be_len]); (try simp only [esL_len]); omega) (by decide) fun v1 G1 o1 => ?_))
  repeat (first | refine Z0 ?_ | (refine ZR ?_; first | refine x1 ?_ | refine x2 ?_ | refine x8 ?_ | refine Z1 ?_ | refine Z2 ?_ | refine x3 fun _ => ?_ | refine x4 fun _ => ?_ | refine x5 fun _ => ?_ | refine Z3 fun _ => ?_ | refine Z4 fun _ => ?_) | refine Za ?_ | refine Zb ?_ | refine Zl ?_ | refine Zc ?_ | refine Ze ?_ | refine Zi ?_ | refine Zj ?_ | refine Zf ?_ | refine Zg ?_ | refine Zm ?_ | refine Zn ?_ | refine Zo ?_ | refine Zp ?_ | refine Zq ?_ | refine Zr ?_ | refine Zk ?_)
  rw [u64_id (show 0 ≤ x.a12 ∧ x.a12 < 18446744073709551616 by omega)]
  repeat (first | refine Z0 ?_ | (refine ZR ?_; first | refine x1 ?_ | refine x2 ?_ | refine x8 ?_ | refine Z1 ?_ | refine Z2 ?_ | refine x3 fun _ => ?_ | refine x4 fun _ => ?_ | refine x5 fun _ => ?_ | refine Z3 fun _ => ?_ | refine Z4 fun _ => ?_) | refine Za ?_ | refine Zb ?_ | refine Zl ?_ | refine Zc ?_ | refine Ze ?_ | refine Zi ?_ | refine Zj ?_ | refine Zf ?_ | refine Zg ?_ | refine Zm ?_ | refine Zn ?_ | refine Zo ?_ | refine Zp ?_ | refine Zq ?_ | refine Zr ?_ | refine Zk ?_)
  refine rt_step rfl rfl rfl (st_call rfl rfl rfl rfl (w32b_ct x.a12 (by omega) (by omega) o1 (by (try simp only [List.length_append]); (try simp only [List.length_nil]); (try simp only [be_len]); (try simp only [esL_len]); omega) (by decide) fun v2 G2 o2 => ?_))
  repeat (first | refine Z0 ?_ | (refine ZR ?_; first | refine x1 ?_ | refine x2 ?_ | refine x8 ?_ | refine Z1 ?_ | refine Z2 ?_ | refine x3 fun _ => ?_ | refine x4 fun _ => ?_ | refine x5 fun _ => ?_ | refine Z3 fun _ => ?_ | refine Z4 fun _ => ?_) | refine Za ?_ | refine Zb ?_ | refine Zl ?_ | refine Zc ?_ | refine Ze ?_ | refine Zi ?_ | refine Zj ?_ | refine Zf ?_ | refine Zg ?_ | refine Zm ?_ | refine Zn ?_ | refine Zo ?_ | refine Zp ?_ | refine Zq ?_ | refine Zr ?_ | refine Zk ?_)
  refine rt_step rfl rfl rfl (st_call rfl rfl rfl rfl (host180b_ct x.a14 (by omega) o2 (by (try simp only [List.length_append]); (try simp only [List.length_nil]); (try simp only [be_len]); (try simp only [esL_len]); omega) (by decide) fun _ v3 G3 o3 => ?_))
  repeat (first | refine Z0 ?_ | (refine ZR ?_; first | refine x1 ?_ | refine x2 ?_ | refine x8 ?_ | refine Z1 ?_ | refine Z2 ?_ | refine x3 fun _ => ?_ | refine x4 fun _ => ?_ | refine x5 fun _ => ?_ | refine Z3 fun _ => ?_ | refine Z4 fun _ => ?_) | refine Za ?_ | refine Zb ?_ | refine Zl ?_ | refine Zc ?_ | refine Ze ?_ | refine Zi ?_ | refine Zj ?_ | refine Zf ?_ | refine Zg ?_ | refine Zm ?_ | refine Zn ?_ | refine Zo ?_ | refine Zp ?_ | refine Zq ?_ | refine Zr ?_ | refine Zk ?_)
  simp only [List.nil_append, List.append_assoc] at o3
  exact re_0 rfl (by exact drop_auto) fun v => hQ v _ _ o3
theorem put184_ct (x : S60) (hw : x.wf) (ok : NlOk x) (hk : x.a0 = 4)
    (hQ : ∀ v bv' Hs', Own encY 1 (nlV x) bv' Hs' → Q v ((p, .row [bv', .int .i64 40, .map (some mb)] ez el) :: X :: (Hs' ++ H))) :
    CallT (cx B0 old) (acall (cx B0 old) ansP (n + 5)) 184 [.agg ⟨[]⟩, .pointer (some ⟨p, 0, none⟩), .agg ⟨en60 x⟩] ((p, .row [.slice none 0 0, .int .i64 40, .map (some mb)] ez el) :: X :: H) Q := by
  have hr := ok.rng
  unfold S60.wf at hw
  rw [nlV4 hk] at hQ
  refine call_in3 18 rfl Try.func184 rfl rfl ?_
  unfold en60
  repeat (first | refine Z0 ?_ | (refine ZR ?_; first | refine x1 ?_ | refine x2 ?_ | refine x8 ?_ | refine Z1 ?_ | refine Z2 ?_ | refine x3 fun _ => ?_ | refine x4 fun _ => ?_ | refine x5 fun _ => ?_ | refine Z3 fun _ => ?_ | refine Z4 fun _ => ?_) | refine Za ?_ | refine Zb ?_ | refine Zl ?_ | refine Zc ?_ | refine Ze ?_ | refine Zi ?_ | refine Zj ?_ | refine Zf ?_ | refine Zg ?_ | refine Zm ?_ | refine Zn ?_ | refine Zo ?_ | refine Zp ?_ | refine Zq ?_ | refine Zr ?_ | refine Zk ?_)
  rename_i c3 c5
  refine RunT.weak ?_ (List.Sublist.cons_cons _ (List.Sublist.cons _ (List.Sublist.refl _)))
  have hsl : aslice (cx B0 old) 56 (.pointer (some ⟨c5, 0 + 2, none⟩)) none none none = some (.slice (some ⟨c5, 2, none⟩) 10 10) := by
    have := aslice_arr (C := cx B0 old) (t := 56) (b := c5) (o := 2) (m := 0) (q := 10) (k := 1) (lo := none) (hi := none) rfl (show sizeAt (cx B0 old) 5 = some 1 from sz rfl) (by decide) (Nat.zero_le _) (by decide) (.inr ⟨rfl, rfl⟩) (.inr ⟨rfl, rfl⟩)
    simpa using this
  refine rt_step rfl rfl rfl (st_call rfl rfl rfl rfl (w64b_ct (B := []) (Hs := []) x.a1 (by omega) (by omega) Own.nil (by (try simp only [List.length_append]); (try simp only [List.length_nil]); (try simp only [be_len]); (try simp only [esL_len]); omega) (by decide) fun v1 G1 o1 => ?_))
  repeat (first | refine Z0 ?_ | (refine ZR ?_; first | refine x1 ?_ | refine x2 ?_ | refine x8 ?_ | refine Z1 ?_ | refine Z2 ?_ | refine x3 fun _ => ?_ | refine x4 fun _ => ?_ | refine x5 fun _ => ?_ | refine Z3 fun _ => ?_ | refine Z4 fun _ => ?_) | refine Za ?_ | refine Zb ?_ | refine Zl ?_ | refine Zc ?_ | refine Ze ?_ | refine Zi ?_ | refine Zj ?_ | refine Zf ?_ | refine Zg ?_ | refine Zm ?_ | refine Zn ?_ | refine Zo ?_ | refine Zp ?_ | refine Zq ?_ | refine Zr ?_ | refine Zk ?_)
  apply rt_p rfl rfl rfl
  case hp => exact p_slc rfl rfl rfl hsl
  repeat (first | refine Z0 ?_ | (refine ZR ?_; first | refine x1 ?_ | refine x2 ?_ | refine x8 ?_ | refine Z1 ?_ | refine Z2 ?_ | refine x3 fun _ => ?_ | refine x4 fun _ => ?_ | refine x5 fun _ => ?_ | refine Z3 fun _ => ?_ | refine Z4 fun _ => ?_) | refine Za ?_ | refine Zb ?_ | refine Zl ?_ | refine Zc ?_ | refine Ze ?_ | refine Zi ?_ | refine Zj ?_ | refine Zf ?_ | refine Zg ?_ | refine Zm ?_ | refine Zn ?_ | refine Zo ?_ | refine Zp ?_ | refine Zq ?_ | refine Zr ?_ | refine Zk ?_)
  refine rt_step rfl rfl rfl (st_call rfl rfl rfl rfl (wBb_ct (some ⟨c5, 2, none⟩) 10 (esL x) ⟨fun _ => ⟨c5, 2, _, rfl, .own _ _ hm0, rfl⟩⟩ o1 (by (try simp only [List.length_append]); (try simp only [List.length_nil]); (try simp only [be_len]); (try simp only [esL_len]); omega) (by decide) fun v2 G2 o2 => ?_))
  repeat (first | refine Z0 ?_ | (refine ZR ?_; first | refine x1 ?_ | refine x2 ?_ | refine x8 ?_ | refine Z1 ?_ | refine Z2 ?_ | refine x3 fun _ => ?_ | refine x4 fun _ => ?_ | refine x5 fun _ => ?_ | refine Z3 fun _ => ?_ | refine Z4 fun _ => ?_) | refine Za ?_ | refine Zb ?_ | refine Zl ?_ | refine Zc ?_ | refine Ze ?_ | refine Zi ?_ | refine Zj ?_ | refine Zf ?_ | refine Zg ?_ | refine Zm ?_ | refine Zn ?_ | refine Zo ?_ | refine Zp ?_ | refine Zq ?_ | refine Zr ?_ | refine Zk ?_)
  refine rt_step rfl rfl rfl (st_call rfl rfl rfl rfl (host180b_ct x.a14 (by omega) o2 (by (try simp only [List.length_append]); (try simp only [List.length_nil]); (try simp only [be_len]); (try simp only [esL_len]); omega) (by decide) fun _ v3 G3 o3 => ?_))
  repeat (first | refine Z0 ?_ | (refine ZR ?_; first | refine x1 ?_ | refine x2 ?_ | refine x8 ?_ | refine Z1 ?_ | refine Z2 ?_ | refine x3 fun _ => ?_ | refine x4 fun _ => ?_ | refine x5 fun _ => ?_ | refine Z3 fun _ => ?_ | refine Z4 fun _ => ?_) | refine Za ?_ | refine Zb ?_ | refine Zl ?_ | refine Zc ?_ | refine Ze ?_ | refine Zi ?_ | refine Zj ?_ | refine Zf ?_ | refine Zg ?_ | refine Zm ?_ | refine Zn ?_ | refine Zo ?_ | refine Zp ?_ | refine Zq ?_ | refine Zr ?_ | refine Zk ?_)
  simp only [List.nil_append, List.append_assoc] at o3
  exact re_0 rfl (by exact drop_auto) fun v => hQ v _ _ o3
theorem put186_ct (x : S60) (hw : x.wf) (ok : NlOk x) (hk : x.a0 = 5)
    (hQ : ∀ v bv' Hs', Own encY 1 (nlV x) bv' Hs' → Q v ((p, .row [bv', .int .i64 40, .map (some mb)] ez el) :: X :: (Hs' ++ H))) :
    CallT (cx B0 old) (acall (cx B0 old) ansP (n + 5)) 186 [.agg ⟨[]⟩, .pointer (some ⟨p, 0, none⟩), .agg ⟨en60 x⟩] ((p, .row [.slice none 0 0, .int .i64 40, .map (some mb)] ez el) :: X :: H) Q := by
  have hr := ok.rng
  unfold S60.wf at hw
  rw [nlV5 hk] at hQ
  refine call_in3 41 rfl Try.func186 rfl rfl ?_
  unfold en60
  repeat (first | refine Z0 ?_ | (refine ZR ?_; first | refine x1 ?_ | refine x2 ?_ | refine x8 ?_ | refine Z1 ?_ | refine Z2 ?_ | refine x3 fun _ => ?_ | refine x4 fun _ => ?_ | refine x5 fun _ => ?_ | refine Z3 fun _ => ?_ | refine Z4 fun _ => ?_) | refine Za ?_ | refine Zb ?_ | refine Zl ?_ | refine Zc ?_ | refine Ze ?_ | refine Zi ?_ | refine Zj ?_ | refine Zf ?_ | refine Zg ?_ | refine Zm ?_ | refine Zn ?_ | refine Zo ?_ | refine Zp ?_ | refine Zq ?_ | refine Zr ?_ | refine Zk ?_)
  rename_i c3 c5
  refine RunT.weak ?_ (List.Sublist.cons_cons _ (List.Sublist.cons _ (List.Sublist.refl _)))
  have hsl : aslice (cx B0 old) 56 (.pointer (some ⟨c5, 0 + 2, none⟩)) none none none = some (.slice (some ⟨c5, 2, none⟩) 10 10) := by
    have := aslice_arr (C := cx B0 old) (t := 56) (b := c5) (o := 2) (m := 0) (q := 10) (k := 1) (lo := none) (hi := none) rfl (show sizeAt (cx B0 old) 5 = some 1 from sz rfl) (by decide) (Nat.zero_le _) (by decide) (.inr ⟨rfl, rfl⟩) (.inr ⟨rfl, rfl⟩)
    simpa using this
  refine rt_step rfl rfl rfl (st_call rfl rfl rfl rfl (w64b_ct (B := []) (Hs := []) x.a1 (by omega) (by omega) Own.nil (by (try simp only [List.length_append]); (try simp only [List.length_nil]); (try simp only [be_len]); (try simp only [esL_len]); omega) (by decide) fun v1 G1 o1 => ?_))
  repeat (first | refine Z0 ?_ | (refine ZR ?_; first | refine x1 ?_ | refine x2 ?_ | refine x8 ?_ | refine Z1 ?_ | refine Z2 ?_ | refine x3 fun _ => ?_ | refine x4 fun _ => ?_ | refine x5 fun _ => ?_ | refine Z3 fun _ => ?_ | refine Z4 fun _ => ?_) | refine Za ?_ | refine Zb ?_ | refine Zl ?_ | refine Zc ?_ | refine Ze ?_ | refine Zi ?_ | refine Zj ?_ | refine Zf ?_ | refine Zg ?_ | refine Zm ?_ | refine Zn ?_ | refine Zo ?_ | refine Zp ?_ | refine Zq ?_ | refine Zr ?_ | refine Zk ?_)
  apply rt_p rfl rfl rfl
  case hp => exact p_slc rfl rfl rfl hsl
  repeat (first | refine Z0 ?_ | (refine ZR ?_; first | refine x1 ?_ | refine x2 ?_ | refine x8 ?_ | refine Z1 ?_ | refine Z2 ?_ | refine x3 fun _ => ?_ | refine x4 fun _ => ?_ | refine x5 fun _ => ?_ | refine Z3 fun _ => ?_ | refine Z4 fun _ => ?_) | refine Za ?_ | refine Zb ?_ | refine Zl ?_ | refine Zc ?_ | refine Ze ?_ | refine Zi ?_ | refine Zj ?_ | refine Zf ?_ | refine Zg ?_ | refine Zm ?_ | refine Zn ?_ | refine Zo ?_ | refine Zp ?_ | refine Zq ?_ | refine Zr ?_ | refine Zk ?_)
  refine rt_step rfl rfl rfl (st_call rfl rfl rfl rfl (wBb_ct (some ⟨c5, 2, none⟩) 10 (esL x) ⟨fun _ => ⟨c5, 2, _, rfl, .own _ _ hm0, rfl⟩⟩ o1 (by (try simp only [List.length_append]); (try simp only [List.length_nil]); (try simp only [be_len]); (try simp only [esL_len]); omega) (by decide) fun v2 G2 o2 => ?_))
  repeat (first | refine Z0 ?_ | (refine ZR ?_; first | refine x1 ?_ | refine x2 ?_ | refine x8 ?_ | refine Z1 ?_ | refine Z2 ?_ | refine x3 fun _ => ?_ | refine x4 fun _ => ?_ | refine x5 fun _ => ?_ | refine Z3 fun _ => ?_ | refine Z4 fun _ => ?_) | refine Za ?_ | refine Zb ?_ | refine Zl ?_ | refine Zc ?_ | refine Ze ?_ | refine Zi ?_ | refine Zj ?_ | refine Zf ?_ | refine Zg ?_ | refine Zm ?_ | refine Zn ?_ | refine Zo ?_ | refine Zp ?_ | refine Zq ?_ | refine Zr ?_ | refine Zk ?_)
  rw [u64_id (show 0 ≤ x.a12 ∧ x.a12 < 18446744073709551616 by omega)]
  repeat (first | refine Z0 ?_ | (refine ZR ?_; first | refine x1 ?_ | refine x2 ?_ | refine x8 ?_ | refine Z1 ?_ | refine Z2 ?_ | refine x3 fun _ => ?_ | refine x4 fun _ => ?_ | refine x5 fun _ => ?_ | refine Z3 fun _ => ?_ | refine Z4 fun _ => ?_) | refine Za ?_ | refine Zb ?_ | refine Zl ?_ | refine Zc ?_ | refine Ze ?_ | refine Zi ?_ | refine Zj ?_ | refine Zf ?_ | refine Zg ?_ | refine Zm ?_ | refine Zn ?_ | refine Zo ?_ | refine Zp ?_ | refine Zq ?_ | refine Zr ?_ | refine Zk ?_)
  refine rt_step rfl rfl rfl (st_call rfl rfl rfl rfl (w32b_ct x.a12 (by omega) (by omega) o2 (by (try simp only [List.length_append]); (try simp only [List.length_nil]); (try simp only [be_len]); (try simp only [esL_len]); omega) (by decide) fun v3 G3 o3 => ?_))
  repeat (first | refine Z0 ?_ | (refine ZR ?_; first | refine x1 ?_ | refine x2 ?_ | refine x8 ?_ | refine Z1 ?_ | refine Z2 ?_ | refine x3 fun _ => ?_ | refine x4 fun _ => ?_ | refine x5 fun _ => ?_ | refine Z3 fun _ => ?_ | refine Z4 fun _ => ?_) | refine Za ?_ | refine Zb ?_ | refine Zl ?_ | refine Zc ?_ | refine Ze ?_ | refine Zi ?_ | refine Zj ?_ | refine Zf ?_ | refine Zg ?_ | refine Zm ?_ | refine Zn ?_ | refine Zo ?_ | refine Zp ?_ | refine Zq ?_ | refine Zr ?_ | refine Zk ?_)
  rw [u64_id (show 0 ≤ x.a17 ∧ x.a17 < 18446744073709551616 by omega)]
  repeat (first | refine Z0 ?_ | (refine ZR ?_; first | refine x1 ?_ | refine x2 ?_ | refine x8 ?_ | refine Z1 ?_ | refine Z2 ?_ | refine x3 fun _ => ?_ | refine x4 fun _ => ?_ | refine x5 fun _ => ?_ | refine Z3 fun _ => ?_ | refine Z4 fun _ => ?_) | refine Za ?_ | refine Zb ?_ | refine Zl ?_ | refine Zc ?_ | refine Ze ?_ | refine Zi ?_ | refine Zj ?_ | refine Zf ?_ | refine Zg ?_ | refine Zm ?_ | refine Zn ?_ | refine Zo ?_ | refine Zp ?_ | refine Zq ?_ | refine Zr ?_ | refine Zk ?_)
  refine rt_step rfl rfl rfl (st_call rfl rfl rfl rfl (w8b_ct x.a17 (by omega) (by omega) o3 (by (try simp only [List.length_append]); (try simp only [List.length_nil]); (try simp only [be_len]); (try simp only [esL_len]); omega) (by decide) fun v4 G4 o4 => ?_))
  repeat (first | refine Z0 ?_ | (refine ZR ?_; first | refine x1 ?_ | refine x2 ?_ | refine x8 ?_ | refine Z1 ?_ | refine Z2 ?_ | refine x3 fun _ => ?_ | refine x4 fun _ => ?_ | refine x5 fun _ => ?_ | refine Z3 fun _ => ?_ | refine Z4 fun _ => ?_) | refine Za ?_ | refine Zb ?_ | refine Zl ?_ | refine Zc ?_ | refine Ze ?_ | refine Zi ?_ | refine Zj ?_ | refine Zf ?_ | refine Zg ?_ | refine Zm ?_ | refine Zn ?_ | refine Zo ?_ | refine Zp ?_ | refine Zq ?_ | refine Zr ?_ | refine Zk ?_)
  rw [u64_id (show 0 ≤ x.a16 ∧ x.a16 < 18446744073709551616 by omega)]
  repeat (first | refine Z0 ?_ | (refine ZR ?_; first | refine x1 ?_ | refine x2 ?_ | refine x8 ?_ | refine Z1 ?_ | refine Z2 ?_ | refine x3 fun _ => ?_ | refine x4 fun _ => ?_ | refine x5 fun _ => ?_ | refine Z3 fun _ => ?_ | refine Z4 fun _ => ?_) | refine Za ?_ | refine Zb ?_ | refine Zl ?_ | refine Zc ?_ | refine Ze ?_ | refine Zi ?_ | refine Zj ?_ | refine Zf ?_ | refine Zg ?_ | refine Zm ?_ | refine Zn ?_ | refine Zo ?_ | refine Zp ?_ | refine Zq ?_ | refine Zr ?_ | refine Zk ?_)
  refine rt_step rfl rfl rfl (st_call rfl rfl rfl rfl (w32b_ct x.a16 (by omega) (by omega) o4 (by (try simp only [List.length_append]); (try simp only [List.length_nil]); (try simp only [be_len]); (try simp only [esL_len]); omega) (by decide) fun v5 G5 o5 => ?_))
  repeat (first | refine Z0 ?_ | (refine ZR ?_; first | refine x1 ?_ | refine x2 ?_ | refine x8 ?_ | refine Z1 ?_ | refine Z2 ?_ | refine x3 fun _ => ?_ | refine x4 fun _ => ?_ | refine x5 fun _ => ?_ | refine Z3 fun _ => ?_ | refine Z4 fun _ => ?_) | refine Za ?_ | refine Zb ?_ | refine Zl ?_ | refine Zc ?_ | refine Ze ?_ | refine Zi ?_ | refine Zj ?_ | refine Zf ?_ | refine Zg ?_ | refine Zm ?_ | refine Zn ?_ | refine Zo ?_ | refine Zp ?_ | refine Zq ?_ | refine Zr ?_ | refine Zk ?_)
  rw [u64_id (show 0 ≤ x.a18 ∧ x.a18 < 18446744073709551616 by omega)]
  repeat (first | refine Z0 ?_ | (refine ZR ?_; first | refine x1 ?_ | refine x2 ?_ | refine x8 ?_ | refine Z1 ?_ | refine Z2 ?_ | refine x3 fun _ => ?_ | refine x4 fun _ => ?_ | refine x5 fun _ => ?_ | refine Z3 fun _ => ?_ | refine Z4 fun _ => ?_) | refine Za ?_ | refine Zb ?_ | refine Zl ?_ | refine Zc ?_ | refine Ze ?_ | refine Zi ?_ | refine Zj ?_ | refine Zf ?_ | refine Zg ?_ | refine Zm ?_ | refine Zn ?_ | refine Zo ?_ | refine Zp ?_ | refine Zq ?_ | refine Zr ?_ | refine Zk ?_)
  refine rt_step rfl rfl rfl (st_call rfl rfl rfl rfl (w32b_ct x.a18 (by omega) (by omega) o5 (by (try simp only [List.length_append]); (try simp only [List.length_nil]); (try simp only [be_len]); (try simp only [esL_len]); omega) (by decide) fun v6 G6 o6 => ?_))
  repeat (first | refine Z0 ?_ | (refine ZR ?_; first | refine x1 ?_ | refine x2 ?_ | refine x8 ?_ | refine Z1 ?_ | refine Z2 ?_ | refine x3 fun _ => ?_ | refine x4 fun _ => ?_ | refine x5 fun _ => ?_ | refine Z3 fun _ => ?_ | refine Z4 fun _ => ?_) | refine Za ?_ | refine Zb ?_ | refine Zl ?_ | refine Zc ?_ | refine Ze ?_ | refine Zi ?_ | refine Zj ?_ | refine Zf ?_ | refine Zg ?_ | refine Zm ?_ | refine Zn ?_ | refine Zo ?_ | refine Zp ?_ | refine Zq ?_ | refine Zr ?_ | refine Zk ?_)
  rw [u64_id (show 0 ≤ x.a19 ∧ x.a19 < 18446744073709551616 by omega)]
  repeat (first | refine Z0 ?_ | (refine ZR ?_; first | refine x1 ?_ | refine x2 ?_ | refine x8 ?_ | refine Z1 ?_ | refine Z2 ?_ | refine x3 fun _ => ?_ | refine x4 fun _ => ?_ | refine x5 fun _ => ?_ | refine Z3 fun _ => ?_ | refine Z4 fun _ => ?_) | refine Za ?_ | refine Zb ?_ | refine Zl ?_ | refine Zc ?_ | refine Ze ?_ | refine Zi ?_ | refine Zj ?_ | refine Zf ?_ | refine Zg ?_ | refine Zm ?_ | refine Zn ?_ | refine Zo ?_ | refine Zp ?_ | refine Zq ?_ | refine Zr ?_ | refine Zk ?_)
  refine rt_step rfl rfl rfl (st_call rfl rfl rfl rfl (w24b_ct x.a19 (by omega) (by omega) o6 (by (try simp only [List.length_append]); (try simp only [List.length_nil]); (try simp only [be_len]); (try simp only [esL_len]); omega) (by decide) fun v7 G7 o7 => ?_))
  repeat (first | refine Z0 ?_ | (refine ZR ?_; first | refine x1 ?_ | refine x2 ?_ | refine x8 ?_ | refine Z1 ?_ | refine Z2 ?_ | refine x3 fun _ => ?_ | refine x4 fun _ => ?_ | refine x5 fun _ => ?_ | refine Z3 fun _ => ?_ | refine Z4 fun _ => ?_) | refine Za ?_ | refine Zb ?_ | refine Zl ?_ | refine Zc ?_ | refine Ze ?_ | refine Zi ?_ | refine Zj ?_ | refine Zf ?_ | refine Zg ?_ | refine Zm ?_ | refine Zn ?_ | refine Zo ?_ | refine Zp ?_ | refine Zq ?_ | refine Zr ?_ | refine Zk ?_)
  simp only [List.nil_append, List.append_assoc] at o7
  exact re_0 rfl (by exact drop_auto) fun v => hQ v _ _ o7
theorem put175_ct (x : S60) (hw : x.wf) (ok : NlOk x) (hk : x.a0 = 2)
    (hQ : ∀ v bv' Hs', Own encY 1 (nlV x) bv' Hs' → Q v ((p, .row [bv', .int .i64 40, .map (some mb)] ez el) :: X :: (Hs' ++ H))) :
    CallT (cx B0 old) (acall (cx B0 old) ansP (n + 5)) 175 [.agg ⟨[]⟩, .pointer (some ⟨p, 0, none⟩), .agg ⟨en60 x⟩] ((p, .row [.slice none 0 0, .int .i64 40, .map (some mb)] ez el) :: X :: H) Q := by
  have hr := ok.rng
  unfold S60.wf at hw
  rw [nlV2 hk] at hQ
  refine call_in3 46 rfl Try.func175 rfl rfl ?_
  unfold en60
  repeat (first | refine Z0 ?_ | (refine ZR ?_; first | refine x1 ?_ | refine x2 ?_ | refine x8 ?_ | refine Z1 ?_ | refine Z2 ?_ | refine x3 fun _ => ?_ | refine x4 fun _ => ?_ | refine x5 fun _ => ?_ | refine Z3 fun _ => ?_ | refine Z4 fun _ => ?_) | refine Za ?_ | refine Zb ?_ | refine Zl ?_ | refine Zc ?_ | refine Ze ?_ | refine Zi ?_ | refine Zj ?_ | refine Zf ?_ | refine Zg ?_ | refine Zm ?_ | refine Zn ?_ | refine Zo ?_ | refine Zp ?_ | refine Zq ?_ | refine Zr ?_ | refine Zk ?_)
  rename_i c3 c5
  refine RunT.weak ?_ (List.Sublist.cons_cons _ (List.Sublist.cons _ (List.Sublist.refl _)))
  have hsl : aslice (cx B0 old) 56 (.pointer (some ⟨c5, 0 + 2, none⟩)) none none none = some (.slice (some ⟨c5, 2, none⟩) 10 10) := by
    have := aslice_arr (C := cx B0 old) (t := 56) (b := c5) (o := 2) (m := 0) (q := 10) (k := 1) (lo := none) (hi := none) rfl (show sizeAt (cx B0 old) 5 = some 1 from sz rfl) (by decide) (Nat.zero_le _) (by decide) (.inr ⟨rfl, rfl⟩) (.inr ⟨rfl, rfl⟩)
    simpa using this
  refine rt_step rfl rfl rfl (st_call rfl rfl rfl rfl (w64b_ct (B := []) (Hs := []) x.a1 (by omega) (by omega) Own.nil (by (try simp only [List.length_append]); (try simp only [List.length_nil]); (try simp only [be_len]); (try simp only [esL_len]); omega) (by decide) fun v1 G1 o1 => ?_))
  repeat (first | refine Z0 ?_ | (refine ZR ?_; first | refine x1 ?_ | refine x2 ?_ | refine x8 ?_ | refine Z1 ?_ | refine Z2 ?_ | refine x3 fun _ => ?_ | refine x4 fun _ => ?_ | refine x5 fun _ => ?_ | refine Z3 fun _ => ?_ | refine Z4 fun _ => ?_) | refine Za ?_ | refine Zb ?_ | refine Zl ?_ | refine Zc ?_ | refine Ze ?_ | refine Zi ?_ | refine Zj ?_ | refine Zf ?_ | refine Zg ?_ | refine Zm ?_ | refine Zn ?_ | refine Zo ?_ | refine Zp ?_ | refine Zq ?_ | refine Zr ?_ | refine Zk ?_)
  apply rt_p rfl rfl rfl
  case hp => exact p_slc rfl rfl rfl hsl
  repeat (first | refine Z0 ?_ | (refine ZR ?_; first | refine x1 ?_ | refine x2 ?_ | refine x8 ?_ | refine Z1 ?_ | refine Z2 ?_ | refine x3 fun _ => ?_ | refine x4 fun _ => ?_ | refine x5 fun _ => ?_ | refine Z3 fun _ => ?_ | refine Z4 fun _ => ?_) | refine Za ?_ | refine Zb ?_ | refine Zl ?_ | refine Zc ?_ | refine Ze ?_ | refine Zi ?_ | refine Zj ?_ | refine Zf ?_ | refine Zg ?_ | refine Zm ?_ | refine Zn ?_ | refine Zo ?_ | refine Zp ?_ | refine Zq ?_ | refine Zr ?_ | refine Zk ?_)
  refine rt_step rfl rfl rfl (st_call rfl rfl rfl rfl (wBb_ct (some ⟨c5, 2, none⟩) 10 (esL x) ⟨fun _ => ⟨c5, 2, _, rfl, .own _ _ hm0, rfl⟩⟩ o1 (by (try simp only [List.length_append]); (try simp only [List.length_nil]); (try simp only [be_len]); (try simp only [esL_len]); omega) (by decide) fun v2 G2 o2 => ?_))
  repeat (first | refine Z0 ?_ | (refine ZR ?_; first | refine x1 ?_ | refine x2 ?_ | refine x8 ?_ | refine Z1 ?_ | refine Z2 ?_ | refine x3 fun _ => ?_ | refine x4 fun _ => ?_ | refine x5 fun _ => ?_ | refine Z3 fun _ => ?_ | refine Z4 fun _ => ?_) | refine Za ?_ | refine Zb ?_ | refine Zl ?_ | refine Zc ?_ | refine Ze ?_ | refine Zi ?_ | refine Zj ?_ | refine Zf ?_ | refine Zg ?_ | refine Zm ?_ | refine Zn ?_ | refine Zo ?_ | refine Zp ?_ | refine Zq ?_ | refine Zr ?_ | refine Zk ?_)
  rw [u64_id (show 0 ≤ x.a12 ∧ x.a12 < 18446744073709551616 by omega)]
  repeat (first | refine Z0 ?_ | (refine ZR ?_; first | refine x1 ?_ | refine x2 ?_ | refine x8 ?_ | refine Z1 ?_ | refine Z2 ?_ | refine x3 fun _ => ?_ | refine x4 fun _ => ?_ | refine x5 fun _ => ?_ | refine Z3 fun _ => ?_ | refine Z4 fun _ => ?_) | refine Za ?_ | refine Zb ?_ | refine Zl ?_ | refine Zc ?_ | refine Ze ?_ | refine Zi ?_ | refine Zj ?_ | refine Zf ?_ | refine Zg ?_ | refine Zm ?_ | refine Zn ?_ | refine Zo ?_ | refine Zp ?_ | refine Zq ?_ | refine Zr ?_ | refine Zk ?_)
  refine rt_step rfl rfl rfl (st_call rfl rfl rfl rfl (w32b_ct x.a12 (by omega) (by omega) o2 (by (try simp only [List.length_append]); (try simp only [List.length_nil]); (try simp only [be_len]); (try simp only [esL_len]); omega) (by decide) fun v3 G3 o3 => ?_))
  repeat (first | refine Z0 ?_ | (refine ZR ?_; first | refine x1 ?_ | refine x2 ?_ | refine x8 ?_ | refine Z1 ?_ | refine Z2 ?_ | refine x3 fun _ => ?_ | refine x4 fun _ => ?_ | refine x5 fun _ => ?_ | refine Z3 fun _ => ?_ | refine Z4 fun _ => ?_) | refine Za ?_ | refine Zb ?_ | refine Zl ?_ | refine Zc ?_ | refine Ze ?_ | refine Zi ?_ | refine Zj ?_ | refine Zf ?_ | refine Zg ?_ | refine Zm ?_ | refine Zn ?_ | refine Zo ?_ | refine Zp ?_ | refine Zq ?_ | refine Zr ?_ | refine Zk ?_)
  refine rt_step rfl rfl rfl (st_call rfl rfl rfl rfl (w8b_ct 48 (by decide) (by decide) o3 (by (try simp only [List.length_append]); (try simp only [List.length_nil]); (try simp only [be_len]); (try simp only [esL_len]); omega) (by decide) fun v4 G4 o4 => ?_))
  repeat (first | refine Z0 ?_ | (refine ZR ?_; first | refine x1 ?_ | refine x2 ?_ | refine x8 ?_ | refine Z1 ?_ | refine Z2 ?_ | refine x3 fun _ => ?_ | refine x4 fun _ => ?_ | refine x5 fun _ => ?_ | refine Z3 fun _ => ?_ | refine Z4 fun _ => ?_) | refine Za ?_ | refine Zb ?_ | refine Zl ?_ | refine Zc ?_ | refine Ze ?_ | refine Zi ?_ | refine Zj ?_ | refine Zf ?_ | refine Zg ?_ | refine Zm ?_ | refine Zn ?_ | refine Zo ?_ | refine Zp ?_ | refine Zq ?_ | refine Zr ?_ | refine Zk ?_)
  refine rt_step rfl rfl rfl (st_call rfl rfl rfl rfl (w48b_ct x.a13 (by omega) (by omega) o4 (by (try simp only [List.length_append]); (try simp only [List.length_nil]); (try simp only [be_len]); (try simp only [esL_len]); omega) (by decide) fun v5 G5 o5 => ?_))
  repeat (first | refine Z0 ?_ | (refine ZR ?_; first | refine x1 ?_ | refine x2 ?_ | refine x8 ?_ | refine Z1 ?_ | refine Z2 ?_ | refine x3 fun _ => ?_ | refine x4 fun _ => ?_ | refine x5 fun _ => ?_ | refine Z3 fun _ => ?_ | refine Z4 fun _ => ?_) | refine Za ?_ | refine Zb ?_ | refine Zl ?_ | refine Zc ?_ | refine Ze ?_ | refine Zi ?_ | refine Zj ?_ | refine Zf ?_ | refine Zg ?_ | refine Zm ?_ | refine Zn ?_ | refine Zo ?_ | refine Zp ?_ | refine Zq ?_ | refine Zr ?_ | refine Zk ?_)
  refine ct_midE (ι := Value × Hp) (fun i => Own encY 1 (([] ++ be x.a1.toNat 8 ++ esL x ++ be x.a12.toNat 4 ++ be 48 1 ++ be x.a13.toNat 6) ++ (if x.a15 then be 32 1 ++ be x.a14.toNat 4 else be 0 1)) i.1 i.2) (fun _ => [(1, .pointer (some ⟨p, 0, none⟩)), (5, .pointer (some ⟨c5, 0, none⟩))]) (fun i => (c5, .row [.int .i64 x.a0, .int .u64 x.a1, .int .u8 x.a2, .int .u8 x.a3, .int .u8 x.a4, .int .u8 x.a5, .int .u8 x.a6, .int .u8 x.a7, .int .u8 x.a8, .int .u8 x.a9, .int .u8 x.a10, .int .u8 x.a11, .int .u32 x.a12, .int .u64 x.a13, .int .u32 x.a14, .bool x.a15, .int .u32 x.a16, .int .i64 x.a17, .int .u32 x.a18, .int .u32 x.a19, .int .u32 x.a20] 21 false) :: (p, .row [i.1, .int .i64 40, .map (some mb)] ez el) :: X :: (i.2 ++ H)) ?_ ?_
  · refine ct_condT te_b rfl (fun hb => ?_) (fun hb => ?_)
    · repeat (first | refine Z0 ?_ | (refine ZR ?_; first | refine x1 ?_ | refine x2 ?_ | refine x8 ?_ | refine Z1 ?_ | refine Z2 ?_ | refine x3 fun _ => ?_ | refine x4 fun _ => ?_ | refine x5 fun _ => ?_ | refine Z3 fun _ => ?_ | refine Z4 fun _ => ?_) | refine Za ?_ | refine Zb ?_ | refine Zl ?_ | refine Zc ?_ | refine Ze ?_ | refine Zi ?_ | refine Zj ?_ | refine Zf ?_ | refine Zg ?_ | refine Zm ?_ | refine Zn ?_ | refine Zo ?_ | refine Zp ?_ | refine Zq ?_ | refine Zr ?_ | refine Zk ?_)
      refine rt_step rfl rfl rfl (st_call rfl rfl rfl rfl (host180b_ct x.a14 (by omega) o5 (by (try simp only [List.length_append]); (try simp only [List.length_nil]); (try simp only [be_len]); (try simp only [esL_len]); omega) (by decide) fun _ v6 G6 o6 => ?_))
      repeat (first | refine Z0 ?_ | (refine ZR ?_; first | refine x1 ?_ | refine x2 ?_ | refine x8 ?_ | refine Z1 ?_ | refine Z2 ?_ | refine x3 fun _ => ?_ | refine x4 fun _ => ?_ | refine x5 fun _ => ?_ | refine Z3 fun _ => ?_ | refine Z4 fun _ => ?_) | refine Za ?_ | refine Zb ?_ | refine Zl ?_ | refine Zc ?_ | refine Ze ?_ | refine Zi ?_ | refine Zj ?_ | refine Zf ?_ | refine Zg ?_ | refine Zm ?_ | refine Zn ?_ | refine Zo ?_ | refine Zp ?_ | refine Zq ?_ | refine Zr ?_ | refine Zk ?_)
      exact ⟨(v6, G6), by dsimp only; rw [hb]; exact o6, by repeat (first | exact SubL.nil | refine SubL.cons rfl ?_), by exact drop_auto⟩
    · repeat (first | refine Z0 ?_ | (refine ZR ?_; first | refine x1 ?_ | refine x2 ?_ | refine x8 ?_ | refine Z1 ?_ | refine Z2 ?_ | refine x3 fun _ => ?_ | refine x4 fun _ => ?_ | refine x5 fun _ => ?_ | refine Z3 fun _ => ?_ | refine Z4 fun _ => ?_) | refine Za ?_ | refine Zb ?_ | refine Zl ?_ | refine Zc ?_ | refine Ze ?_ | refine Zi ?_ | refine Zj ?_ | refine Zf ?_ | refine Zg ?_ | refine Zm ?_ | refine Zn ?_ | refine Zo ?_ | refine Zp ?_ | refine Zq ?_ | refine Zr ?_ | refine Zk ?_)
      refine rt_step rfl rfl rfl (st_call rfl rfl rfl rfl (w8b_ct 0 (by decide) (by decide) o5 (by (try simp only [List.length_append]); (try simp only [List.length_nil]); (try simp only [be_len]); (try simp only [esL_len]); omega) (by decide) fun v6 G6 o6 => ?_))
      repeat (first | refine Z0 ?_ | (refine ZR ?_; first | refine x1 ?_ | refine x2 ?_ | refine x8 ?_ | refine Z1 ?_ | refine Z2 ?_ | refine x3 fun _ => ?_ | refine x4 fun _ => ?_ | refine x5 fun _ => ?_ | refine Z3 fun _ => ?_ | refine Z4 fun _ => ?_) | refine Za ?_ | refine Zb ?_ | refine Zl ?_ | refine Zc ?_ | refine Ze ?_ | refine Zi ?_ | refine Zj ?_ | refine Zf ?_ | refine Zg ?_ | refine Zm ?_ | refine Zn ?_ | refine Zo ?_ | refine Zp ?_ | refine Zq ?_ | refine Zr ?_ | refine Zk ?_)
      exact ⟨(v6, G6), by dsimp only; rw [hb]; exact o6, by repeat (first | exact SubL.nil | refine SubL.cons rfl ?_), by exact drop_auto⟩
  rintro ⟨v6, G6⟩ o6
  dsimp only at o6 ⊢
  have hlen6 : ((if x.a15 then be 32 1 ++ be x.a14.toNat 4 else be 0 1 : List Int)).length ≤ 5 := by split <;> simp [be_len]
  generalize (if x.a15 then be 32 1 ++ be x.a14.toNat 4 else be 0 1 : List Int) = ipl at *
  repeat (first | refine Z0 ?_ | (refine ZR ?_; first | refine x1 ?_ | refine x2 ?_ | refine x8 ?_ | refine Z1 ?_ | refine Z2 ?_ | refine x3 fun _ => ?_ | refine x4 fun _ => ?_ | refine x5 fun _ => ?_ | refine Z3 fun _ => ?_ | refine Z4 fun _ => ?_) | refine Za ?_ | refine Zb ?_ | refine Zl ?_ | refine Zc ?_ | refine Ze ?_ | refine Zi ?_ | refine Zj ?_ | refine Zf ?_ | refine Zg ?_ | refine Zm ?_ | refine Zn ?_ | refine Zo ?_ | refine Zp ?_ | refine Zq ?_ | refine Zr ?_ | refine Zk ?_)
  rw [u64_id (show 0 ≤ x.a19 ∧ x.a19 < 18446744073709551616 by omega)]
  repeat (first | refine Z0 ?_ | (refine ZR ?_; first | refine x1 ?_ | refine x2 ?_ | refine x8 ?_ | refine Z1 ?_ | refine Z2 ?_ | refine x3 fun _ => ?_ | refine x4 fun _ => ?_ | refine x5 fun _ => ?_ | refine Z3 fun _ => ?_ | refine Z4 fun _ => ?_) | refine Za ?_ | refine Zb ?_ | refine Zl ?_ | refine Zc ?_ | refine Ze ?_ | refine Zi ?_ | refine Zj ?_ | refine Zf ?_ | refine Zg ?_ | refine Zm ?_ | refine Zn ?_ | refine Zo ?_ | refine Zp ?_ | refine Zq ?_ | refine Zr ?_ | refine Zk ?_)
  refine rt_step rfl rfl rfl (st_call rfl rfl rfl rfl (w24b_ct x.a19 (by omega) (by omega) o6 (by (try simp only [List.length_append]); (try simp only [List.length_nil]); (try simp only [be_len]); (try simp only [esL_len]); omega) (by decide) fun v7 G7 o7 => ?_))
  repeat (first | refine Z0 ?_ | (refine ZR ?_; first | refine x1 ?_ | refine x2 ?_ | refine x8 ?_ | refine Z1 ?_ | refine Z2 ?_ | refine x3 fun _ => ?_ | refine x4 fun _ => ?_ | refine x5 fun _ => ?_ | refine Z3 fun _ => ?_ | refine Z4 fun _ => ?_) | refine Za ?_ | refine Zb ?_ | refine Zl ?_ | refine Zc ?_ | refine Ze ?_ | refine Zi ?_ | refine Zj ?_ | refine Zf ?_ | refine Zg ?_ | refine Zm ?_ | refine Zn ?_ | refine Zo ?_ | refine Zp ?_ | refine Zq ?_ | refine Zr ?_ | refine Zk ?_)
  refine ct_condT te_ne rfl (fun hd => ?_) (fun hd => ?_)
  · rw [if_pos hd] at hQ
    repeat (first | refine Z0 ?_ | (refine ZR ?_; first | refine x1 ?_ | refine x2 ?_ | refine x8 ?_ | refine Z1 ?_ | refine Z2 ?_ | refine x3 fun _ => ?_ | refine x4 fun _ => ?_ | refine x5 fun _ => ?_ | refine Z3 fun _ => ?_ | refine Z4 fun _ => ?_) | refine Za ?_ | refine Zb ?_ | refine Zl ?_ | refine Zc ?_ | refine Ze ?_ | refine Zi ?_ | refine Zj ?_ | refine Zf ?_ | refine Zg ?_ | refine Zm ?_ | refine Zn ?_ | refine Zo ?_ | refine Zp ?_ | refine Zq ?_ | refine Zr ?_ | refine Zk ?_)
    rw [u64_id (show 0 ≤ x.a20 ∧ x.a20 < 18446744073709551616 by omega)]
    repeat (first | refine Z0 ?_ | (refine ZR ?_; first | refine x1 ?_ | refine x2 ?_ | refine x8 ?_ | refine Z1 ?_ | refine Z2 ?_ | refine x3 fun _ => ?_ | refine x4 fun _ => ?_ | refine x5 fun _ => ?_ | refine Z3 fun _ => ?_ | refine Z4 fun _ => ?_) | refine Za ?_ | refine Zb ?_ | refine Zl ?_ | refine Zc ?_ | refine Ze ?_ | refine Zi ?_ | refine Zj ?_ | refine Zf ?_ | refine Zg ?_ | refine Zm ?_ | refine Zn ?_ | refine Zo ?_ | refine Zp ?_ | refine Zq ?_ | refine Zr ?_ | refine Zk ?_)
    refine rt_step rfl rfl rfl (st_call rfl rfl rfl rfl (w24b_ct x.a20 (by omega) (by omega) o7 (by (try simp only [List.length_append]); (try simp only [List.length_nil]); (try simp only [be_len]); (try simp only [esL_len]); omega) (by decide) fun v8 G8 o8 => ?_))
    repeat (first | refine Z0 ?_ | (refine ZR ?_; first | refine x1 ?_ | refine x2 ?_ | refine x8 ?_ | refine Z1 ?_ | refine Z2 ?_ | refine x3 fun _ => ?_ | refine x4 fun _ => ?_ | refine x5 fun _ => ?_ | refine Z3 fun _ => ?_ | refine Z4 fun _ => ?_) | refine Za ?_ | refine Zb ?_ | refine Zl ?_ | refine Zc ?_ | refine Ze ?_ | refine Zi ?_ | refine Zj ?_ | refine Zf ?_ | refine Zg ?_ | refine Zm ?_ | refine Zn ?_ | refine Zo ?_ | refine Zp ?_ | refine Zq ?_ | refine Zr ?_ | refine Zk ?_)
    simp only [List.nil_append, List.append_assoc] at o8
    exact re_0 rfl (by exact drop_auto) fun v => hQ v _ _ o8
  · rw [if_neg (fun g => g hd), List.append_nil] at hQ
    repeat (first | refine Z0 ?_ | (refine ZR ?_; first | refine x1 ?_ | refine x2 ?_ | refine x8 ?_ | refine Z1 ?_ | refine Z2 ?_ | refine x3 fun _ => ?_ | refine x4 fun _ => ?_ | refine x5 fun _ => ?_ | refine Z3 fun _ => ?_ | refine Z4 fun _ => ?_) | refine Za ?_ | refine Zb ?_ | refine Zl ?_ | refine Zc ?_ | refine Ze ?_ | refine Zi ?_ | refine Zj ?_ | refine Zf ?_ | refine Zg ?_ | refine Zm ?_ | refine Zn ?_ | refine Zo ?_ | refine Zp ?_ | refine Zq ?_ | refine Zr ?_ | refine Zk ?_)
    simp only [List.nil_append, List.append_assoc] at o7
    exact re_0 rfl (by exact drop_auto) fun v => hQ v _ _ o7
end
end Go.Proofs.Ytjdppdoakbojcaa.Abs

/- Contracts: routes are checked and encoded by the program. -/
namespace Go.Proofs.Ytjdppdoakbojcaa.Abs
open Go
set_option linter.unusedVariables false
theorem m150 (B0 : Nat) (old : Nat → Option (List Value)) : methV (cx B0 old) 150 "leafmesh/nlri.put" = some 161 := by kernel_rfl
theorem m151 (B0 : Nat) (old : Nat → Option (List Value)) : methV (cx B0 old) 151 "leafmesh/nlri.put" = some 175 := by kernel_rfl
theorem m152 (B0 : Nat) (old : Nat → Option (List Value)) : methV (cx B0 old) 152 "leafmesh/nlri.put" = some 182 := by kernel_rfl
theorem m153 (B0 : Nat) (old : Nat → Option (List Value)) : methV (cx B0 old) 153 "leafmesh/nlri.put" = some 184 := by kernel_rfl
theorem m154 (B0 : Nat) (old : Nat → Option (List Value)) : methV (cx B0 old) 154 "leafmesh/nlri.put" = some 186 := by kernel_rfl
theorem ck_ip {x : S60} (h : 1 ≤ x.a0 ∧ x.a0 ≤ 5) (h2 : ¬ okIP x) : nlForm x = false := by
  cases e : nlForm x with
  | false => rfl
  | true => exact absurd ((form_iff h).1 e).2 h2
theorem ck_for {x : S60} (h : 1 ≤ x.a0 ∧ x.a0 ≤ 5) (h2 : nlFor x = false) : nlForm x = false := by
  cases e : nlForm x with
  | false => rfl
  | true => rw [((form_iff h).1 e).1] at h2; cases h2
theorem nlB_nz (x : S60) : nlB x ≠ [] := fun h => by cases h
theorem nlB_z {x : S60} (hw : x.wf) (ok : NlOk x) : ∀ y ∈ nlB x, isY y := by
  have hk := ok.kind
  have hl := nlV_len x
  have hV : ∀ y ∈ nlV x, isY y := by
    have e := wf60_z hw
    unfold nlV
    split
    · exact app_Y (be_Y _ _) (app_Y e (app_Y (be_Y _ _) (be_Y _ _)))
    split
    · refine app_Y (be_Y _ _) (app_Y e (app_Y (be_Y _ _) (app_Y (be_Y _ _) (app_Y (be_Y _ _) (app_Y ?_ (app_Y (be_Y _ _) ?_))))))
      · split
        · exact app_Y (be_Y _ _) (be_Y _ _)
        · exact be_Y _ _
      · split
        · exact be_Y _ _
        · intro y h; cases h
    split
    · exact app_Y (be_Y _ _) (app_Y (be_Y _ _) (app_Y (be_Y _ _) (be_Y _ _)))
    split
    · exact app_Y (be_Y _ _) (app_Y e (app_Y (be_Y _ _) (be_Y _ _)))
    · exact app_Y (be_Y _ _) (app_Y e (app_Y (be_Y _ _) (app_Y (be_Y _ _) (app_Y (be_Y _ _) (app_Y (be_Y _ _) (be_Y _ _))))))
  intro y hy
  unfold nlB at hy
  unfold isY
  rcases List.mem_cons.1 hy with rfl | hy
  · omega
  rcases List.mem_cons.1 hy with rfl | hy
  · omega
  · exact hV y hy
section
variable {B0 : Nat} {old : Nat → Option (List Value)} {n : Nat} {H Hs : Hp} {Q : Value → Hp → Prop}
set_option maxRecDepth 10000
set_option maxHeartbeats 8000000
theorem enc80_ct (x : S60) (hw : x.wf) (ok : NlOk x) (t g : Nat) (hm : methV (cx B0 old) t "leafmesh/nlri.put" = some g) (hc : callable (cx B0 old) g = true)
    (hput : ∀ {p mb ez : Nat} {el : Bool} {X : Nat × AObj} {H1 : Hp} {Θ : Value → Hp → Prop}, (∀ v bv' Hs', Own encY 1 (nlV x) bv' Hs' → Θ v ((p, .row [bv', .int .i64 40, .map (some mb)] ez el) :: X :: (Hs' ++ H1))) →
      CallT (cx B0 old) (acall (cx B0 old) ansP (n + 5)) g [.agg ⟨[]⟩, .pointer (some ⟨p, 0, none⟩), .agg ⟨en60 x⟩] ((p, .row [.slice none 0 0, .int .i64 40, .map (some mb)] ez el) :: X :: H1) Θ)
    (hQ : ∀ v G, Own encY 1 (nlB x) v G → Q v (G ++ H)) : CallT (cx B0 old) (acall (cx B0 old) ansP (n + 6)) 80 [.agg ⟨en60 x⟩, .iface t (.agg ⟨[]⟩)] H Q := by
  have hl := nlV_len x
  have hk := ok.kind
  refine call_in2 27 rfl Try.func80 rfl rfl ?_
  unfold nlB at hQ
  generalize nlV x = V at *
  unfold en60 at hput ⊢
  repeat (first | refine Z0 ?_ | (refine ZR ?_; first | refine x1 ?_ | refine x2 ?_ | refine x8 ?_ | refine Z1 ?_ | refine Z2 ?_ | refine x3 fun _ => ?_ | refine x4 fun _ => ?_ | refine x5 fun _ => ?_ | refine Z3 fun _ => ?_ | refine Z4 fun _ => ?_) | refine Za ?_ | refine Zb ?_ | refine Zl ?_ | refine Zc ?_ | refine Ze ?_ | refine Zi ?_ | refine Zj ?_ | refine Zf ?_ | refine Zg ?_ | refine Zm ?_ | refine Zn ?_ | refine Zo ?_ | refine Zp ?_ | refine Zq ?_ | refine Zr ?_ | refine Zk ?_)
  rename_i c2
  refine rt_step rfl rfl rfl (st_call rfl rfl rfl rfl (newWriter114_ct (by decide) (by decide) fun p mb => ?_))
  repeat (first | refine Z0 ?_ | (refine ZR ?_; first | refine x1 ?_ | refine x2 ?_ | refine x8 ?_ | refine Z1 ?_ | refine Z2 ?_ | refine x3 fun _ => ?_ | refine x4 fun _ => ?_ | refine x5 fun _ => ?_ | refine Z3 fun _ => ?_ | refine Z4 fun _ => ?_) | refine Za ?_ | refine Zb ?_ | refine Zl ?_ | refine Zc ?_ | refine Ze ?_ | refine Zi ?_ | refine Zj ?_ | refine Zf ?_ | refine Zg ?_ | refine Zm ?_ | refine Zn ?_ | refine Zo ?_ | refine Zp ?_ | refine Zq ?_ | refine Zr ?_ | refine Zk ?_)
  refine rt_step rfl rfl rfl (st_invoke rfl rfl (fun s _ => meth_is hm _ s) hc rfl (hput fun _ v1 G1 o1 => ?_))
  obtain ⟨a1, c1, e1, g1⟩ := o1.arrW (C := cx B0 old) encY_len
  subst e1
  repeat (first | refine Z0 ?_ | (refine ZR ?_; first | refine x1 ?_ | refine x2 ?_ | refine x8 ?_ | refine Z1 ?_ | refine Z2 ?_ | refine x3 fun _ => ?_ | refine x4 fun _ => ?_ | refine x5 fun _ => ?_ | refine Z3 fun _ => ?_ | refine Z4 fun _ => ?_) | refine Za ?_ | refine Zb ?_ | refine Zl ?_ | refine Zc ?_ | refine Ze ?_ | refine Zi ?_ | refine Zj ?_ | refine Zf ?_ | refine Zg ?_ | refine Zm ?_ | refine Zn ?_ | refine Zo ?_ | refine Zp ?_ | refine Zq ?_ | refine Zr ?_ | refine Zk ?_)
  refine rt_step rfl rfl rfl (st_call rfl rfl rfl rfl (out115_ct (g1 [_] _) (by omega) fun v2 G2 o2 => ?_))
  obtain ⟨a2, d2, e2, g2⟩ := o2.arrW (C := cx B0 old) encY_len
  subst e2
  repeat (first | refine Z0 ?_ | (refine ZR ?_; first | refine x1 ?_ | refine x2 ?_ | refine x8 ?_ | refine Z1 ?_ | refine Z2 ?_ | refine x3 fun _ => ?_ | refine x4 fun _ => ?_ | refine x5 fun _ => ?_ | refine Z3 fun _ => ?_ | refine Z4 fun _ => ?_) | refine Za ?_ | refine Zb ?_ | refine Zl ?_ | refine Zc ?_ | refine Ze ?_ | refine Zi ?_ | refine Zj ?_ | refine Zf ?_ | refine Zg ?_ | refine Zm ?_ | refine Zn ?_ | refine Zo ?_ | refine Zp ?_ | refine Zq ?_ | refine Zr ?_ | refine Zk ?_)
  rw [u8_k (show 0 ≤ x.a0 ∧ x.a0 < 256 by omega)]
  repeat (first | refine Z0 ?_ | (refine ZR ?_; first | refine x1 ?_ | refine x2 ?_ | refine x8 ?_ | refine Z1 ?_ | refine Z2 ?_ | refine x3 fun _ => ?_ | refine x4 fun _ => ?_ | refine x5 fun _ => ?_ | refine Z3 fun _ => ?_ | refine Z4 fun _ => ?_) | refine Za ?_ | refine Zb ?_ | refine Zl ?_ | refine Zc ?_ | refine Ze ?_ | refine Zi ?_ | refine Zj ?_ | refine Zf ?_ | refine Zg ?_ | refine Zm ?_ | refine Zn ?_ | refine Zo ?_ | refine Zp ?_ | refine Zq ?_ | refine Zr ?_ | refine Zk ?_)
  rw [u8_k (show 0 ≤ (V.length : Int) ∧ (V.length : Int) < 256 by omega)]
  repeat (first | refine Z0 ?_ | (refine ZR ?_; first | refine x1 ?_ | refine x2 ?_ | refine x8 ?_ | refine Z1 ?_ | refine Z2 ?_ | refine x3 fun _ => ?_ | refine x4 fun _ => ?_ | refine x5 fun _ => ?_ | refine Z3 fun _ => ?_ | refine Z4 fun _ => ?_) | refine Za ?_ | refine Zb ?_ | refine Zl ?_ | refine Zc ?_ | refine Ze ?_ | refine Zi ?_ | refine Zj ?_ | refine Zf ?_ | refine Zg ?_ | refine Zm ?_ | refine Zn ?_ | refine Zo ?_ | refine Zp ?_ | refine Zq ?_ | refine Zr ?_ | refine Zk ?_)
  rename_i bs
  refine rt_step rfl rfl rfl (st_appO (pre := []) (Hs := [(bs, .row [.int .u8 x.a0, .int .u8 (V.length : Int)] 1 false)]) (L := [x.a0, (V.length : Int)]) (M := V) (Own.fix [x.a0, (V.length : Int)] bs 1 (show 2 < EL by decide)) encY_len encY_one rfl rfl (ap rfl) (g2 [_] _) (by show _ * (1 + 1) ≤ _; (try simp only [List.length_cons]); (try simp only [List.length_nil]); omega) fun v3 G3 o3 => ?_)
  repeat (first | refine Z0 ?_ | (refine ZR ?_; first | refine x1 ?_ | refine x2 ?_ | refine x8 ?_ | refine Z1 ?_ | refine Z2 ?_ | refine x3 fun _ => ?_ | refine x4 fun _ => ?_ | refine x5 fun _ => ?_ | refine Z3 fun _ => ?_ | refine Z4 fun _ => ?_) | refine Za ?_ | refine Zb ?_ | refine Zl ?_ | refine Zc ?_ | refine Ze ?_ | refine Zi ?_ | refine Zj ?_ | refine Zf ?_ | refine Zg ?_ | refine Zm ?_ | refine Zn ?_ | refine Zo ?_ | refine Zp ?_ | refine Zq ?_ | refine Zr ?_ | refine Zk ?_)
  exact re_1 (H' := G3 ++ H) rfl rfl (by exact drop_auto) (hQ _ _ o3)
theorem valid116_ct (a b : Int) (hQ : Q (.bool (decide (0 ≤ b ∧ b ≤ 32))) H) : CallT (cx B0 old) (acall (cx B0 old) ansP (n + 1)) 116 [.agg ⟨[.int .u32 a, .int .i64 b]⟩] H Q := by
  refine call_in1 11 rfl Try.func116 rfl rfl ?_
  repeat (first | refine Z0 ?_ | (refine ZR ?_; first | refine x1 ?_ | refine x2 ?_ | refine x8 ?_ | refine Z1 ?_ | refine Z2 ?_ | refine x3 fun _ => ?_ | refine x4 fun _ => ?_ | refine x5 fun _ => ?_ | refine Z3 fun _ => ?_ | refine Z4 fun _ => ?_) | refine Za ?_ | refine Zb ?_ | refine Zl ?_ | refine Zc ?_ | refine Ze ?_ | refine Zi ?_ | refine Zj ?_ | refine Zf ?_ | refine Zg ?_ | refine Zm ?_ | refine Zn ?_ | refine Zo ?_ | refine Zp ?_ | refine Zq ?_ | refine Zr ?_ | refine Zk ?_)
  refine isRun ?_
  refine z1 (fun h1 => ?_) (fun h1 => ?_)
  · repeat (first | refine Z0 ?_ | (refine ZR ?_; first | refine x1 ?_ | refine x2 ?_ | refine x8 ?_ | refine Z1 ?_ | refine Z2 ?_ | refine x3 fun _ => ?_ | refine x4 fun _ => ?_ | refine x5 fun _ => ?_ | refine Z3 fun _ => ?_ | refine Z4 fun _ => ?_) | refine Za ?_ | refine Zb ?_ | refine Zl ?_ | refine Zc ?_ | refine Ze ?_ | refine Zi ?_ | refine Zj ?_ | refine Zf ?_ | refine Zg ?_ | refine Zm ?_ | refine Zn ?_ | refine Zo ?_ | refine Zp ?_ | refine Zq ?_ | refine Zr ?_ | refine Zk ?_)
    exact re_1 (H' := H) rfl rfl (by exact drop_auto) (by rw [show decide (b ≤ 32) = decide (0 ≤ b ∧ b ≤ 32) from decide_eq_decide.2 ⟨fun h => ⟨h1, h⟩, fun h => h.2⟩]; exact hQ)
  · repeat (first | refine Z0 ?_ | (refine ZR ?_; first | refine x1 ?_ | refine x2 ?_ | refine x8 ?_ | refine Z1 ?_ | refine Z2 ?_ | refine x3 fun _ => ?_ | refine x4 fun _ => ?_ | refine x5 fun _ => ?_ | refine Z3 fun _ => ?_ | refine Z4 fun _ => ?_) | refine Za ?_ | refine Zb ?_ | refine Zl ?_ | refine Zc ?_ | refine Ze ?_ | refine Zi ?_ | refine Zj ?_ | refine Zf ?_ | refine Zg ?_ | refine Zm ?_ | refine Zn ?_ | refine Zo ?_ | refine Zp ?_ | refine Zq ?_ | refine Zr ?_ | refine Zk ?_)
    exact re_1 (H' := H) rfl rfl (by exact drop_auto) (by rw [decide_eq_false (fun h => h1 h.1)] at hQ; exact hQ)
theorem mask117_ct (b : Int) (hb : 0 ≤ b ∧ b ≤ 32) (hQ : Q (.int .u32 (mskI b)) H) : CallT (cx B0 old) (acall (cx B0 old) ansP (n + 1)) 117 [.int .i64 b] H Q := by
  refine call_in1 6 rfl Try.func117 rfl rfl ?_
  repeat (first | refine Z0 ?_ | (refine ZR ?_; first | refine x1 ?_ | refine x2 ?_ | refine x8 ?_ | refine Z1 ?_ | refine Z2 ?_ | refine x3 fun _ => ?_ | refine x4 fun _ => ?_ | refine x5 fun _ => ?_ | refine Z3 fun _ => ?_ | refine Z4 fun _ => ?_) | refine Za ?_ | refine Zb ?_ | refine Zl ?_ | refine Zc ?_ | refine Ze ?_ | refine Zi ?_ | refine Zj ?_ | refine Zf ?_ | refine Zg ?_ | refine Zm ?_ | refine Zn ?_ | refine Zo ?_ | refine Zp ?_ | refine Zq ?_ | refine Zr ?_ | refine Zk ?_)
  apply rt_p rfl rfl rfl
  case hp => exact p_shl rfl rfl (by omega)
  repeat (first | refine Z0 ?_ | (refine ZR ?_; first | refine x1 ?_ | refine x2 ?_ | refine x8 ?_ | refine Z1 ?_ | refine Z2 ?_ | refine x3 fun _ => ?_ | refine x4 fun _ => ?_ | refine x5 fun _ => ?_ | refine Z3 fun _ => ?_ | refine Z4 fun _ => ?_) | refine Za ?_ | refine Zb ?_ | refine Zl ?_ | refine Zc ?_ | refine Ze ?_ | refine Zi ?_ | refine Zj ?_ | refine Zf ?_ | refine Zg ?_ | refine Zm ?_ | refine Zn ?_ | refine Zo ?_ | refine Zp ?_ | refine Zq ?_ | refine Zr ?_ | refine Zk ?_)
  exact re_1 (H' := H) rfl rfl (by exact drop_auto) hQ
theorem clean85_ct (a b : Int) (h1 : ¬ (0 ≤ b ∧ b ≤ 32) → Q (.tuple #[.agg ⟨[.int .u32 0, .int .i64 0]⟩, .int .i64 2]) H) (h2 : 0 ≤ b ∧ b ≤ 32 → Q (.tuple #[.agg ⟨[.int .u32 (clI a b), .int .i64 b]⟩, .int .i64 0]) H) :
    CallT (cx B0 old) (acall (cx B0 old) ansP (n + 2)) 85 [.agg ⟨[.int .u32 a, .int .i64 b]⟩] H Q := by
  unfold clI at h2
  refine call_in1 16 rfl Try.func85 rfl rfl ?_
  repeat (first | refine Z0 ?_ | (refine ZR ?_; first | refine x1 ?_ | refine x2 ?_ | refine x8 ?_ | refine Z1 ?_ | refine Z2 ?_ | refine x3 fun _ => ?_ | refine x4 fun _ => ?_ | refine x5 fun _ => ?_ | refine Z3 fun _ => ?_ | refine Z4 fun _ => ?_) | refine Za ?_ | refine Zb ?_ | refine Zl ?_ | refine Zc ?_ | refine Ze ?_ | refine Zi ?_ | refine Zj ?_ | refine Zf ?_ | refine Zg ?_ | refine Zm ?_ | refine Zn ?_ | refine Zo ?_ | refine Zp ?_ | refine Zq ?_ | refine Zr ?_ | refine Zk ?_)
  refine rt_step rfl rfl rfl (st_call rfl rfl rfl rfl (valid116_ct a b ?_))
  repeat (first | refine Z0 ?_ | (refine ZR ?_; first | refine x1 ?_ | refine x2 ?_ | refine x8 ?_ | refine Z1 ?_ | refine Z2 ?_ | refine x3 fun _ => ?_ | refine x4 fun _ => ?_ | refine x5 fun _ => ?_ | refine Z3 fun _ => ?_ | refine Z4 fun _ => ?_) | refine Za ?_ | refine Zb ?_ | refine Zl ?_ | refine Zc ?_ | refine Ze ?_ | refine Zi ?_ | refine Zj ?_ | refine Zf ?_ | refine Zg ?_ | refine Zm ?_ | refine Zn ?_ | refine Zo ?_ | refine Zp ?_ | refine Zq ?_ | refine Zr ?_ | refine Zk ?_)
  refine ct_condT (te_n te_d) rfl (fun hc => ?_) (fun hc => ?_)
  · repeat (first | refine Z0 ?_ | (refine ZR ?_; first | refine x1 ?_ | refine x2 ?_ | refine x8 ?_ | refine Z1 ?_ | refine Z2 ?_ | refine x3 fun _ => ?_ | refine x4 fun _ => ?_ | refine x5 fun _ => ?_ | refine Z3 fun _ => ?_ | refine Z4 fun _ => ?_) | refine Za ?_ | refine Zb ?_ | refine Zl ?_ | refine Zc ?_ | refine Ze ?_ | refine Zi ?_ | refine Zj ?_ | refine Zf ?_ | refine Zg ?_ | refine Zm ?_ | refine Zn ?_ | refine Zo ?_ | refine Zp ?_ | refine Zq ?_ | refine Zr ?_ | refine Zk ?_)
    exact re_c2 (H' := H) rfl rfl (.own _ _ hm0) rfl (sz rfl) rfl rfl (by exact drop_auto) (h1 hc)
  · repeat (first | refine Z0 ?_ | (refine ZR ?_; first | refine x1 ?_ | refine x2 ?_ | refine x8 ?_ | refine Z1 ?_ | refine Z2 ?_ | refine x3 fun _ => ?_ | refine x4 fun _ => ?_ | refine x5 fun _ => ?_ | refine Z3 fun _ => ?_ | refine Z4 fun _ => ?_) | refine Za ?_ | refine Zb ?_ | refine Zl ?_ | refine Zc ?_ | refine Ze ?_ | refine Zi ?_ | refine Zj ?_ | refine Zf ?_ | refine Zg ?_ | refine Zm ?_ | refine Zn ?_ | refine Zo ?_ | refine Zp ?_ | refine Zq ?_ | refine Zr ?_ | refine Zk ?_)
    refine ct_draw (masks := [0, 1, 0, 4, 12, 31, 63, 127]) (plan := [0, 1, 2, 3, 4, 5, 6, 7]) (E := []) (by kernel_rfl) (by kernel_rfl) (by kernel_rfl) (by kernel_rfl) ?_
    repeat (first | refine Y0 ?_ | (refine YP ?_; first | refine y1 ?_ | refine y2 ?_ | refine Y1 ?_ | refine Y2 ?_))
    refine pl_S rfl rfl rfl rfl rfl rfl (st_call rfl rfl rfl rfl (mask117_ct b hc ⟨by exact rec_auto, ?_⟩))
    repeat (first | refine Y0 ?_ | (refine YP ?_; first | refine y1 ?_ | refine y2 ?_ | refine Y1 ?_ | refine Y2 ?_))
    refine y3 ?_
    repeat (first | refine Y0 ?_ | (refine YP ?_; first | refine y1 ?_ | refine y2 ?_ | refine Y1 ?_ | refine Y2 ?_))
    repeat (first | refine Z0 ?_ | (refine ZR ?_; first | refine x1 ?_ | refine x2 ?_ | refine x8 ?_ | refine Z1 ?_ | refine Z2 ?_ | refine x3 fun _ => ?_ | refine x4 fun _ => ?_ | refine x5 fun _ => ?_ | refine Z3 fun _ => ?_ | refine Z4 fun _ => ?_) | refine Za ?_ | refine Zb ?_ | refine Zl ?_ | refine Zc ?_ | refine Ze ?_ | refine Zi ?_ | refine Zj ?_ | refine Zf ?_ | refine Zg ?_ | refine Zm ?_ | refine Zn ?_ | refine Zo ?_ | refine Zp ?_ | refine Zq ?_ | refine Zr ?_ | refine Zk ?_)
    exact re_c2 (H' := H) rfl rfl (.own _ _ hm0) rfl (sz rfl) rfl rfl (by exact drop_auto) (h2 hc)
theorem foreign84_ct (x : S60) (hQ : Q (.bool (!nlFor x)) H) : CallT (cx B0 old) (acall (cx B0 old) ansP (n + 1)) 84 [.agg ⟨en60 x⟩] H Q := by
  unfold nlFor zapS at hQ
  refine call_in1 44 rfl Try.func84 rfl rfl ?_
  unfold en60 at hQ ⊢
  unfold zS at hQ
  dsimp only at hQ
  repeat' (first | refine Z0 ?_ | (refine ZR ?_; first | refine x1 ?_ | refine x2 ?_ | refine x8 ?_ | refine Z1 ?_ | refine Z2 ?_ | refine x3 fun _ => ?_ | refine x4 fun _ => ?_ | refine x5 fun _ => ?_ | refine Z3 fun _ => ?_ | refine Z4 fun _ => ?_) | refine Za ?_ | refine Zb ?_ | refine Zl ?_ | refine Zc ?_ | refine Ze ?_ | refine Zi ?_ | refine Zj ?_ | refine Zf ?_ | refine Zg ?_ | refine Zm ?_ | refine Zn ?_ | refine Zo ?_ | refine Zp ?_ | refine Zq ?_ | refine Zr ?_ | refine Zk ?_ | refine Y0 ?_ | (refine YP ?_; first | refine y1 ?_ | refine y2 ?_ | refine Y1 ?_ | refine Y2 ?_) | (refine isPlan ?_; refine y3 ?_) | (first | (refine isRun ?_; refine z1 (fun hc => ?_) (fun hc => ?_)) | refine z2 (fun hc => ?_) (fun hc => ?_) | (refine isPlan ?_; refine z3 (fun hc => ?_) (fun hc => ?_))))
  all_goals refine re_1 (H' := H) rfl rfl (by exact drop_auto) ?_
  · rw [if_pos (by omega)] at hQ; exact hQ
  · rw [if_neg (by omega), if_pos (by omega)] at hQ; exact hQ
  · rw [if_neg (by omega), if_neg (by omega), if_pos (by omega)] at hQ; exact hQ
  · rw [if_neg (by omega), if_neg (by omega), if_neg (by omega), if_pos (by omega)] at hQ; exact hQ
  · rw [if_neg (by omega), if_neg (by omega), if_neg (by omega), if_neg (by omega), if_pos (by omega)] at hQ; exact hQ
  · rw [if_neg (by omega), if_neg (by omega), if_neg (by omega), if_neg (by omega), if_neg (by omega)] at hQ; exact hQ
theorem check41_ct (x : S60) (hQ : Q (.int .i64 (nlCk x)) H) : CallT (cx B0 old) (acall (cx B0 old) ansP (n + 3)) 41 [.agg ⟨en60 x⟩] H Q := by
  have hf : ∀ {H1 : Hp} {Θ : Value → Hp → Prop}, Θ (.bool (!nlFor x)) H1 → CallT (cx B0 old) (acall (cx B0 old) ansP (n + 2)) 84 [.agg ⟨en60 x⟩] H1 Θ := fun h => foreign84_ct x h
  have e6 := ck_6 (x := x)
  have e3 := ck_3 (x := x)
  have e2 := ck_2 (x := x)
  have ec := ck_c (x := x)
  have hform := form_iff (x := x)
  have hcip := ck_ip (x := x)
  have hcf := ck_for (x := x)
  unfold okIP at hform hcip
  generalize nlCk x = r at *
  generalize nlForm x = fm at *
  generalize nlFor x = fr at *
  refine call_in1 63 rfl Try.func41 rfl rfl ?_
  unfold en60 at hf ⊢
  repeat' (first | refine Z0 ?_ | (refine ZR ?_; first | refine x1 ?_ | refine x2 ?_ | refine x8 ?_ | refine Z1 ?_ | refine Z2 ?_ | refine x3 fun _ => ?_ | refine x4 fun _ => ?_ | refine x5 fun _ => ?_ | refine Z3 fun _ => ?_ | refine Z4 fun _ => ?_) | refine Za ?_ | refine Zb ?_ | refine Zl ?_ | refine Zc ?_ | refine Ze ?_ | refine Zi ?_ | refine Zj ?_ | refine Zf ?_ | refine Zg ?_ | refine Zm ?_ | refine Zn ?_ | refine Zo ?_ | refine Zp ?_ | refine Zq ?_ | refine Zr ?_ | refine Zk ?_ | refine Y0 ?_ | (refine YP ?_; first | refine y1 ?_ | refine y2 ?_ | refine Y1 ?_ | refine Y2 ?_) | (refine isPlan ?_; refine y3 ?_) | (first | (refine isRun ?_; refine z1 (fun hc => ?_) (fun hc => ?_)) | refine z2 (fun hc => ?_) (fun hc => ?_) | (refine isPlan ?_; refine z3 (fun hc => ?_) (fun hc => ?_))))
  · exact re_1 (H' := H) rfl rfl (by exact drop_auto) (by rw [e6 (by omega)] at hQ; exact hQ)
  · exact re_1 (H' := H) rfl rfl (by exact drop_auto) (by rw [e6 (by omega)] at hQ; exact hQ)
  rename_i k1 k2
  have hk : 1 ≤ x.a0 ∧ x.a0 ≤ 5 := by omega
  have hk' : ¬ (x.a0 < 1 ∨ x.a0 > 5) := by omega
  refine rt_step rfl rfl rfl (st_call rfl rfl rfl rfl (hf ?_))
  repeat (first | refine Z0 ?_ | (refine ZR ?_; first | refine x1 ?_ | refine x2 ?_ | refine x8 ?_ | refine Z1 ?_ | refine Z2 ?_ | refine x3 fun _ => ?_ | refine x4 fun _ => ?_ | refine x5 fun _ => ?_ | refine Z3 fun _ => ?_ | refine Z4 fun _ => ?_) | refine Za ?_ | refine Zb ?_ | refine Zl ?_ | refine Zc ?_ | refine Ze ?_ | refine Zi ?_ | refine Zj ?_ | refine Zf ?_ | refine Zg ?_ | refine Zm ?_ | refine Zn ?_ | refine Zo ?_ | refine Zp ?_ | refine Zq ?_ | refine Zr ?_ | refine Zk ?_)
  refine ct_condT (te_n te_b) rfl (fun hd => ?_) (fun hd => ?_)
  · repeat (first | refine Z0 ?_ | (refine ZR ?_; first | refine x1 ?_ | refine x2 ?_ | refine x8 ?_ | refine Z1 ?_ | refine Z2 ?_ | refine x3 fun _ => ?_ | refine x4 fun _ => ?_ | refine x5 fun _ => ?_ | refine Z3 fun _ => ?_ | refine Z4 fun _ => ?_) | refine Za ?_ | refine Zb ?_ | refine Zl ?_ | refine Zc ?_ | refine Ze ?_ | refine Zi ?_ | refine Zj ?_ | refine Zf ?_ | refine Zg ?_ | refine Zm ?_ | refine Zn ?_ | refine Zo ?_ | refine Zp ?_ | refine Zq ?_ | refine Zr ?_ | refine Zk ?_)
    exact re_1 (H' := H) rfl rfl (by exact drop_auto) (by rw [e3 hk' (hcf hk hd)] at hQ; exact hQ)
  repeat' (first | refine Z0 ?_ | (refine ZR ?_; first | refine x1 ?_ | refine x2 ?_ | refine x8 ?_ | refine Z1 ?_ | refine Z2 ?_ | refine x3 fun _ => ?_ | refine x4 fun _ => ?_ | refine x5 fun _ => ?_ | refine Z3 fun _ => ?_ | refine Z4 fun _ => ?_) | refine Za ?_ | refine Zb ?_ | refine Zl ?_ | refine Zc ?_ | refine Ze ?_ | refine Zi ?_ | refine Zj ?_ | refine Zf ?_ | refine Zg ?_ | refine Zm ?_ | refine Zn ?_ | refine Zo ?_ | refine Zp ?_ | refine Zq ?_ | refine Zr ?_ | refine Zk ?_ | refine Y0 ?_ | (refine YP ?_; first | refine y1 ?_ | refine y2 ?_ | refine Y1 ?_ | refine Y2 ?_) | (refine isPlan ?_; refine y3 ?_) | (first | (refine isRun ?_; refine z1 (fun hc => ?_) (fun hc => ?_)) | refine z2 (fun hc => ?_) (fun hc => ?_) | (refine isPlan ?_; refine z3 (fun hc => ?_) (fun hc => ?_))))
  all_goals first
    | exact re_1 (H' := H) rfl rfl (by exact drop_auto) (by rw [e3 hk' (hcip hk (by simp [*]))] at hQ; exact hQ)
    | exact re_1 (H' := H) rfl rfl (by exact drop_auto) (by rw [e2 hk' ((hform hk).2 ⟨hd, by simp [*]⟩) (by omega)] at hQ; exact hQ)
    | skip
  all_goals
    have hfm := (hform hk).2 ⟨hd, by simp [*]⟩
    have hlf : leafsEq [.int .u32 (clI x.a16 x.a17), .int .i64 x.a17] [.int .u32 x.a16, .int .i64 x.a17] = (clI x.a16 x.a17 == x.a16) := by simp [leafsEq, leafN]
    refine rt_step rfl rfl rfl (st_call rfl rfl rfl rfl (clean85_ct x.a16 x.a17 (fun hn => ?_) (fun hy => ?_)))
    · repeat (first | refine Z0 ?_ | (refine ZR ?_; first | refine x1 ?_ | refine x2 ?_ | refine x8 ?_ | refine Z1 ?_ | refine Z2 ?_ | refine x3 fun _ => ?_ | refine x4 fun _ => ?_ | refine x5 fun _ => ?_ | refine Z3 fun _ => ?_ | refine Z4 fun _ => ?_) | refine Za ?_ | refine Zb ?_ | refine Zl ?_ | refine Zc ?_ | refine Ze ?_ | refine Zi ?_ | refine Zj ?_ | refine Zf ?_ | refine Zg ?_ | refine Zm ?_ | refine Zn ?_ | refine Zo ?_ | refine Zp ?_ | refine Zq ?_ | refine Zr ?_ | refine Zk ?_)
      exact re_1 (H' := H) rfl rfl (by exact drop_auto) (by rw [e2 hk' hfm (by omega)] at hQ; exact hQ)
    · rw [ec hk' hfm (by omega)] at hQ
      repeat (first | refine Z0 ?_ | (refine ZR ?_; first | refine x1 ?_ | refine x2 ?_ | refine x8 ?_ | refine Z1 ?_ | refine Z2 ?_ | refine x3 fun _ => ?_ | refine x4 fun _ => ?_ | refine x5 fun _ => ?_ | refine Z3 fun _ => ?_ | refine Z4 fun _ => ?_) | refine Za ?_ | refine Zb ?_ | refine Zl ?_ | refine Zc ?_ | refine Ze ?_ | refine Zi ?_ | refine Zj ?_ | refine Zf ?_ | refine Zg ?_ | refine Zm ?_ | refine Zn ?_ | refine Zo ?_ | refine Zp ?_ | refine Zq ?_ | refine Zr ?_ | refine Zk ?_)
      refine ct_condT (te_n te_b) rfl (fun hz => ?_) (fun hz => ?_)
      · have hz' := hlf.symm.trans hz
        rw [if_pos (beq_eq_false_iff_ne.1 hz')] at hQ
        repeat (first | refine Z0 ?_ | (refine ZR ?_; first | refine x1 ?_ | refine x2 ?_ | refine x8 ?_ | refine Z1 ?_ | refine Z2 ?_ | refine x3 fun _ => ?_ | refine x4 fun _ => ?_ | refine x5 fun _ => ?_ | refine Z3 fun _ => ?_ | refine Z4 fun _ => ?_) | refine Za ?_ | refine Zb ?_ | refine Zl ?_ | refine Zc ?_ | refine Ze ?_ | refine Zi ?_ | refine Zj ?_ | refine Zf ?_ | refine Zg ?_ | refine Zm ?_ | refine Zn ?_ | refine Zo ?_ | refine Zp ?_ | refine Zq ?_ | refine Zr ?_ | refine Zk ?_)
        exact re_1 (H' := H) rfl rfl (by exact drop_auto) hQ
      · have hz' := hlf.symm.trans hz
        rw [if_neg (fun g => g (beq_iff_eq.1 hz'))] at hQ
        repeat (first | refine Z0 ?_ | (refine ZR ?_; first | refine x1 ?_ | refine x2 ?_ | refine x8 ?_ | refine Z1 ?_ | refine Z2 ?_ | refine x3 fun _ => ?_ | refine x4 fun _ => ?_ | refine x5 fun _ => ?_ | refine Z3 fun _ => ?_ | refine Z4 fun _ => ?_) | refine Za ?_ | refine Zb ?_ | refine Zl ?_ | refine Zc ?_ | refine Ze ?_ | refine Zi ?_ | refine Zj ?_ | refine Zf ?_ | refine Zg ?_ | refine Zm ?_ | refine Zn ?_ | refine Zo ?_ | refine Zp ?_ | refine Zq ?_ | refine Zr ?_ | refine Zk ?_)
        exact re_1 (H' := H) rfl rfl (by exact drop_auto) hQ
theorem bytes37_ct (x : S60) (hw : x.wf) (hbad : nlCk x ≠ 0 → Q (.tuple #[.slice none 0 0, .int .i64 (nlCk x)]) H) (hok : nlCk x = 0 → ∀ v G, Own encY 1 (nlB x) v G → Q (.tuple #[v, .int .i64 0]) (G ++ H)) :
    CallT (cx B0 old) (acall (cx B0 old) ansP (n + 7)) 37 [.agg ⟨en60 x⟩] H Q := by
  have hc : ∀ {H1 : Hp} {Θ : Value → Hp → Prop}, Θ (.int .i64 (nlCk x)) H1 → CallT (cx B0 old) (acall (cx B0 old) ansP (n + 6)) 41 [.agg ⟨en60 x⟩] H1 Θ := fun h => check41_ct x h
  have hokk := nlOk_iff (x := x)
  generalize nlCk x = r at *
  by_cases hr : r = 0
  rotate_left
  · refine call_in1 16 rfl Try.func37 rfl rfl ?_
    unfold en60 at hc ⊢
    repeat (first | refine Z0 ?_ | (refine ZR ?_; first | refine x1 ?_ | refine x2 ?_ | refine x8 ?_ | refine Z1 ?_ | refine Z2 ?_ | refine x3 fun _ => ?_ | refine x4 fun _ => ?_ | refine x5 fun _ => ?_ | refine Z3 fun _ => ?_ | refine Z4 fun _ => ?_) | refine Za ?_ | refine Zb ?_ | refine Zl ?_ | refine Zc ?_ | refine Ze ?_ | refine Zi ?_ | refine Zj ?_ | refine Zf ?_ | refine Zg ?_ | refine Zm ?_ | refine Zn ?_ | refine Zo ?_ | refine Zp ?_ | refine Zq ?_ | refine Zr ?_ | refine Zk ?_)
    refine rt_step rfl rfl rfl (st_call rfl rfl rfl rfl (hc ?_))
    repeat (first | refine Z0 ?_ | (refine ZR ?_; first | refine x1 ?_ | refine x2 ?_ | refine x8 ?_ | refine Z1 ?_ | refine Z2 ?_ | refine x3 fun _ => ?_ | refine x4 fun _ => ?_ | refine x5 fun _ => ?_ | refine Z3 fun _ => ?_ | refine Z4 fun _ => ?_) | refine Za ?_ | refine Zb ?_ | refine Zl ?_ | refine Zc ?_ | refine Ze ?_ | refine Zi ?_ | refine Zj ?_ | refine Zf ?_ | refine Zg ?_ | refine Zm ?_ | refine Zn ?_ | refine Zo ?_ | refine Zp ?_ | refine Zq ?_ | refine Zr ?_ | refine Zk ?_)
    refine ct_condT te_ne rfl (fun hd => ?_) (fun hd => absurd hd hr)
    repeat (first | refine Z0 ?_ | (refine ZR ?_; first | refine x1 ?_ | refine x2 ?_ | refine x8 ?_ | refine Z1 ?_ | refine Z2 ?_ | refine x3 fun _ => ?_ | refine x4 fun _ => ?_ | refine x5 fun _ => ?_ | refine Z3 fun _ => ?_ | refine Z4 fun _ => ?_) | refine Za ?_ | refine Zb ?_ | refine Zl ?_ | refine Zc ?_ | refine Ze ?_ | refine Zi ?_ | refine Zj ?_ | refine Zf ?_ | refine Zg ?_ | refine Zm ?_ | refine Zn ?_ | refine Zo ?_ | refine Zp ?_ | refine Zq ?_ | refine Zr ?_ | refine Zk ?_)
    exact re_2 (H' := H) rfl rfl rfl (by exact drop_auto) (hbad hr)
  have ok := hokk.1 hr
  obtain ⟨t, henc, hlook⟩ : ∃ t : Nat, (∀ {H1 : Hp} {Θ : Value → Hp → Prop}, (∀ v G, Own encY 1 (nlB x) v G → Θ v (G ++ H1)) → CallT (cx B0 old) (acall (cx B0 old) ansP (n + 6)) 80 [.agg ⟨en60 x⟩, .iface t (.agg ⟨[]⟩)] H1 Θ) ∧ lookE (cx B0 old) 103 (cdE 5) (.int .i64 x.a0) false = some (.iface t (.agg ⟨[]⟩)) := by
    have hk := ok.kind
    rcases (by omega : x.a0 = 1 ∨ x.a0 = 2 ∨ x.a0 = 3 ∨ x.a0 = 4 ∨ x.a0 = 5) with h | h | h | h | h
    · exact ⟨150, fun g => enc80_ct x hw ok 150 161 (m150 B0 old) rfl (fun q => put161_ct x hw ok h q) g, by rw [h]; kernel_rfl⟩
    · exact ⟨151, fun g => enc80_ct x hw ok 151 175 (m151 B0 old) rfl (fun q => put175_ct x hw ok h q) g, by rw [h]; kernel_rfl⟩
    · exact ⟨152, fun g => enc80_ct x hw ok 152 182 (m152 B0 old) rfl (fun q => put182_ct x hw ok h q) g, by rw [h]; kernel_rfl⟩
    · exact ⟨153, fun g => enc80_ct x hw ok 153 184 (m153 B0 old) rfl (fun q => put184_ct x hw ok h q) g, by rw [h]; kernel_rfl⟩
    · exact ⟨154, fun g => enc80_ct x hw ok 154 186 (m154 B0 old) rfl (fun q => put186_ct x hw ok h q) g, by rw [h]; kernel_rfl⟩
  have hok2 := hok hr
  clear hok hbad
  subst hr
  generalize nlB x = V at *
  refine call_in1 16 rfl Try.func37 rfl rfl ?_
  unfold en60 at hc henc ⊢
  repeat (first | refine Z0 ?_ | (refine ZR ?_; first | refine x1 ?_ | refine x2 ?_ | refine x8 ?_ | refine Z1 ?_ | refine Z2 ?_ | refine x3 fun _ => ?_ | refine x4 fun _ => ?_ | refine x5 fun _ => ?_ | refine Z3 fun _ => ?_ | refine Z4 fun _ => ?_) | refine Za ?_ | refine Zb ?_ | refine Zl ?_ | refine Zc ?_ | refine Ze ?_ | refine Zi ?_ | refine Zj ?_ | refine Zf ?_ | refine Zg ?_ | refine Zm ?_ | refine Zn ?_ | refine Zo ?_ | refine Zp ?_ | refine Zq ?_ | refine Zr ?_ | refine Zk ?_)
  refine rt_step rfl rfl rfl (st_call rfl rfl rfl rfl (hc ?_))
  repeat (first | refine Z0 ?_ | (refine ZR ?_; first | refine x1 ?_ | refine x2 ?_ | refine x8 ?_ | refine Z1 ?_ | refine Z2 ?_ | refine x3 fun _ => ?_ | refine x4 fun _ => ?_ | refine x5 fun _ => ?_ | refine Z3 fun _ => ?_ | refine Z4 fun _ => ?_) | refine Za ?_ | refine Zb ?_ | refine Zl ?_ | refine Zc ?_ | refine Ze ?_ | refine Zi ?_ | refine Zj ?_ | refine Zf ?_ | refine Zg ?_ | refine Zm ?_ | refine Zn ?_ | refine Zo ?_ | refine Zp ?_ | refine Zq ?_ | refine Zr ?_ | refine Zk ?_)
  refine ct_draw (masks := [0, 0, 0, 4, 14, 31, 63, 127]) (plan := [0, 2, 3, 1, 4, 5, 6, 7]) (E := []) (by kernel_rfl) (by kernel_rfl) (by kernel_rfl) (by kernel_rfl) ?_
  repeat (first | refine Y0 ?_ | (refine YP ?_; first | refine y1 ?_ | refine y2 ?_ | refine Y1 ?_ | refine Y2 ?_))
  refine pl_S rfl rfl rfl rfl rfl rfl (st_call rfl rfl rfl rfl (codecs81_ct fun b => ⟨by exact rec_auto, ?_⟩))
  repeat (first | refine Y0 ?_ | (refine YP ?_; first | refine y1 ?_ | refine y2 ?_ | refine Y1 ?_ | refine Y2 ?_))
  refine pl_R rfl rfl rfl rfl rfl rfl (rd_lookup rfl rfl hm0 hlook) ?_
  repeat (first | refine Y0 ?_ | (refine YP ?_; first | refine y1 ?_ | refine y2 ?_ | refine Y1 ?_ | refine Y2 ?_))
  refine pl_S rfl rfl rfl rfl rfl rfl (st_call rfl rfl rfl rfl (henc fun v G ho => ⟨by exact rec_auto, ?_⟩))
  repeat (first | refine Y0 ?_ | (refine YP ?_; first | refine y1 ?_ | refine y2 ?_ | refine Y1 ?_ | refine Y2 ?_))
  repeat (first | refine Z0 ?_ | (refine ZR ?_; first | refine x1 ?_ | refine x2 ?_ | refine x8 ?_ | refine Z1 ?_ | refine Z2 ?_ | refine x3 fun _ => ?_ | refine x4 fun _ => ?_ | refine x5 fun _ => ?_ | refine Z3 fun _ => ?_ | refine Z4 fun _ => ?_) | refine Za ?_ | refine Zb ?_ | refine Zl ?_ | refine Zc ?_ | refine Ze ?_ | refine Zi ?_ | refine Zj ?_ | refine Zf ?_ | refine Zg ?_ | refine Zm ?_ | refine Zn ?_ | refine Zo ?_ | refine Zp ?_ | refine Zq ?_ | refine Zr ?_ | refine Zk ?_)
  exact re_2 (H' := G ++ H) rfl rfl rfl (by exact drop_auto) (hok2 _ _ ho)
end
end Go.Proofs.Ytjdppdoakbojcaa.Abs
