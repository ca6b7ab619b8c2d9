/- The library's clone of maps; the program's Copy. -/
import Derived.Test.YtojnbjandkbkmaaQv
import Derived.KernelRfl
import Derived.Test.YtojnbjandkbkmaaRb
import Derived.Test.YtojnbjandkbkmaaTop
namespace Go.Proofs.Ytojnbjandkbkmaa.Abs
open Go
set_option linter.unusedVariables false
section
variable {C : Ctx} {hd : HH Prop} {l : Sl} {H : Hp} {Θ : Value → Hp → Prop}
theorem p_assertH {x : Operand} {v : Value} {a s : TypeId} {d : TypeDesc} (h : evalL l x = some (.iface a v)) (hu : C.P.underlying a = some d) (hn : notIface d = true) : PureT C (.typeAssert x s a false) l v := by
  unfold PureT
  refine ⟨cov1 h, ?_⟩
  simp only [aP, atypeAssert, hu, rhoL_eq h]
  cases d <;> first | (cases hn; done) | rfl | (simp)
theorem st_clone {f : Operand} {args : Array Operand} {ts : Array TypeId} {g : FuncId} {first cap : Array Value} {vs : List Value} {t : TypeId} {m c : Nat} {es : List MEnt} (hc : covL l (Op.call { callee := .value f, args, argTypes := ts }).operands.toList = true)
    (hf : evalL l f = some (.func (.func g) first cap)) (hcal : callable C g = false) (hcl : isClone C g = true) (hargs : argsL l args.toList = some vs) (hv : first.toList ++ (vs ++ cap.toList) = [.iface t (.map (some m))])
    (hm : (m, AObj.map es c) ∈ H) (h : ∀ b, Θ (.iface t (.map (some b))) ((b, .map es c) :: H)) : StepT C hd (.call { callee := .value f, args, argTypes := ts }) l H Θ := by
  unfold StepT
  exact ⟨hc, fun s k hms hk => by
    obtain ⟨k1, k2, k3⟩ := hms.has _ _ hm
    have k4 : s.obj m = some (AObj.map es c) := k3
    unfold aop aE
    simp only [covL_ok hc]
    simp only [aP, aR, aA, aW, acallOp, rhoL_eq hf, hcal, argsL_eq hargs, hv, aclone, hcl, Nat.ble_eq_true_of_le k1, k4]
    exact hk _ _ _ (h s.next) (hms.alloc _)⟩
end
section
variable {B0 : Nat} {old : Nat → Option (List Value)} {n : Nat} {H G : Hp} {Q : Value → Hp → Prop} {p ob eb co c : Nat} {age : Int} {os : List ((Int × Int) × Int × Nat)} {ms : List (Kk × S37 × Nat)} {L : List S37} {v : Value}
set_option maxRecDepth 10000
set_option maxHeartbeats 4000000
theorem clone47_ct {m cl : Nat} {es : List MEnt} (hm : (m, AObj.map es cl) ∈ H) (hQ : ∀ b, Q (.map (some b)) ((b, .map es cl) :: H)) : CallT (cx B0 old) (acall (cx B0 old) ansP (n + 1)) 47 [.map (some m)] H Q := by
  refine call_in1 9 rfl Try.func47 rfl rfl ?_
  repeat (first | refine Z0 ?_ | (refine ZR ?_; first | refine x1 ?_ | refine x2 ?_ | refine x8 ?_ | refine Z1 ?_ | refine Z2 ?_ | refine x3 fun _ => ?_ | refine x4 fun _ => ?_ | refine x5 fun _ => ?_ | refine Z3 fun _ => ?_ | refine Z4 fun _ => ?_) | refine ZC ?_)
  refine rt_step rfl rfl rfl (st_clone rfl rfl rfl (by kernel_rfl) rfl rfl hm fun b => ?_)
  repeat (first | refine Z0 ?_ | (refine ZR ?_; first | refine x1 ?_ | refine x2 ?_ | refine x8 ?_ | refine Z1 ?_ | refine Z2 ?_ | refine x3 fun _ => ?_ | refine x4 fun _ => ?_ | refine x5 fun _ => ?_ | refine Z3 fun _ => ?_ | refine Z4 fun _ => ?_) | refine ZC ?_)
  apply rt_p rfl rfl rfl
  case hp => exact p_assertH rfl rfl rfl
  repeat (first | refine Z0 ?_ | (refine ZR ?_; first | refine x1 ?_ | refine x2 ?_ | refine x8 ?_ | refine Z1 ?_ | refine Z2 ?_ | refine x3 fun _ => ?_ | refine x4 fun _ => ?_ | refine x5 fun _ => ?_ | refine Z3 fun _ => ?_ | refine Z4 fun _ => ?_) | refine ZC ?_)
  exact re_1 rfl rfl (List.Sublist.refl _) (hQ b)
theorem clone48_ct {m cl : Nat} {es : List MEnt} (hm : (m, AObj.map es cl) ∈ H) (hQ : ∀ b, Q (.map (some b)) ((b, .map es cl) :: H)) : CallT (cx B0 old) (acall (cx B0 old) ansP (n + 1)) 48 [.map (some m)] H Q := by
  refine call_in1 9 rfl Try.func48 rfl rfl ?_
  repeat (first | refine Z0 ?_ | (refine ZR ?_; first | refine x1 ?_ | refine x2 ?_ | refine x8 ?_ | refine Z1 ?_ | refine Z2 ?_ | refine x3 fun _ => ?_ | refine x4 fun _ => ?_ | refine x5 fun _ => ?_ | refine Z3 fun _ => ?_ | refine Z4 fun _ => ?_) | refine ZC ?_)
  refine rt_step rfl rfl rfl (st_clone rfl rfl rfl (by kernel_rfl) rfl rfl hm fun b => ?_)
  repeat (first | refine Z0 ?_ | (refine ZR ?_; first | refine x1 ?_ | refine x2 ?_ | refine x8 ?_ | refine Z1 ?_ | refine Z2 ?_ | refine x3 fun _ => ?_ | refine x4 fun _ => ?_ | refine x5 fun _ => ?_ | refine Z3 fun _ => ?_ | refine Z4 fun _ => ?_) | refine ZC ?_)
  apply rt_p rfl rfl rfl
  case hp => exact p_assertH rfl rfl rfl
  repeat (first | refine Z0 ?_ | (refine ZR ?_; first | refine x1 ?_ | refine x2 ?_ | refine x8 ?_ | refine Z1 ?_ | refine Z2 ?_ | refine x3 fun _ => ?_ | refine x4 fun _ => ?_ | refine x5 fun _ => ?_ | refine Z3 fun _ => ?_ | refine Z4 fun _ => ?_) | refine ZC ?_)
  exact re_1 rfl rfl (List.Sublist.refl _) (hQ b)
theorem copy29_ct (hQ : ∀ p2 ob2 eb2, Q (.pointer (some ⟨p2, 0, none⟩)) ((p2, .row [.map (some ob2), .int .i64 age, .map (some eb2)] 3 false) :: (ob2, .map (mkH ekP evM os) co) :: (eb2, .map (mkH ekK evN ms) c) :: ((p, .row [.map (some ob), .int .i64 age, .map (some eb)] 3 false) :: (ob, .map (mkH ekP evM os) co) :: (eb, .map (mkH ekK evN ms) c) :: H))) :
    CallT (cx B0 old) (acall (cx B0 old) ansP (n + 2)) 29 [.pointer (some ⟨p, 0, none⟩)] ((p, .row [.map (some ob), .int .i64 age, .map (some eb)] 3 false) :: (ob, .map (mkH ekP evM os) co) :: (eb, .map (mkH ekK evN ms) c) :: H) Q := by
  refine call_in1 23 rfl Try.func29 rfl rfl ?_
  repeat (first | refine Z0 ?_ | (refine ZR ?_; first | refine x1 ?_ | refine x2 ?_ | refine x8 ?_ | refine Z1 ?_ | refine Z2 ?_ | refine x3 fun _ => ?_ | refine x4 fun _ => ?_ | refine x5 fun _ => ?_ | refine Z3 fun _ => ?_ | refine Z4 fun _ => ?_) | refine ZC ?_)
  refine rt_step rfl rfl rfl (st_call rfl rfl rfl rfl (inv33_ct ?_))
  repeat (first | refine Z0 ?_ | (refine ZR ?_; first | refine x1 ?_ | refine x2 ?_ | refine x8 ?_ | refine Z1 ?_ | refine Z2 ?_ | refine x3 fun _ => ?_ | refine x4 fun _ => ?_ | refine x5 fun _ => ?_ | refine Z3 fun _ => ?_ | refine Z4 fun _ => ?_) | refine ZC ?_)
  refine ct_draw (masks := [0, 1, 3, 7, 15, 31, 63, 0, 128, 384, 896, 0, 2048, 6144, 14336, 30783, 65535, 131071, 262143]) (plan := [0, 1, 2, 3, 4, 7, 8, 9, 10, 11, 12, 13, 14, 5, 6, 15, 16, 17, 18]) (E := []) (by kernel_rfl) (by kernel_rfl) (by kernel_rfl) (by kernel_rfl) ?_
  repeat (first | refine Y0 ?_ | (refine YP ?_; first | refine y1 ?_ | refine y2 ?_ | refine Y1 ?_ | refine Y2 ?_))
  refine pl_S rfl rfl rfl rfl rfl rfl (st_call rfl rfl rfl rfl (clone47_ct (List.Mem.tail _ (List.Mem.head _)) fun ob2 => ⟨by exact rec_auto, ?_⟩))
  repeat (first | refine Y0 ?_ | (refine YP ?_; first | refine y1 ?_ | refine y2 ?_ | refine Y1 ?_ | refine Y2 ?_))
  refine pl_S rfl rfl rfl rfl rfl rfl (st_call rfl rfl rfl rfl (clone48_ct (List.Mem.tail _ (List.Mem.tail _ (List.Mem.tail _ (List.Mem.head _)))) fun eb2 => ⟨by exact rec_auto, ?_⟩))
  refine pl_p rfl rfl rfl rfl rfl rfl (p_buildS (r := [.map (some ob2), .int .i64 age, .map (some eb2)]) rfl (zr rfl) rfl rfl rfl rfl) ?_
  refine pl_S rfl rfl rfl rfl rfl rfl (st_box rfl (sz rfl) rfl rfl fun p2 => ⟨by exact rec_auto, ?_⟩)
  refine PlanT.perm ?_ (List.Perm.cons _ (List.Perm.swap _ _ _))
  repeat (first | refine Y0 ?_ | (refine YP ?_; first | refine y1 ?_ | refine y2 ?_ | refine Y1 ?_ | refine Y2 ?_))
  repeat (first | refine Z0 ?_ | (refine ZR ?_; first | refine x1 ?_ | refine x2 ?_ | refine x8 ?_ | refine Z1 ?_ | refine Z2 ?_ | refine x3 fun _ => ?_ | refine x4 fun _ => ?_ | refine x5 fun _ => ?_ | refine Z3 fun _ => ?_ | refine Z4 fun _ => ?_) | refine ZC ?_)
  exact re_1 rfl rfl (List.Sublist.refl _) (hQ p2 ob2 eb2)
theorem copyW (hT : TbP v age L G) (hQ : ∀ v' G', TbP v' age L G' → Q v' (G' ++ (G ++ H))) : CallT (cx B0 old) (acall (cx B0 old) ansP (n + 2)) 29 [v] (G ++ H) Q := by
  obtain ⟨p, ob, eb, os, co, ms, c, rfl, rfl, hI⟩ := hT
  exact copy29_ct fun p2 ob2 eb2 => hQ _ _ ⟨p2, ob2, eb2, os, co, ms, c, rfl, rfl, hI⟩
end
end Go.Proofs.Ytojnbjandkbkmaa.Abs

/- The reference's remove, Drop, Remove, Age, Copy. -/
namespace Go.Proofs.Ytojnbjandkbkmaa.Abs
open Go
set_option linter.unusedVariables false
def enB (x : Bool) : List Value := [.bool x]
theorem enB_len (x : Bool) : (enB x).length = 1 := rfl
theorem enB_one (x : Bool) : (enB x).all Value.oneCell' = true := rfl
theorem sc_yes {α : Type} {p : α → Bool} {l : List α} {y : α} (h : p y = true) : (l ++ [y]).filter p = l.filter p ++ [y] := by rw [List.filter_append, List.filter_cons_of_pos h, List.filter_nil]
theorem sc_no {α : Type} {p : α → Bool} {l : List α} {y : α} (h : p y = false) : (l ++ [y]).filter p = l.filter p := by rw [List.filter_append, List.filter_cons_of_neg (by rw [h]; decide), List.filter_nil, List.append_nil]
theorem sc_le (p : S37 → Bool) {L : List S37} {i : Nat} {y : S37} (h : i ≤ 2000) : 2 * (((L.take i).filter p).length + [y].length) + 192 ≤ 6000 := by
  have h1 := List.length_filter_le p (L.take i)
  have h2 : (L.take i).length ≤ i := by rw [List.length_take]; omega
  have h3 : [y].length = 1 := rfl
  omega
section
variable {B0 : Nat} {old : Nat → Option (List Value)} {n : Nat} {H G : Hp} {Q : Value → Hp → Prop} {v : Value} {ol : Int} {L : List S37} {q : Nat} {p : S37 → Bool}
set_option maxRecDepth 10000
set_option maxHeartbeats 8000000
theorem rremove65_ct {ado : Option Addr} {co : Nat} (ho : Own en37 6 L v G) (hb : Arr (cx B0 old) H ado 1 enB (L.map p)) (hL : L.length ≤ 2000)
    (hQ : ∀ vg Gg vl Gl, Own en37 6 (L.filter p) vg Gg → Own en37 6 (L.filter fun x => !p x) vl Gl → Q vg ((q, .row [.int .i64 ol, vl] 2 false) :: (Gg ++ (Gl ++ H)))) :
    CallT (cx B0 old) (acall (cx B0 old) ansP (n + 1)) 65 [.pointer (some ⟨q, 0, none⟩), .slice ado L.length co] ((q, .row [.int .i64 ol, v] 2 false) :: (G ++ H)) Q := by
  refine call_in2 46 rfl Try.func65 rfl rfl ?_
  obtain ⟨ad, c, ev, ga⟩ := ho.arrW (C := cx B0 old) en37_len
  subst ev
  have haw : Arr (cx B0 old) (G ++ H) ad 6 en37 L := (ga [] H).arr en37_len
  repeat (first | refine Z0 ?_ | (refine ZR ?_; first | refine x1 ?_ | refine x2 ?_ | refine x8 ?_ | refine Z1 ?_ | refine Z2 ?_ | refine x3 fun _ => ?_ | refine x4 fun _ => ?_ | refine x5 fun _ => ?_ | refine Z3 fun _ => ?_ | refine Z4 fun _ => ?_) | refine ZC ?_)
  refine loop_ind (ι := Nat × Value × Hp × Value × Hp) (0, .slice none 0 0, [], .slice none 0 0, []) (fun i => L.length - i.1) (fun i => i.1 ≤ L.length ∧ Own en37 6 ((L.take i.1).filter p) i.2.1 i.2.2.1 ∧ Own en37 6 ((L.take i.1).filter fun x => !p x) i.2.2.2.1 i.2.2.2.2)
    (fun i => [(7, .int .i64 (i.1 : Int)), (5, i.2.1), (6, i.2.2.2.1), (0, .pointer (some ⟨q, 0, none⟩)), (1, .slice ado L.length co)])
    (fun i => (q, .row [.int .i64 ol, .slice ad L.length c] 2 false) :: (i.2.2.1 ++ (i.2.2.2.2 ++ (G ++ H)))) ⟨Nat.zero_le _, Own.nil, Own.nil⟩ (by repeat (first | exact SubL.nil | refine SubL.cons rfl ?_)) (List.Sublist.refl _) ?_
  rintro ⟨i, vg, Gg, vl, Gl⟩ ⟨hi, og, ol'⟩
  dsimp only at hi og ol' ⊢
  repeat (first | refine Z0 ?_ | (refine ZR ?_; first | refine x1 ?_ | refine x2 ?_ | refine x8 ?_ | refine Z1 ?_ | refine Z2 ?_ | refine x3 fun _ => ?_ | refine x4 fun _ => ?_ | refine x5 fun _ => ?_ | refine Z3 fun _ => ?_ | refine Z4 fun _ => ?_) | refine ZC ?_)
  refine ct_condT te_d rfl (fun hlt => ?_) (fun hlt => ?_)
  rotate_left
  · obtain rfl : i = L.length := by omega
    rw [List.take_length] at og ol'
    have ol2 := ol'
    obtain ⟨adl, cl, el, _⟩ := ol'.arrW (C := cx B0 old) en37_len
    subst el
    repeat (first | refine Z0 ?_ | (refine ZR ?_; first | refine x1 ?_ | refine x2 ?_ | refine x8 ?_ | refine Z1 ?_ | refine Z2 ?_ | refine x3 fun _ => ?_ | refine x4 fun _ => ?_ | refine x5 fun _ => ?_ | refine Z3 fun _ => ?_ | refine Z4 fun _ => ?_) | refine ZC ?_)
    exact re_1 rfl rfl (by exact drop_auto) (hQ _ _ _ _ og ol2)
  have hi' : i < L.length := by omega
  have hx := List.getElem?_eq_getElem hi'
  have htk : L.take (i + 1) = L.take i ++ [L[i]] := by rw [List.take_add_one, hx]; rfl
  generalize L[i] = x at *
  obtain ⟨b1, o1, e1, hL0⟩ := haw.ldW 37 hx rfl (sz rfl)
  subst e1
  obtain ⟨b2, o2, e2, hL1⟩ := hb.ld1 4 (i := i) (a := p x) (by rw [List.getElem?_map, hx]; rfl) rfl rfl (sz rfl)
  subst e2
  unfold en37 at hL0
  repeat (first | refine Z0 ?_ | (refine ZR ?_; first | refine x1 ?_ | refine x2 ?_ | refine x8 ?_ | refine Z1 ?_ | refine Z2 ?_ | refine x3 fun _ => ?_ | refine x4 fun _ => ?_ | refine x5 fun _ => ?_ | refine Z3 fun _ => ?_ | refine Z4 fun _ => ?_) | refine ZC ?_)
  cases hp : p x
  · rw [hp] at hL1
    repeat (first | refine Z0 ?_ | (refine ZR ?_; first | refine x1 ?_ | refine x2 ?_ | refine x8 ?_ | refine Z1 ?_ | refine Z2 ?_ | refine x3 fun _ => ?_ | refine x4 fun _ => ?_ | refine x5 fun _ => ?_ | refine Z3 fun _ => ?_ | refine Z4 fun _ => ?_) | refine ZC ?_)
    refine rt_step rfl rfl rfl (st_appP (M := [x]) (c := 1) (pre := _ :: _ :: Gg) ol' en37_len en37_one rfl rfl (ap rfl) (arrW_one en37_len hm0) (Nat.le_trans (Nat.mul_le_mul_right _ (sc_le _ (by omega))) (by decide)) fun v2 G2 o2' => ?_)
    repeat (first | refine Z0 ?_ | (refine ZR ?_; first | refine x1 ?_ | refine x2 ?_ | refine x8 ?_ | refine Z1 ?_ | refine Z2 ?_ | refine x3 fun _ => ?_ | refine x4 fun _ => ?_ | refine x5 fun _ => ?_ | refine Z3 fun _ => ?_ | refine Z4 fun _ => ?_) | refine ZC ?_)
    exact ⟨(i + 1, vg, Gg, v2, G2), ⟨by dsimp only; omega, by dsimp only; rw [htk, sc_no hp]; exact og, by dsimp only; rw [htk, sc_yes (by rw [hp]; rfl)]; exact o2'⟩, by dsimp only; omega, by repeat (first | exact SubL.nil | refine SubL.cons rfl ?_), List.Sublist.cons _ (List.Sublist.refl _)⟩
  · rw [hp] at hL1
    repeat (first | refine Z0 ?_ | (refine ZR ?_; first | refine x1 ?_ | refine x2 ?_ | refine x8 ?_ | refine Z1 ?_ | refine Z2 ?_ | refine x3 fun _ => ?_ | refine x4 fun _ => ?_ | refine x5 fun _ => ?_ | refine Z3 fun _ => ?_ | refine Z4 fun _ => ?_) | refine ZC ?_)
    refine rt_step rfl rfl rfl (st_appP (M := [x]) (c := 1) (pre := [_, _]) og en37_len en37_one rfl rfl (ap rfl) (arrW_one en37_len hm0) (Nat.le_trans (Nat.mul_le_mul_right _ (sc_le _ (by omega))) (by decide)) fun v2 G2 o2' => ?_)
    repeat (first | refine Z0 ?_ | (refine ZR ?_; first | refine x1 ?_ | refine x2 ?_ | refine x8 ?_ | refine Z1 ?_ | refine Z2 ?_ | refine x3 fun _ => ?_ | refine x4 fun _ => ?_ | refine x5 fun _ => ?_ | refine Z3 fun _ => ?_ | refine Z4 fun _ => ?_) | refine ZC ?_)
    exact ⟨(i + 1, v2, G2, vl, Gl), ⟨by dsimp only; omega, by dsimp only; rw [htk, sc_yes hp]; exact o2', by dsimp only; rw [htk, sc_no (by rw [hp]; rfl)]; exact ol'⟩, by dsimp only; omega, by repeat (first | exact SubL.nil | refine SubL.cons rfl ?_), List.Sublist.cons _ (List.Sublist.refl _)⟩
theorem sc_perm {a : Nat × AObj} {A B R : Hp} : (a :: (A ++ (B ++ R))).Perm (a :: (B ++ (A ++ R))) := List.Perm.cons _ (List.perm_append_comm_assoc _ _ _)
theorem sc_bl {L : List S37} {i : Nat} {p : S37 → Bool} {y : Bool} (h : i ≤ 2000) : 2 * (((L.take i).map p).length + [y].length) + 192 ≤ 6000 := by
  have h2 : ((L.take i).map p).length ≤ i := by rw [List.length_map, List.length_take]; omega
  have h3 : [y].length = 1 := rfl
  omega
theorem rdrop49_ct (ho : Own en37 6 L v G) (hL : L.length ≤ 2000) (seg : Int)
    (hQ : ∀ vg Gg vl Gl, Own en37 6 (L.filter (segP seg)) vg Gg → Own en37 6 (L.filter fun x => !segP seg x) vl Gl → Q vg ((q, .row [.int .i64 ol, vl] 2 false) :: (Gg ++ (Gl ++ H)))) :
    CallT (cx B0 old) (acall (cx B0 old) ansP (n + 2)) 49 [.pointer (some ⟨q, 0, none⟩), .int .i64 seg] ((q, .row [.int .i64 ol, v] 2 false) :: (G ++ H)) Q := by
  refine call_in2 32 rfl Try.func49 rfl rfl ?_
  obtain ⟨ad, c, ev, ga⟩ := ho.arrW (C := cx B0 old) en37_len
  subst ev
  have haw : Arr (cx B0 old) (G ++ H) ad 6 en37 L := (ga [] H).arr en37_len
  repeat (first | refine Z0 ?_ | (refine ZR ?_; first | refine x1 ?_ | refine x2 ?_ | refine x8 ?_ | refine Z1 ?_ | refine Z2 ?_ | refine x3 fun _ => ?_ | refine x4 fun _ => ?_ | refine x5 fun _ => ?_ | refine Z3 fun _ => ?_ | refine Z4 fun _ => ?_) | refine ZC ?_)
  refine loop_ind (ι := Nat × Value × Hp) (0, .slice none 0 0, []) (fun i => L.length - i.1) (fun i => i.1 ≤ L.length ∧ Own enB 1 ((L.take i.1).map (segP seg)) i.2.1 i.2.2)
    (fun i => [(6, .int .i64 (i.1 : Int)), (5, i.2.1), (0, .pointer (some ⟨q, 0, none⟩)), (1, .int .i64 seg)])
    (fun i => (q, .row [.int .i64 ol, .slice ad L.length c] 2 false) :: (i.2.2 ++ (G ++ H))) ⟨Nat.zero_le _, Own.nil⟩ (by repeat (first | exact SubL.nil | refine SubL.cons rfl ?_)) (List.Sublist.refl _) ?_
  rintro ⟨i, vb, Gb⟩ ⟨hi, ob⟩
  dsimp only at hi ob ⊢
  repeat (first | refine Z0 ?_ | (refine ZR ?_; first | refine x1 ?_ | refine x2 ?_ | refine x8 ?_ | refine Z1 ?_ | refine Z2 ?_ | refine x3 fun _ => ?_ | refine x4 fun _ => ?_ | refine x5 fun _ => ?_ | refine Z3 fun _ => ?_ | refine Z4 fun _ => ?_) | refine ZC ?_)
  refine ct_condT te_d rfl (fun hlt => ?_) (fun hlt => ?_)
  rotate_left
  · obtain rfl : i = L.length := by omega
    rw [List.take_length] at ob
    obtain ⟨adb, cb, eb, gb⟩ := ob.arrW (C := cx B0 old) enB_len
    rw [List.length_map] at eb
    subst eb
    repeat (first | refine Z0 ?_ | (refine ZR ?_; first | refine x1 ?_ | refine x2 ?_ | refine x8 ?_ | refine Z1 ?_ | refine Z2 ?_ | refine x3 fun _ => ?_ | refine x4 fun _ => ?_ | refine x5 fun _ => ?_ | refine Z3 fun _ => ?_ | refine Z4 fun _ => ?_) | refine ZC ?_)
    refine rt_step rfl rfl rfl (st_call rfl rfl rfl rfl (CallT.perm (rremove65_ct (p := segP seg) (H := Gb ++ H) ho ((gb [] H).arr enB_len) hL fun vg Gg vl Gl og ol' => ?_) sc_perm))
    obtain ⟨adg, cg, eg, _⟩ := id (og.arrW (C := cx B0 old) en37_len)
    repeat (first | refine Z0 ?_ | (refine ZR ?_; first | refine x1 ?_ | refine x2 ?_ | refine x8 ?_ | refine Z1 ?_ | refine Z2 ?_ | refine x3 fun _ => ?_ | refine x4 fun _ => ?_ | refine x5 fun _ => ?_ | refine Z3 fun _ => ?_ | refine Z4 fun _ => ?_) | refine ZC ?_)
    exact re_1 rfl rfl (by exact drop_auto) (hQ _ _ _ _ og ol')
  have hi' : i < L.length := by omega
  have hx := List.getElem?_eq_getElem hi'
  have htk : L.take (i + 1) = L.take i ++ [L[i]] := by rw [List.take_add_one, hx]; rfl
  generalize L[i] = x at *
  obtain ⟨b1, o1, e1, hL0⟩ := arr_ldR haw 3 1 hx rfl rfl rfl (sz rfl)
  subst e1
  repeat (first | refine Z0 ?_ | (refine ZR ?_; first | refine x1 ?_ | refine x2 ?_ | refine x8 ?_ | refine Z1 ?_ | refine Z2 ?_ | refine x3 fun _ => ?_ | refine x4 fun _ => ?_ | refine x5 fun _ => ?_ | refine Z3 fun _ => ?_ | refine Z4 fun _ => ?_) | refine ZC ?_)
  refine rt_step rfl rfl rfl (st_appP (M := [segP seg x]) (c := 1) (pre := [_, _]) ob enB_len enB_one rfl rfl (ap rfl) (arrW_one (a := segP seg x) enB_len hm0) (Nat.le_trans (Nat.mul_le_mul_right _ (sc_bl (by omega))) (by decide)) fun v2 G2 o2' => ?_)
  repeat (first | refine Z0 ?_ | (refine ZR ?_; first | refine x1 ?_ | refine x2 ?_ | refine x8 ?_ | refine Z1 ?_ | refine Z2 ?_ | refine x3 fun _ => ?_ | refine x4 fun _ => ?_ | refine x5 fun _ => ?_ | refine Z3 fun _ => ?_ | refine Z4 fun _ => ?_) | refine ZC ?_)
  exact ⟨(i + 1, v2, G2), ⟨by dsimp only; omega, by dsimp only; rw [htk, List.map_append]; exact o2'⟩, by dsimp only; omega, by repeat (first | exact SubL.nil | refine SubL.cons rfl ?_), List.Sublist.cons _ (List.Sublist.refl _)⟩
def keyP (bd mac : Int) (x : S37) : Bool := x.a0 == bd && x.a2 == mac
theorem keyP_k {bd mac : Int} {x : S37} : keyP bd mac x = true ↔ kOf x = ⟨bd, mac⟩ := by
  unfold keyP kOf
  rw [Bool.and_eq_true, beq_iff_eq, beq_iff_eq]
  constructor
  · rintro ⟨h1, h2⟩; rw [h1, h2]
  · intro h; injection h with h1 h2; exact ⟨h1, h2⟩
theorem keyP_rm (bd mac : Int) (L : List S37) : (L.filter fun x => !keyP bd mac x) = rmN ⟨bd, mac⟩ L := by
  unfold rmN
  refine List.filter_congr fun x _ => ?_
  have := keyP_k (bd := bd) (mac := mac) (x := x)
  by_cases h : kOf x = ⟨bd, mac⟩
  · rw [this.2 h]; simp [h]
  · have : keyP bd mac x = false := by
      cases e : keyP bd mac x
      · rfl
      · exact absurd (this.1 e) h
    rw [this]; simp [h]
theorem keyP_some (bd mac : Int) (L : List S37) : decide (((L.filter (keyP bd mac)).length : Int) > 0) = (findN L ⟨bd, mac⟩).isSome := by
  cases h : findN L ⟨bd, mac⟩ with
  | none =>
    have e : L.filter (keyP bd mac) = [] := by
      rw [List.filter_eq_nil_iff]
      intro x hx g
      have := List.find?_eq_none.1 h x hx
      exact this (decide_eq_true (keyP_k.1 g))
    rw [e]
    rfl
  | some x =>
    unfold findN at h
    have hd := List.find?_some h
    have hk : kOf x = ⟨bd, mac⟩ := by simpa using hd
    have hx : x ∈ L.filter (keyP bd mac) := List.mem_filter.2 ⟨List.mem_of_find?_eq_some h, keyP_k.2 hk⟩
    have := List.length_pos_of_mem hx
    show decide _ = true
    exact decide_eq_true (by omega)
theorem rrem50_ct (ho : Own en37 6 L v G) (hL : L.length ≤ 2000) (bd mac : Int)
    (hQ : ∀ vl Gl, Own en37 6 (rmN ⟨bd, mac⟩ L) vl Gl → Q (.bool (findN L ⟨bd, mac⟩).isSome) ((q, .row [.int .i64 ol, vl] 2 false) :: (Gl ++ H))) :
    CallT (cx B0 old) (acall (cx B0 old) ansP (n + 2)) 50 [.pointer (some ⟨q, 0, none⟩), .int .i64 bd, .int .u64 mac] ((q, .row [.int .i64 ol, v] 2 false) :: (G ++ H)) Q := by
  refine call_in3 48 rfl Try.func50 rfl rfl ?_
  obtain ⟨ad, c, ev, ga⟩ := ho.arrW (C := cx B0 old) en37_len
  subst ev
  have haw : Arr (cx B0 old) (G ++ H) ad 6 en37 L := (ga [] H).arr en37_len
  repeat (first | refine Z0 ?_ | (refine ZR ?_; first | refine x1 ?_ | refine x2 ?_ | refine x8 ?_ | refine Z1 ?_ | refine Z2 ?_ | refine x3 fun _ => ?_ | refine x4 fun _ => ?_ | refine x5 fun _ => ?_ | refine Z3 fun _ => ?_ | refine Z4 fun _ => ?_) | refine ZC ?_)
  refine loop_ind (ι := Nat × Value × Hp) (0, .slice none 0 0, []) (fun i => L.length - i.1) (fun i => i.1 ≤ L.length ∧ Own enB 1 ((L.take i.1).map (keyP bd mac)) i.2.1 i.2.2)
    (fun i => [(8, .int .i64 (i.1 : Int)), (7, i.2.1), (0, .pointer (some ⟨q, 0, none⟩)), (1, .int .i64 bd), (2, .int .u64 mac)])
    (fun i => (q, .row [.int .i64 ol, .slice ad L.length c] 2 false) :: (i.2.2 ++ (G ++ H))) ⟨Nat.zero_le _, Own.nil⟩ (by repeat (first | exact SubL.nil | refine SubL.cons rfl ?_)) (List.Sublist.refl _) ?_
  rintro ⟨i, vb, Gb⟩ ⟨hi, ob⟩
  dsimp only at hi ob ⊢
  repeat (first | refine Z0 ?_ | (refine ZR ?_; first | refine x1 ?_ | refine x2 ?_ | refine x8 ?_ | refine Z1 ?_ | refine Z2 ?_ | refine x3 fun _ => ?_ | refine x4 fun _ => ?_ | refine x5 fun _ => ?_ | refine Z3 fun _ => ?_ | refine Z4 fun _ => ?_) | refine ZC ?_)
  refine ct_condT te_d rfl (fun hlt => ?_) (fun hlt => ?_)
  rotate_left
  · obtain rfl : i = L.length := by omega
    rw [List.take_length] at ob
    obtain ⟨adb, cb, eb, gb⟩ := ob.arrW (C := cx B0 old) enB_len
    rw [List.length_map] at eb
    subst eb
    repeat (first | refine Z0 ?_ | (refine ZR ?_; first | refine x1 ?_ | refine x2 ?_ | refine x8 ?_ | refine Z1 ?_ | refine Z2 ?_ | refine x3 fun _ => ?_ | refine x4 fun _ => ?_ | refine x5 fun _ => ?_ | refine Z3 fun _ => ?_ | refine Z4 fun _ => ?_) | refine ZC ?_)
    refine rt_step rfl rfl rfl (st_call rfl rfl rfl rfl (CallT.perm (rremove65_ct (p := keyP bd mac) (H := Gb ++ H) ho ((gb [] H).arr enB_len) hL fun vg Gg vl Gl og ol' => ?_) sc_perm))
    obtain ⟨adg, cg, eg, _⟩ := og.arrW (C := cx B0 old) en37_len
    subst eg
    rw [keyP_rm] at ol'
    repeat (first | refine Z0 ?_ | (refine ZR ?_; first | refine x1 ?_ | refine x2 ?_ | refine x8 ?_ | refine Z1 ?_ | refine Z2 ?_ | refine x3 fun _ => ?_ | refine x4 fun _ => ?_ | refine x5 fun _ => ?_ | refine Z3 fun _ => ?_ | refine Z4 fun _ => ?_) | refine ZC ?_)
    rw [keyP_some]
    exact re_1 rfl rfl (by exact drop_auto) (hQ _ _ ol')
  have hi' : i < L.length := by omega
  have hx := List.getElem?_eq_getElem hi'
  have htk : L.take (i + 1) = L.take i ++ [L[i]] := by rw [List.take_add_one, hx]; rfl
  generalize L[i] = x at *
  obtain ⟨b1, o1, e1, hL0⟩ := arr_ldR haw 3 0 hx rfl rfl rfl (sz rfl)
  subst e1
  obtain ⟨b2, o2, e2, hL1⟩ := arr_ldR haw 33 2 hx rfl rfl rfl (sz rfl)
  cases e2
  repeat (first | refine Z0 ?_ | (refine ZR ?_; first | refine x1 ?_ | refine x2 ?_ | refine x8 ?_ | refine Z1 ?_ | refine Z2 ?_ | refine x3 fun _ => ?_ | refine x4 fun _ => ?_ | refine x5 fun _ => ?_ | refine Z3 fun _ => ?_ | refine Z4 fun _ => ?_) | refine ZC ?_)
  by_cases h0 : x.a0 = bd
  · have hk : keyP bd mac x = (x.a2 == mac) := by unfold keyP; simp [h0]
    rw [show (x.a0 == bd) = true by simp [h0]]
    repeat (first | refine Z0 ?_ | (refine ZR ?_; first | refine x1 ?_ | refine x2 ?_ | refine x8 ?_ | refine Z1 ?_ | refine Z2 ?_ | refine x3 fun _ => ?_ | refine x4 fun _ => ?_ | refine x5 fun _ => ?_ | refine Z3 fun _ => ?_ | refine Z4 fun _ => ?_) | refine ZC ?_)
    refine rt_step rfl rfl rfl (st_appP (M := [keyP bd mac x]) (c := 1) (pre := [_, _]) ob enB_len enB_one rfl rfl (ap rfl) (arrW_one (a := keyP bd mac x) enB_len (by rw [hk]; exact hm0)) (Nat.le_trans (Nat.mul_le_mul_right _ (sc_bl (by omega))) (by decide)) fun v2 G2 o2' => ?_)
    repeat (first | refine Z0 ?_ | (refine ZR ?_; first | refine x1 ?_ | refine x2 ?_ | refine x8 ?_ | refine Z1 ?_ | refine Z2 ?_ | refine x3 fun _ => ?_ | refine x4 fun _ => ?_ | refine x5 fun _ => ?_ | refine Z3 fun _ => ?_ | refine Z4 fun _ => ?_) | refine ZC ?_)
    exact ⟨(i + 1, v2, G2), ⟨by dsimp only; omega, by dsimp only; rw [htk, List.map_append]; exact o2'⟩, by dsimp only; omega, by repeat (first | exact SubL.nil | refine SubL.cons rfl ?_), List.Sublist.cons _ (List.Sublist.refl _)⟩
  · have hk : keyP bd mac x = false := by unfold keyP; simp [h0]
    rw [show (x.a0 == bd) = false by simpa using h0]
    repeat (first | refine Z0 ?_ | (refine ZR ?_; first | refine x1 ?_ | refine x2 ?_ | refine x8 ?_ | refine Z1 ?_ | refine Z2 ?_ | refine x3 fun _ => ?_ | refine x4 fun _ => ?_ | refine x5 fun _ => ?_ | refine Z3 fun _ => ?_ | refine Z4 fun _ => ?_) | refine ZC ?_)
    refine rt_step rfl rfl rfl (st_appP (M := [keyP bd mac x]) (c := 1) (pre := [_, _]) ob enB_len enB_one rfl rfl (ap rfl) (arrW_one (a := keyP bd mac x) enB_len (by rw [hk]; exact hm0)) (Nat.le_trans (Nat.mul_le_mul_right _ (sc_bl (by omega))) (by decide)) fun v2 G2 o2' => ?_)
    repeat (first | refine Z0 ?_ | (refine ZR ?_; first | refine x1 ?_ | refine x2 ?_ | refine x8 ?_ | refine Z1 ?_ | refine Z2 ?_ | refine x3 fun _ => ?_ | refine x4 fun _ => ?_ | refine x5 fun _ => ?_ | refine Z3 fun _ => ?_ | refine Z4 fun _ => ?_) | refine ZC ?_)
    exact ⟨(i + 1, v2, G2), ⟨by dsimp only; omega, by dsimp only; rw [htk, List.map_append]; exact o2'⟩, by dsimp only; omega, by repeat (first | exact SubL.nil | refine SubL.cons rfl ?_), List.Sublist.cons _ (List.Sublist.refl _)⟩
theorem rage51_ct (ho : Own en37 6 L v G) (hL : L.length ≤ 2000) (hv : ∀ x ∈ L, okE x) (hol : 1 ≤ ol ∧ ol ≤ 1073741824) (now : Int) (hbad : now < 0 ∨ now > 1099511627776 → Q (.tuple #[.slice none 0 0, .int .i64 2]) ((q, .row [.int .i64 ol, v] 2 false) :: (G ++ H)))
    (hQ : 0 ≤ now ∧ now ≤ 1099511627776 → ∀ vg Gg vl Gl, Own en37 6 (L.filter (ageP now ol)) vg Gg → Own en37 6 (L.filter fun x => !ageP now ol x) vl Gl → Q (.tuple #[vg, .int .i64 0]) ((q, .row [.int .i64 ol, vl] 2 false) :: (Gg ++ (Gl ++ H)))) :
    CallT (cx B0 old) (acall (cx B0 old) ansP (n + 2)) 51 [.pointer (some ⟨q, 0, none⟩), .int .i64 now] ((q, .row [.int .i64 ol, v] 2 false) :: (G ++ H)) Q := by
  refine call_in2 44 rfl Try.func51 rfl rfl ?_
  obtain ⟨ad, c, ev, ga⟩ := ho.arrW (C := cx B0 old) en37_len
  subst ev
  have haw : Arr (cx B0 old) (G ++ H) ad 6 en37 L := (ga [] H).arr en37_len
  repeat (first | refine Z0 ?_ | (refine ZR ?_; first | refine x1 ?_ | refine x2 ?_ | refine x8 ?_ | refine Z1 ?_ | refine Z2 ?_ | refine x3 fun _ => ?_ | refine x4 fun _ => ?_ | refine x5 fun _ => ?_ | refine Z3 fun _ => ?_ | refine Z4 fun _ => ?_) | refine ZC ?_)
  by_cases h1 : now < 0
  · rw [show decide (now < 0) = true from decide_eq_true h1]
    repeat (first | refine Z0 ?_ | (refine ZR ?_; first | refine x1 ?_ | refine x2 ?_ | refine x8 ?_ | refine Z1 ?_ | refine Z2 ?_ | refine x3 fun _ => ?_ | refine x4 fun _ => ?_ | refine x5 fun _ => ?_ | refine Z3 fun _ => ?_ | refine Z4 fun _ => ?_) | refine ZC ?_)
    exact re_2 rfl rfl rfl (List.Sublist.refl _) (hbad (.inl h1))
  rw [show decide (now < 0) = false from decide_eq_false h1]
  repeat (first | refine Z0 ?_ | (refine ZR ?_; first | refine x1 ?_ | refine x2 ?_ | refine x8 ?_ | refine Z1 ?_ | refine Z2 ?_ | refine x3 fun _ => ?_ | refine x4 fun _ => ?_ | refine x5 fun _ => ?_ | refine Z3 fun _ => ?_ | refine Z4 fun _ => ?_) | refine ZC ?_)
  refine ct_condT te_d rfl (fun h2 => ?_) (fun h2 => ?_)
  · repeat (first | refine Z0 ?_ | (refine ZR ?_; first | refine x1 ?_ | refine x2 ?_ | refine x8 ?_ | refine Z1 ?_ | refine Z2 ?_ | refine x3 fun _ => ?_ | refine x4 fun _ => ?_ | refine x5 fun _ => ?_ | refine Z3 fun _ => ?_ | refine Z4 fun _ => ?_) | refine ZC ?_)
    exact re_2 rfl rfl rfl (List.Sublist.refl _) (hbad (.inr h2))
  repeat (first | refine Z0 ?_ | (refine ZR ?_; first | refine x1 ?_ | refine x2 ?_ | refine x8 ?_ | refine Z1 ?_ | refine Z2 ?_ | refine x3 fun _ => ?_ | refine x4 fun _ => ?_ | refine x5 fun _ => ?_ | refine Z3 fun _ => ?_ | refine Z4 fun _ => ?_) | refine ZC ?_)
  refine loop_ind (ι := Nat × Value × Hp) (0, .slice none 0 0, []) (fun i => L.length - i.1) (fun i => i.1 ≤ L.length ∧ Own enB 1 ((L.take i.1).map (ageP now ol)) i.2.1 i.2.2)
    (fun i => [(7, .int .i64 (i.1 : Int)), (6, i.2.1), (0, .pointer (some ⟨q, 0, none⟩)), (1, .int .i64 now)])
    (fun i => (q, .row [.int .i64 ol, .slice ad L.length c] 2 false) :: (i.2.2 ++ (G ++ H))) ⟨Nat.zero_le _, Own.nil⟩ (by repeat (first | exact SubL.nil | refine SubL.cons rfl ?_)) (List.Sublist.refl _) ?_
  rintro ⟨i, vb, Gb⟩ ⟨hi, ob⟩
  dsimp only at hi ob ⊢
  repeat (first | refine Z0 ?_ | (refine ZR ?_; first | refine x1 ?_ | refine x2 ?_ | refine x8 ?_ | refine Z1 ?_ | refine Z2 ?_ | refine x3 fun _ => ?_ | refine x4 fun _ => ?_ | refine x5 fun _ => ?_ | refine Z3 fun _ => ?_ | refine Z4 fun _ => ?_) | refine ZC ?_)
  refine ct_condT te_d rfl (fun hlt => ?_) (fun hlt => ?_)
  rotate_left
  · obtain rfl : i = L.length := by omega
    rw [List.take_length] at ob
    obtain ⟨adb, cb, eb, gb⟩ := ob.arrW (C := cx B0 old) enB_len
    rw [List.length_map] at eb
    subst eb
    repeat (first | refine Z0 ?_ | (refine ZR ?_; first | refine x1 ?_ | refine x2 ?_ | refine x8 ?_ | refine Z1 ?_ | refine Z2 ?_ | refine x3 fun _ => ?_ | refine x4 fun _ => ?_ | refine x5 fun _ => ?_ | refine Z3 fun _ => ?_ | refine Z4 fun _ => ?_) | refine ZC ?_)
    refine rt_step rfl rfl rfl (st_call rfl rfl rfl rfl (CallT.perm (rremove65_ct (p := ageP now ol) (H := Gb ++ H) ho ((gb [] H).arr enB_len) hL fun vg Gg vl Gl og ol' => ?_) sc_perm))
    repeat (first | refine Z0 ?_ | (refine ZR ?_; first | refine x1 ?_ | refine x2 ?_ | refine x8 ?_ | refine Z1 ?_ | refine Z2 ?_ | refine x3 fun _ => ?_ | refine x4 fun _ => ?_ | refine x5 fun _ => ?_ | refine Z3 fun _ => ?_ | refine Z4 fun _ => ?_) | refine ZC ?_)
    exact re_2 rfl rfl rfl (by exact drop_auto) (hQ ⟨by omega, by omega⟩ _ _ _ _ og ol')
  have hi' : i < L.length := by omega
  have hx := List.getElem?_eq_getElem hi'
  have htk : L.take (i + 1) = L.take i ++ [L[i]] := by rw [List.take_add_one, hx]; rfl
  have hxt := (hv _ (List.getElem_mem hi')).time
  generalize L[i] = x at *
  obtain ⟨b1, o1, e1, hL0⟩ := arr_ldR haw 3 5 hx rfl rfl rfl (sz rfl)
  subst e1
  have hk : ageP now ol x = decide (now ≥ x.a5 + ol) := by unfold ageP; rw [decide_eq_decide]; omega
  repeat (first | refine Z0 ?_ | (refine ZR ?_; first | refine x1 ?_ | refine x2 ?_ | refine x8 ?_ | refine Z1 ?_ | refine Z2 ?_ | refine x3 fun _ => ?_ | refine x4 fun _ => ?_ | refine x5 fun _ => ?_ | refine Z3 fun _ => ?_ | refine Z4 fun _ => ?_) | refine ZC ?_)
  refine ct_draw (masks := [0, 0, 0, 4, 12, 28, 0, 124, 252, 508, 0, 1024, 3072, 7168, 16380, 32766, 65534, 131071, 262143]) (plan := [0, 1, 2, 3, 4, 5, 6, 7, 8, 9, 10, 11, 12, 13, 14, 15, 16, 17, 18]) (E := []) (by kernel_rfl) (by kernel_rfl) (by kernel_rfl) (by kernel_rfl) ?_
  repeat (first | refine Y0 ?_ | (refine YP ?_; first | refine y1 ?_ | refine y2 ?_ | refine Y1 ?_ | refine Y2 ?_))
  refine pl_S rfl rfl rfl rfl rfl rfl (st_buildSlice rfl (zr rfl) rfl rfl rfl rfl rfl rfl fun bs => ⟨by exact rec_auto, ?_⟩)
  repeat (first | refine Y0 ?_ | (refine YP ?_; first | refine y1 ?_ | refine y2 ?_ | refine Y1 ?_ | refine Y2 ?_))
  refine pl_S rfl rfl rfl rfl rfl rfl (st_appP (M := [ageP now ol x]) (c := 1) (pre := [_, _]) ob enB_len enB_one rfl rfl (ap rfl) (arrW_one (a := ageP now ol x) enB_len (by rw [hk]; exact hm0)) (Nat.le_trans (Nat.mul_le_mul_right _ (sc_bl (by omega))) (by decide)) fun v2 G2 o2' => ⟨by exact rec_auto, ?_⟩)
  repeat (first | refine Y0 ?_ | (refine YP ?_; first | refine y1 ?_ | refine y2 ?_ | refine Y1 ?_ | refine Y2 ?_))
  repeat (first | refine Z0 ?_ | (refine ZR ?_; first | refine x1 ?_ | refine x2 ?_ | refine x8 ?_ | refine Z1 ?_ | refine Z2 ?_ | refine x3 fun _ => ?_ | refine x4 fun _ => ?_ | refine x5 fun _ => ?_ | refine Z3 fun _ => ?_ | refine Z4 fun _ => ?_) | refine ZC ?_)
  exact ⟨(i + 1, v2, G2), ⟨by dsimp only; omega, by dsimp only; rw [htk, List.map_append]; exact o2'⟩, by dsimp only; omega, by repeat (first | exact SubL.nil | refine SubL.cons rfl ?_), List.Sublist.cons _ (List.Sublist.refl _)⟩
theorem rcopy30_ct {ad : Option Addr} {c : Nat} (hq : (q, AObj.row [.int .i64 ol, .slice ad L.length c] 2 false) ∈ H) (ha : ArrW (cx B0 old) H ad 6 en37 L) (hL : L.length ≤ 2000)
    (hQ : ∀ q2 v2 G2, Own en37 6 L v2 G2 → Q (.pointer (some ⟨q2, 0, none⟩)) ((q2, .row [.int .i64 ol, v2] 2 false) :: (G2 ++ H))) :
    CallT (cx B0 old) (acall (cx B0 old) ansP (n + 1)) 30 [.pointer (some ⟨q, 0, none⟩)] H Q := by
  refine call_in1 15 rfl Try.func30 rfl rfl ?_
  have hL0 := row_ld (C := cx B0 old) (off := 1) hq 22 rfl rfl (sz rfl)
  have hL1 := row_ld (C := cx B0 old) (off := 0) hq 3 rfl rfl (sz rfl)
  repeat (first | refine Z0 ?_ | (refine ZR ?_; first | refine x1 ?_ | refine x2 ?_ | refine x8 ?_ | refine Z1 ?_ | refine Z2 ?_ | refine x3 fun _ => ?_ | refine x4 fun _ => ?_ | refine x5 fun _ => ?_ | refine Z3 fun _ => ?_ | refine Z4 fun _ => ?_) | refine ZC ?_)
  refine ct_draw (masks := [0, 1, 3, 7, 0, 0, 32, 96, 224, 496, 1023, 2047, 4095]) (plan := [0, 1, 2, 3, 5, 6, 7, 8, 4, 9, 10, 11, 12]) (E := []) (by kernel_rfl) (by kernel_rfl) (by kernel_rfl) (by kernel_rfl) ?_
  repeat (first | refine Y0 ?_ | (refine YP ?_; first | refine y1 ?_ | refine y2 ?_ | refine Y1 ?_ | refine Y2 ?_))
  refine pl_S rfl rfl rfl rfl rfl rfl (st_buildSlice rfl (zr rfl) rfl rfl rfl rfl rfl rfl fun b0 => ⟨by exact rec_auto, ?_⟩)
  repeat (first | refine Y0 ?_ | (refine YP ?_; first | refine y1 ?_ | refine y2 ?_ | refine Y1 ?_ | refine Y2 ?_))
  refine pl_S rfl rfl rfl rfl rfl rfl (st_appO (M := L) (c := c) (pre := []) (Hs := [_]) (Own.emp _ _) en37_len en37_one rfl rfl (ap rfl) (ha.weak (List.sublist_cons_self _ _)) (Nat.le_trans (Nat.mul_le_mul_right _ (show 2 * (([] : List S37).length + L.length) + 192 ≤ 6000 by rw [List.length_nil]; omega)) (by decide)) fun v3 H3 ho3 => ⟨by exact rec_auto, ?_⟩)
  rw [List.nil_append] at ho3
  obtain ⟨ad5, c5, e5, _⟩ := id (ho3.arrW (C := cx B0 old) en37_len)
  subst e5
  repeat (first | refine Y0 ?_ | (refine YP ?_; first | refine y1 ?_ | refine y2 ?_ | refine Y1 ?_ | refine Y2 ?_))
  refine pl_S rfl rfl rfl rfl rfl rfl (st_box rfl (sz rfl) rfl rfl fun q2 => ⟨by exact rec_auto, ?_⟩)
  repeat (first | refine Y0 ?_ | (refine YP ?_; first | refine y1 ?_ | refine y2 ?_ | refine Y1 ?_ | refine Y2 ?_))
  repeat (first | refine Z0 ?_ | (refine ZR ?_; first | refine x1 ?_ | refine x2 ?_ | refine x8 ?_ | refine Z1 ?_ | refine Z2 ?_ | refine x3 fun _ => ?_ | refine x4 fun _ => ?_ | refine x5 fun _ => ?_ | refine Z3 fun _ => ?_ | refine Z4 fun _ => ?_) | refine ZC ?_)
  exact re_1 rfl rfl (List.Sublist.refl _) (hQ _ _ _ ho3)
end
end Go.Proofs.Ytojnbjandkbkmaa.Abs

/- One act on both tables. -/
namespace Go.Proofs.Ytojnbjandkbkmaa.Abs
open Go
set_option linter.unusedVariables false
structure S62 where
  k : Int
  e : S37
  f : Bool
def en62 (x : S62) : List Value := [.int .i64 x.k, .int .i64 x.e.a0, .int .i64 x.e.a1, .int .u64 x.e.a2, .int .u32 x.e.a3, .bool x.e.a4, .int .i64 x.e.a5, .bool x.f]
theorem en62_len (x : S62) : (en62 x).length = 8 := rfl
def S62.wf (x : S62) : Prop := (-9223372036854775808 ≤ x.k ∧ x.k ≤ 9223372036854775807) ∧ x.e.wf
theorem cut_sub {cs r : List Value} {a w f n : Nat} (h : cut cs a w = some r) (hf : f + n ≤ w) : cut cs (a + f) n = some ((r.drop f).take n) := by
  unfold cut at h ⊢
  simp only at h ⊢
  split at h
  · rename_i e
    cases h
    have e := Nat.eq_of_beq_eq_true e
    have e2 : (((cs.drop a).take w).drop f).take n = (cs.drop (a + f)).take n := by
      rw [List.drop_take, List.take_take, List.drop_drop, Nat.min_eq_left (by omega)]
    have hl : ((cs.drop (a + f)).take n).length = n := by rw [← e2, List.length_take, List.length_drop, e]; omega
    rw [e2, hl]
    have : Nat.beq n n = true := Nat.beq_refl n
    rw [this]
  · cases h
theorem arr_ldF8 {α : Type} {C : Ctx} {H : Hp} {ad : Option Addr} {w i : Nat} {en : α → List Value} {L : List α} {a : α} (h : Arr C H ad w en L) (t : TypeId) (f : Nat) {v : Value} (hi : L[i]? = some a) (hv : (en a)[f]? = some v) (hf : Nat.blt f w = true) (hg : aggAt C t = some false) {n : Nat} (hn : sizeAt C t = some n) : ∃ b o, ad = some ⟨b, o, none⟩ ∧ ∀ H', H.Sublist H' → LdT C t H' b (o + i * w + f) v := by
  obtain ⟨b, o, e, h1⟩ := h.fld hi
  refine ⟨b, o, e, fun H' hs => ?_⟩
  unfold LdT
  exact fun l y hy => h1 f n v t H' l y hs hv (Nat.le_of_ble_eq_true hf) hg hn hy
theorem arr_ldS {α : Type} {C : Ctx} {H : Hp} {ad : Option Addr} {w i : Nat} {en : α → List Value} {L : List α} {a : α} (h : Arr C H ad w en L) (t : TypeId) (f n : Nat) {r : List Value} (hi : L[i]? = some a) (hv : ((en a).drop f).take n = r) (hf : Nat.ble (f + n) w = true) (hg : aggAt C t = some true) (hn : sizeAt C t = some n) :
    ∃ b o, ad = some ⟨b, o, none⟩ ∧ ∀ H', H.Sublist H' → LdT C t H' b (o + i * w + f) (.agg ⟨r⟩) := by
  obtain ⟨b, o, cs, h1, h2, h3⟩ := h.els i a hi
  refine ⟨b, o, h1, fun H' hs => ?_⟩
  unfold LdT
  exact fun l y hy => rd_loadP hy (h2.weak hs) hg hn (by rw [← hv]; exact cut_sub h3 (Nat.le_of_ble_eq_true hf))
theorem sc_q {t u : Nat × AObj} {A B R H : Hp} : (u :: (R ++ (A ++ (B ++ (t :: H))))).Perm (A ++ (B ++ (t :: u :: (R ++ H)))) := by
  have := mn_b (t := t) (u := u) (G := A ++ B) (R := R) (H := H)
  simpa only [List.append_assoc] using this
section
variable {B0 : Nat} {old : Nat → Option (List Value)} {n : Nat} {H G Gr : Hp} {Q : Value → Hp → Prop} {v : Value} {age : Int} {L : List S37} {p q : Nat}
set_option maxRecDepth 10000
set_option maxHeartbeats 8000000
theorem does31_ct (hT : TbP (.pointer (some ⟨p, 0, none⟩)) age L G) (ho : Own en37 6 L v Gr) (hL : L.length ≤ 1000) (hage : 1 ≤ age ∧ age ≤ 1073741824) (x : S62) (hx : x.wf) (kd : Int)
    (hQ : ∀ L' G' v' Gr', TbP (.pointer (some ⟨p, 0, none⟩)) age L' G' → Own en37 6 L' v' Gr' → L'.length ≤ L.length + 1 → Q (.bool true) ((q, .row [.int .i64 age, v'] 2 false) :: (Gr' ++ (G' ++ H)))) :
    CallT (cx B0 old) (acall (cx B0 old) ansP (n + 1518)) 31 [.pointer (some ⟨p, 0, none⟩), .pointer (some ⟨q, 0, none⟩), .agg ⟨en62 x⟩, .int .i64 kd] ((q, .row [.int .i64 age, v] 2 false) :: (Gr ++ (G ++ H))) Q := by
  refine call_in4 122 rfl Try.func31 rfl rfl ?_
  unfold en62
  repeat (first | refine Z0 ?_ | (refine ZR ?_; first | refine x1 ?_ | refine x2 ?_ | refine x8 ?_ | refine Z1 ?_ | refine Z2 ?_ | refine x3 fun _ => ?_ | refine x4 fun _ => ?_ | refine x5 fun _ => ?_ | refine Z3 fun _ => ?_ | refine Z4 fun _ => ?_) | refine ZC ?_)
  rename_i t6
  have hlf : ∀ f : S37 → Bool, (L.filter f).length ≤ L.length := fun f => List.length_filter_le f L
  by_cases h4 : kd = 4
  · rw [show (kd == 4) = true by simp [h4]]
    repeat (first | refine Z0 ?_ | (refine ZR ?_; first | refine x1 ?_ | refine x2 ?_ | refine x8 ?_ | refine Z1 ?_ | refine Z2 ?_ | refine x3 fun _ => ?_ | refine x4 fun _ => ?_ | refine x5 fun _ => ?_ | refine Z3 fun _ => ?_ | refine Z4 fun _ => ?_) | refine ZC ?_)
    refine rt_step rfl rfl rfl (st_call rfl rfl rfl rfl (CallT.perm (dropW (n := n) hT (by omega) x.e.a1 fun w Ga G' hT' oa => ?_) mn_a))
    obtain ⟨ada, ca, ea, ga⟩ := oa.arrW (C := cx B0 old) en37_len
    subst ea
    repeat (first | refine Z0 ?_ | (refine ZR ?_; first | refine x1 ?_ | refine x2 ?_ | refine x8 ?_ | refine Z1 ?_ | refine Z2 ?_ | refine x3 fun _ => ?_ | refine x4 fun _ => ?_ | refine x5 fun _ => ?_ | refine Z3 fun _ => ?_ | refine Z4 fun _ => ?_) | refine ZC ?_)
    refine rt_step rfl rfl rfl (st_call rfl rfl rfl rfl (CallT.perm (rdrop49_ct (n := n + 1515) (ol := age) ho (by omega) x.e.a1 fun vg Gg vl Gl og ol' => ?_) sc_q))
    obtain ⟨adg, cg, eg, gg⟩ := og.arrW (C := cx B0 old) en37_len
    subst eg
    repeat (first | refine Z0 ?_ | (refine ZR ?_; first | refine x1 ?_ | refine x2 ?_ | refine x8 ?_ | refine Z1 ?_ | refine Z2 ?_ | refine x3 fun _ => ?_ | refine x4 fun _ => ?_ | refine x5 fun _ => ?_ | refine Z3 fun _ => ?_ | refine Z4 fun _ => ?_) | refine ZC ?_)
    refine rt_step rfl rfl rfl (st_call rfl rfl rfl rfl (same18_ct (((ga [] _).arr en37_len).weak (by exact drop_auto)) (((gg [] _).arr en37_len).weak (by exact drop_auto)) (by have := hlf (segP x.e.a1); omega) ?_))
    repeat (first | refine Z0 ?_ | (refine ZR ?_; first | refine x1 ?_ | refine x2 ?_ | refine x8 ?_ | refine Z1 ?_ | refine Z2 ?_ | refine x3 fun _ => ?_ | refine x4 fun _ => ?_ | refine x5 fun _ => ?_ | refine Z3 fun _ => ?_ | refine Z4 fun _ => ?_) | refine ZC ?_)
    exact re_1 rfl rfl (by exact drop_auto) (hQ _ G' vl Gl hT' ol' (Nat.le_succ_of_le (hlf _)))
  rw [show (kd == 4) = false by simpa using h4]
  repeat (first | refine Z0 ?_ | (refine ZR ?_; first | refine x1 ?_ | refine x2 ?_ | refine x8 ?_ | refine Z1 ?_ | refine Z2 ?_ | refine x3 fun _ => ?_ | refine x4 fun _ => ?_ | refine x5 fun _ => ?_ | refine Z3 fun _ => ?_ | refine Z4 fun _ => ?_) | refine ZC ?_)
  by_cases h5 : kd = 5
  · rw [show (kd == 5) = true by simp [h5]]
    repeat (first | refine Z0 ?_ | (refine ZR ?_; first | refine x1 ?_ | refine x2 ?_ | refine x8 ?_ | refine Z1 ?_ | refine Z2 ?_ | refine x3 fun _ => ?_ | refine x4 fun _ => ?_ | refine x5 fun _ => ?_ | refine Z3 fun _ => ?_ | refine Z4 fun _ => ?_) | refine ZC ?_)
    refine rt_step rfl rfl rfl (st_call rfl rfl rfl rfl (CallT.perm (remW (n := n + 1515) hT x.e.a0 x.e.a2 fun G' hT' => ?_) mn_a))
    repeat (first | refine Z0 ?_ | (refine ZR ?_; first | refine x1 ?_ | refine x2 ?_ | refine x8 ?_ | refine Z1 ?_ | refine Z2 ?_ | refine x3 fun _ => ?_ | refine x4 fun _ => ?_ | refine x5 fun _ => ?_ | refine Z3 fun _ => ?_ | refine Z4 fun _ => ?_) | refine ZC ?_)
    refine rt_step rfl rfl rfl (st_call rfl rfl rfl rfl (CallT.perm (rrem50_ct (n := n + 1515) (ol := age) ho (by omega) x.e.a0 x.e.a2 fun vl Gl ol' => ?_) mn_b))
    repeat (first | refine Z0 ?_ | (refine ZR ?_; first | refine x1 ?_ | refine x2 ?_ | refine x8 ?_ | refine Z1 ?_ | refine Z2 ?_ | refine x3 fun _ => ?_ | refine x4 fun _ => ?_ | refine x5 fun _ => ?_ | refine Z3 fun _ => ?_ | refine Z4 fun _ => ?_) | refine ZC ?_)
    rw [show ((findN L ⟨x.e.a0, x.e.a2⟩).isSome == (findN L ⟨x.e.a0, x.e.a2⟩).isSome) = true by simp]
    repeat (first | refine Z0 ?_ | (refine ZR ?_; first | refine x1 ?_ | refine x2 ?_ | refine x8 ?_ | refine Z1 ?_ | refine Z2 ?_ | refine x3 fun _ => ?_ | refine x4 fun _ => ?_ | refine x5 fun _ => ?_ | refine Z3 fun _ => ?_ | refine Z4 fun _ => ?_) | refine ZC ?_)
    exact re_1 rfl rfl (by exact drop_auto) (hQ _ G' vl Gl hT' ol' (Nat.le_succ_of_le (hlf _)))
  rw [show (kd == 5) = false by simpa using h5]
  repeat (first | refine Z0 ?_ | (refine ZR ?_; first | refine x1 ?_ | refine x2 ?_ | refine x8 ?_ | refine Z1 ?_ | refine Z2 ?_ | refine x3 fun _ => ?_ | refine x4 fun _ => ?_ | refine x5 fun _ => ?_ | refine Z3 fun _ => ?_ | refine Z4 fun _ => ?_) | refine ZC ?_)
  by_cases h6 : kd = 6
  · rw [show (kd == 6) = true by simp [h6]]
    repeat (first | refine Z0 ?_ | (refine ZR ?_; first | refine x1 ?_ | refine x2 ?_ | refine x8 ?_ | refine Z1 ?_ | refine Z2 ?_ | refine x3 fun _ => ?_ | refine x4 fun _ => ?_ | refine x5 fun _ => ?_ | refine Z3 fun _ => ?_ | refine Z4 fun _ => ?_) | refine ZC ?_)
    refine rt_step rfl rfl rfl (st_call rfl rfl rfl rfl (CallT.perm (ageW (n := n) hT (by omega) x.e.a5 (fun hbad => ?_) fun hok w Ga G' hT' oa => ?_) mn_a))
    · repeat (first | refine Z0 ?_ | (refine ZR ?_; first | refine x1 ?_ | refine x2 ?_ | refine x8 ?_ | refine Z1 ?_ | refine Z2 ?_ | refine x3 fun _ => ?_ | refine x4 fun _ => ?_ | refine x5 fun _ => ?_ | refine Z3 fun _ => ?_ | refine Z4 fun _ => ?_) | refine ZC ?_)
      refine rt_step rfl rfl rfl (st_call rfl rfl rfl rfl (CallT.perm (rage51_ct (n := n + 1515) (ol := age) ho (by omega) hT.srt.2 hage x.e.a5 (fun _ => ?_) (fun hok => absurd hok (by omega))) mn_b))
      repeat (first | refine Z0 ?_ | (refine ZR ?_; first | refine x1 ?_ | refine x2 ?_ | refine x8 ?_ | refine Z1 ?_ | refine Z2 ?_ | refine x3 fun _ => ?_ | refine x4 fun _ => ?_ | refine x5 fun _ => ?_ | refine Z3 fun _ => ?_ | refine Z4 fun _ => ?_) | refine ZC ?_)
      refine rt_step rfl rfl rfl (st_call rfl rfl rfl rfl (same18_ct (A := []) ⟨fun i a h => by simp at h⟩ ⟨fun i a h => by simp at h⟩ (by decide) ?_))
      repeat (first | refine Z0 ?_ | (refine ZR ?_; first | refine x1 ?_ | refine x2 ?_ | refine x8 ?_ | refine Z1 ?_ | refine Z2 ?_ | refine x3 fun _ => ?_ | refine x4 fun _ => ?_ | refine x5 fun _ => ?_ | refine Z3 fun _ => ?_ | refine Z4 fun _ => ?_) | refine ZC ?_)
      exact re_1 rfl rfl (by exact drop_auto) (hQ L G v Gr hT ho (Nat.le_succ _))
    obtain ⟨ada, ca, ea, ga⟩ := oa.arrW (C := cx B0 old) en37_len
    subst ea
    repeat (first | refine Z0 ?_ | (refine ZR ?_; first | refine x1 ?_ | refine x2 ?_ | refine x8 ?_ | refine Z1 ?_ | refine Z2 ?_ | refine x3 fun _ => ?_ | refine x4 fun _ => ?_ | refine x5 fun _ => ?_ | refine Z3 fun _ => ?_ | refine Z4 fun _ => ?_) | refine ZC ?_)
    refine rt_step rfl rfl rfl (st_call rfl rfl rfl rfl (CallT.perm (rage51_ct (n := n + 1515) (ol := age) ho (by omega) hT.srt.2 hage x.e.a5 (fun hbad => absurd hok (by omega)) fun _ vg Gg vl Gl og ol' => ?_) sc_q))
    obtain ⟨adg, cg, eg, gg⟩ := og.arrW (C := cx B0 old) en37_len
    subst eg
    repeat (first | refine Z0 ?_ | (refine ZR ?_; first | refine x1 ?_ | refine x2 ?_ | refine x8 ?_ | refine Z1 ?_ | refine Z2 ?_ | refine x3 fun _ => ?_ | refine x4 fun _ => ?_ | refine x5 fun _ => ?_ | refine Z3 fun _ => ?_ | refine Z4 fun _ => ?_) | refine ZC ?_)
    refine rt_step rfl rfl rfl (st_call rfl rfl rfl rfl (same18_ct (((ga [] _).arr en37_len).weak (by exact drop_auto)) (((gg [] _).arr en37_len).weak (by exact drop_auto)) (by have := hlf (ageP x.e.a5 age); omega) ?_))
    repeat (first | refine Z0 ?_ | (refine ZR ?_; first | refine x1 ?_ | refine x2 ?_ | refine x8 ?_ | refine Z1 ?_ | refine Z2 ?_ | refine x3 fun _ => ?_ | refine x4 fun _ => ?_ | refine x5 fun _ => ?_ | refine Z3 fun _ => ?_ | refine Z4 fun _ => ?_) | refine ZC ?_)
    exact re_1 rfl rfl (by exact drop_auto) (hQ _ G' vl Gl hT' ol' (Nat.le_succ_of_le (hlf _)))
  rw [show (kd == 6) = false by simpa using h6]
  have hlW := fun {H' : Hp} {Q' : Value → Hp → Prop} => learnW (B0 := B0) (old := old) (n := n + 1514) (H := H') (Q := Q') hT x.e hx.2 x.f (by omega)
  have hrW := fun {H' : Hp} {Q' : Value → Hp → Prop} => rlearn16_ct (B0 := B0) (old := old) (n := n + 1515) (H := H') (Q := Q') (q := q) (ol := age) hT.srt.1 hT.srt.2 ho (by omega) x.e hx.2 x.f
  have hln := learnN_len L x.e x.f
  generalize learnN L x.e x.f = R at *
  obtain ⟨L1, mv, er⟩ := R
  unfold en37 at hlW hrW
  dsimp only at hlW hrW hln
  repeat (first | refine Z0 ?_ | (refine ZR ?_; first | refine x1 ?_ | refine x2 ?_ | refine x8 ?_ | refine Z1 ?_ | refine Z2 ?_ | refine x3 fun _ => ?_ | refine x4 fun _ => ?_ | refine x5 fun _ => ?_ | refine Z3 fun _ => ?_ | refine Z4 fun _ => ?_) | refine ZC ?_)
  refine rt_step rfl rfl rfl (st_call rfl rfl rfl rfl (CallT.perm (hlW fun G1 hT1 => ?_) mn_a))
  repeat (first | refine Z0 ?_ | (refine ZR ?_; first | refine x1 ?_ | refine x2 ?_ | refine x8 ?_ | refine Z1 ?_ | refine Z2 ?_ | refine x3 fun _ => ?_ | refine x4 fun _ => ?_ | refine x5 fun _ => ?_ | refine Z3 fun _ => ?_ | refine Z4 fun _ => ?_) | refine ZC ?_)
  refine rt_step rfl rfl rfl (st_call rfl rfl rfl rfl (CallT.perm (hrW fun v1 Gr1 ho1 => ?_) mn_b))
  repeat (first | refine Z0 ?_ | (refine ZR ?_; first | refine x1 ?_ | refine x2 ?_ | refine x8 ?_ | refine Z1 ?_ | refine Z2 ?_ | refine x3 fun _ => ?_ | refine x4 fun _ => ?_ | refine x5 fun _ => ?_ | refine Z3 fun _ => ?_ | refine Z4 fun _ => ?_) | refine ZC ?_)
  rw [show (mv == mv) = true by simp]
  repeat (first | refine Z0 ?_ | (refine ZR ?_; first | refine x1 ?_ | refine x2 ?_ | refine x8 ?_ | refine Z1 ?_ | refine Z2 ?_ | refine x3 fun _ => ?_ | refine x4 fun _ => ?_ | refine x5 fun _ => ?_ | refine Z3 fun _ => ?_ | refine Z4 fun _ => ?_) | refine ZC ?_)
  rw [show (er == er) = true by simp]
  exact re_1 rfl rfl (by exact drop_auto) (hQ _ G1 v1 Gr1 hT1 ho1 hln)
end
end Go.Proofs.Ytojnbjandkbkmaa.Abs

/- The contract of the statement LearnScript. -/
namespace Go.Proofs.Ytojnbjandkbkmaa.Abs
open Go
set_option linter.unusedVariables false
theorem sc_e {u : Nat × AObj} {R A B H : Hp} : (u :: (R ++ (A ++ (B ++ H)))).Perm (A ++ (B ++ (u :: (R ++ H)))) := by
  refine List.Perm.trans (List.Perm.cons _ ((List.perm_append_comm_assoc R A _).trans (List.Perm.append_left A (List.perm_append_comm_assoc R B H)))) ?_
  exact List.perm_middle.symm.trans (List.Perm.append_left A List.perm_middle.symm)
theorem sc_f3 {u : Nat × AObj} {A B G Y : Hp} : (G ++ (u :: (A ++ (B ++ Y)))).Perm (u :: (A ++ (B ++ (G ++ Y)))) :=
  List.perm_middle.trans (List.Perm.cons _ ((List.perm_append_comm_assoc G A _).trans (List.Perm.append_left A (List.perm_append_comm_assoc G B Y))))
structure ScI where
  i : Nat
  p : Nat
  q : Nat
  L : List S37
  G : Hp
  v : Value
  Gr : Hp
def ScI.ok (j : ScI) (age : Int) (m : Nat) : Prop := TbP (.pointer (some ⟨j.p, 0, none⟩)) age j.L j.G ∧ Own en37 6 j.L j.v j.Gr ∧ j.L.length ≤ m
section
variable {B0 : Nat} {old : Nat → Option (List Value)} {n : Nat} {H G : Hp} {Q : Value → Hp → Prop} {A : List S62}
set_option maxRecDepth 10000
set_option maxHeartbeats 8000000
theorem script9_ct {ad : Option Addr} {c : Nat} (h1 : Arr (cx B0 old) H ad 8 en62 A) (hw : ∀ x ∈ A, x.wf) (age : Int) (hQ : ∀ H', Q (.bool true) H') :
    CallT (cx B0 old) (acall (cx B0 old) ansP (n + 1521)) 9 [.int .i64 age, .slice ad A.length c] H Q := by
  refine call_in2 122 rfl Try.func9 rfl rfl ?_
  repeat (first | refine Z0 ?_ | (refine ZR ?_; first | refine x1 ?_ | refine x2 ?_ | refine x8 ?_ | refine Z1 ?_ | refine Z2 ?_ | refine x3 fun _ => ?_ | refine x4 fun _ => ?_ | refine x5 fun _ => ?_ | refine Z3 fun _ => ?_ | refine Z4 fun _ => ?_) | refine ZC ?_)
  refine ct_condT te_d rfl (fun hc => ?_) (fun hc => ?_)
  · repeat (first | refine Z0 ?_ | (refine ZR ?_; first | refine x1 ?_ | refine x2 ?_ | refine x8 ?_ | refine Z1 ?_ | refine Z2 ?_ | refine x3 fun _ => ?_ | refine x4 fun _ => ?_ | refine x5 fun _ => ?_ | refine Z3 fun _ => ?_ | refine Z4 fun _ => ?_) | refine ZC ?_)
    refine rt_step rfl rfl rfl (st_call rfl rfl rfl rfl (call_ext rfl ?_))
    repeat (first | refine Z0 ?_ | (refine ZR ?_; first | refine x1 ?_ | refine x2 ?_ | refine x8 ?_ | refine Z1 ?_ | refine Z2 ?_ | refine x3 fun _ => ?_ | refine x4 fun _ => ?_ | refine x5 fun _ => ?_ | refine Z3 fun _ => ?_ | refine Z4 fun _ => ?_) | refine ZC ?_)
    exact re_1 rfl rfl (List.Sublist.refl _) (hQ _)
  repeat (first | refine Z0 ?_ | (refine ZR ?_; first | refine x1 ?_ | refine x2 ?_ | refine x8 ?_ | refine Z1 ?_ | refine Z2 ?_ | refine x3 fun _ => ?_ | refine x4 fun _ => ?_ | refine x5 fun _ => ?_ | refine Z3 fun _ => ?_ | refine Z4 fun _ => ?_) | refine ZC ?_)
  refine rt_step rfl rfl rfl (st_call rfl rfl rfl rfl (newW (n := n + 1519) age (fun hbad => ?_) (fun hage v G hT => ?_)))
  · repeat (first | refine Z0 ?_ | (refine ZR ?_; first | refine x1 ?_ | refine x2 ?_ | refine x8 ?_ | refine Z1 ?_ | refine Z2 ?_ | refine x3 fun _ => ?_ | refine x4 fun _ => ?_ | refine x5 fun _ => ?_ | refine Z3 fun _ => ?_ | refine Z4 fun _ => ?_) | refine ZC ?_)
    refine rt_step rfl rfl rfl (st_call rfl rfl rfl rfl (rnew13_ct (n := n + 1519) age (fun _ => ?_) (fun h => absurd h (by omega))))
    repeat (first | refine Z0 ?_ | (refine ZR ?_; first | refine x1 ?_ | refine x2 ?_ | refine x8 ?_ | refine Z1 ?_ | refine Z2 ?_ | refine x3 fun _ => ?_ | refine x4 fun _ => ?_ | refine x5 fun _ => ?_ | refine Z3 fun _ => ?_ | refine Z4 fun _ => ?_) | refine ZC ?_)
    refine loop_ind (ι := Unit) () (fun _ => 0) (fun _ => True) (fun _ => [(7, .pointer none), (9, .int .i64 0), (1, .slice ad A.length c)]) (fun _ => H) trivial (by repeat (first | exact SubL.nil | refine SubL.cons rfl ?_)) (List.Sublist.refl _) ?_
    intro _ _
    repeat (first | refine Z0 ?_ | (refine ZR ?_; first | refine x1 ?_ | refine x2 ?_ | refine x8 ?_ | refine Z1 ?_ | refine Z2 ?_ | refine x3 fun _ => ?_ | refine x4 fun _ => ?_ | refine x5 fun _ => ?_ | refine Z3 fun _ => ?_ | refine Z4 fun _ => ?_) | refine ZC ?_)
    refine rt_step rfl rfl rfl (st_call rfl rfl rfl rfl (call_ext rfl ?_))
    repeat (first | refine Z0 ?_ | (refine ZR ?_; first | refine x1 ?_ | refine x2 ?_ | refine x8 ?_ | refine Z1 ?_ | refine Z2 ?_ | refine x3 fun _ => ?_ | refine x4 fun _ => ?_ | refine x5 fun _ => ?_ | refine Z3 fun _ => ?_ | refine Z4 fun _ => ?_) | refine ZC ?_)
    exact re_1 rfl rfl (List.Sublist.refl _) (hQ _)
  obtain ⟨p, rfl⟩ := hT.ptr
  repeat (first | refine Z0 ?_ | (refine ZR ?_; first | refine x1 ?_ | refine x2 ?_ | refine x8 ?_ | refine Z1 ?_ | refine Z2 ?_ | refine x3 fun _ => ?_ | refine x4 fun _ => ?_ | refine x5 fun _ => ?_ | refine Z3 fun _ => ?_ | refine Z4 fun _ => ?_) | refine ZC ?_)
  refine rt_step rfl rfl rfl (st_call rfl rfl rfl rfl (rnew13_ct (n := n + 1519) age (fun h => absurd h (by omega)) (fun _ q => ?_)))
  repeat (first | refine Z0 ?_ | (refine ZR ?_; first | refine x1 ?_ | refine x2 ?_ | refine x8 ?_ | refine Z1 ?_ | refine Z2 ?_ | refine x3 fun _ => ?_ | refine x4 fun _ => ?_ | refine x5 fun _ => ?_ | refine Z3 fun _ => ?_ | refine Z4 fun _ => ?_) | refine ZC ?_)
  refine loop_ind (ι := ScI) ⟨0, p, q, [], G, .slice none 0 0, []⟩ (fun j => A.length - j.i) (fun j => j.i ≤ A.length ∧ j.ok age j.i)
    (fun j => [(9, .int .i64 (j.i : Int)), (5, .pointer (some ⟨j.p, 0, none⟩)), (7, .pointer (some ⟨j.q, 0, none⟩)), (1, .slice ad A.length c)])
    (fun j => (j.q, .row [.int .i64 age, j.v] 2 false) :: (j.Gr ++ (j.G ++ H))) ⟨Nat.zero_le _, hT, Own.nil, Nat.le_refl _⟩ (by repeat (first | exact SubL.nil | refine SubL.cons rfl ?_)) (List.Sublist.refl _) ?_
  clear hT
  rintro ⟨i, p, q, L, G, v, Gr⟩ ⟨hi, hT, ho, hl⟩
  dsimp only at hi hT ho hl ⊢
  repeat (first | refine Z0 ?_ | (refine ZR ?_; first | refine x1 ?_ | refine x2 ?_ | refine x8 ?_ | refine Z1 ?_ | refine Z2 ?_ | refine x3 fun _ => ?_ | refine x4 fun _ => ?_ | refine x5 fun _ => ?_ | refine Z3 fun _ => ?_ | refine Z4 fun _ => ?_) | refine ZC ?_)
  refine ct_condT te_d rfl (fun hlt => ?_) (fun hlt => ?_)
  rotate_left
  · repeat (first | refine Z0 ?_ | (refine ZR ?_; first | refine x1 ?_ | refine x2 ?_ | refine x8 ?_ | refine Z1 ?_ | refine Z2 ?_ | refine x3 fun _ => ?_ | refine x4 fun _ => ?_ | refine x5 fun _ => ?_ | refine Z3 fun _ => ?_ | refine Z4 fun _ => ?_) | refine ZC ?_)
    refine rt_step rfl rfl rfl (st_call rfl rfl rfl rfl (call_ext rfl ?_))
    repeat (first | refine Z0 ?_ | (refine ZR ?_; first | refine x1 ?_ | refine x2 ?_ | refine x8 ?_ | refine Z1 ?_ | refine Z2 ?_ | refine x3 fun _ => ?_ | refine x4 fun _ => ?_ | refine x5 fun _ => ?_ | refine Z3 fun _ => ?_ | refine Z4 fun _ => ?_) | refine ZC ?_)
    exact re_1 rfl rfl (List.Sublist.refl _) (hQ _)
  have hi' : i < A.length := by omega
  have hx := List.getElem?_eq_getElem hi'
  have hxw := hw _ (List.getElem_mem hi')
  generalize A[i] = x at *
  have hy := List.getElem?_eq_getElem (show 0 < A.length by omega)
  generalize A[0] = y at *
  obtain ⟨b1, o1, e1, hL0⟩ := arr_ldF8 h1 3 0 hx rfl rfl rfl (sz rfl)
  subst e1
  obtain ⟨b2, o2, e2, hL1⟩ := h1.ldW 62 hx rfl (sz rfl)
  cases e2
  obtain ⟨b2, o2, e2, hL2⟩ := arr_ldF8 h1 3 2 hx rfl rfl rfl (sz rfl)
  cases e2
  obtain ⟨b2, o2, e2, hL3⟩ := arr_ldS h1 37 1 6 hx (r := en37 x.e) rfl rfl rfl (sz rfl)
  cases e2
  obtain ⟨b2, o2, e2, hL4⟩ := arr_ldS h1 37 1 6 (i := (0 : Int).toNat) hy (r := en37 y.e) rfl rfl rfl (sz rfl)
  cases e2
  unfold en62 at hL1
  unfold en37 at hL3 hL4
  repeat (first | refine Z0 ?_ | (refine ZR ?_; first | refine x1 ?_ | refine x2 ?_ | refine x8 ?_ | refine Z1 ?_ | refine Z2 ?_ | refine x3 fun _ => ?_ | refine x4 fun _ => ?_ | refine x5 fun _ => ?_ | refine Z3 fun _ => ?_ | refine Z4 fun _ => ?_) | refine ZC ?_)
  refine rt_step rfl rfl rfl (st_call rfl rfl rfl rfl (pick14_ct x.k 8 (by decide) (by decide) fun r hr0 hr1 => ?_))
  repeat (first | refine Z0 ?_ | (refine ZR ?_; first | refine x1 ?_ | refine x2 ?_ | refine x8 ?_ | refine Z1 ?_ | refine Z2 ?_ | refine x3 fun _ => ?_ | refine x4 fun _ => ?_ | refine x5 fun _ => ?_ | refine Z3 fun _ => ?_ | refine Z4 fun _ => ?_) | refine ZC ?_)
  refine ct_midE (ι := ScI) (fun j => j.i = i ∧ j.ok age (i + 1)) (fun j => [(9, .int .i64 (i : Int)), (5, .pointer (some ⟨j.p, 0, none⟩)), (7, .pointer (some ⟨j.q, 0, none⟩)), (1, .slice (some ⟨b1, o1, none⟩) A.length c)])
    (fun j => (j.q, .row [.int .i64 age, j.v] 2 false) :: (j.Gr ++ (j.G ++ H))) ?_ ?_
  · by_cases h7 : r = 7
    · rw [show (r == 7) = true by simp [h7]]
      obtain ⟨adv, cv, ev, gv⟩ := ho.arrW (C := cx B0 old) en37_len
      subst ev
      repeat (first | refine Z0 ?_ | (refine ZR ?_; first | refine x1 ?_ | refine x2 ?_ | refine x8 ?_ | refine Z1 ?_ | refine Z2 ?_ | refine x3 fun _ => ?_ | refine x4 fun _ => ?_ | refine x5 fun _ => ?_ | refine Z3 fun _ => ?_ | refine Z4 fun _ => ?_) | refine ZC ?_)
      refine rt_step rfl rfl rfl (st_call rfl rfl rfl rfl (CallT.perm (copyW (n := n + 1518) hT fun vp G2 hT2 => ?_) mn_c))
      obtain ⟨p2, rfl⟩ := hT2.ptr
      repeat (first | refine Z0 ?_ | (refine ZR ?_; first | refine x1 ?_ | refine x2 ?_ | refine x8 ?_ | refine Z1 ?_ | refine Z2 ?_ | refine x3 fun _ => ?_ | refine x4 fun _ => ?_ | refine x5 fun _ => ?_ | refine Z3 fun _ => ?_ | refine Z4 fun _ => ?_) | refine ZC ?_)
      refine rt_step rfl rfl rfl (st_call rfl rfl rfl rfl (rcopy30_ct (n := n + 1519) (ol := age) (List.mem_append_right _ (List.mem_append_right _ (List.Mem.head _))) ((gv [] H).weak (by exact drop_auto)) (by omega) fun q2 v3 G3 o3 => ?_))
      have hzw : (⟨1, 1, 1, 0, false, 0⟩ : S37).wf := by unfold S37.wf; decide
      have hlW := fun {H' : Hp} {Q' : Value → Hp → Prop} => learnW (B0 := B0) (old := old) (n := n + 1517) (H := H') (Q := Q') hT ⟨1, 1, 1, 0, false, 0⟩ hzw false (by omega)
      have hln := learnN_len L ⟨1, 1, 1, 0, false, 0⟩ false
      generalize learnN L ⟨1, 1, 1, 0, false, 0⟩ false = R at *
      obtain ⟨L1, mv, er⟩ := R
      unfold en37 at hlW
      dsimp only at hlW hln
      repeat (first | refine Z0 ?_ | (refine ZR ?_; first | refine x1 ?_ | refine x2 ?_ | refine x8 ?_ | refine Z1 ?_ | refine Z2 ?_ | refine x3 fun _ => ?_ | refine x4 fun _ => ?_ | refine x5 fun _ => ?_ | refine Z3 fun _ => ?_ | refine Z4 fun _ => ?_) | refine ZC ?_)
      refine rt_step rfl rfl rfl (st_call rfl rfl rfl rfl (CallT.perm (hlW fun G1 hT1 => ?_) sc_f3))
      repeat (first | refine Z0 ?_ | (refine ZR ?_; first | refine x1 ?_ | refine x2 ?_ | refine x8 ?_ | refine Z1 ?_ | refine Z2 ?_ | refine x3 fun _ => ?_ | refine x4 fun _ => ?_ | refine x5 fun _ => ?_ | refine Z3 fun _ => ?_ | refine Z4 fun _ => ?_) | refine ZC ?_)
      refine rt_step rfl rfl rfl (st_call rfl rfl rfl rfl (CallT.fuel (dropW (n := n + 3) hT1 (by omega) x.e.a1 fun w Gd G1' _ _ => ?_) rfl))
      repeat (first | refine Z0 ?_ | (refine ZR ?_; first | refine x1 ?_ | refine x2 ?_ | refine x8 ?_ | refine Z1 ?_ | refine Z2 ?_ | refine x3 fun _ => ?_ | refine x4 fun _ => ?_ | refine x5 fun _ => ?_ | refine Z3 fun _ => ?_ | refine Z4 fun _ => ?_) | refine ZC ?_)
      exact ⟨⟨i, p2, q2, L, G2, v3, G3⟩, ⟨rfl, hT2, o3, by dsimp only; omega⟩, by repeat (first | exact SubL.nil | refine SubL.cons rfl ?_), by exact drop_auto⟩
    · rw [show (r == 7) = false by simpa using h7]
      have hd := fun {Q' : Value → Hp → Prop} => does31_ct (B0 := B0) (old := old) (n := n + 2) (H := H) (Q := Q') (q := q) hT ho (by omega) hage x hxw r
      unfold en62 at hd
      repeat (first | refine Z0 ?_ | (refine ZR ?_; first | refine x1 ?_ | refine x2 ?_ | refine x8 ?_ | refine Z1 ?_ | refine Z2 ?_ | refine x3 fun _ => ?_ | refine x4 fun _ => ?_ | refine x5 fun _ => ?_ | refine Z3 fun _ => ?_ | refine Z4 fun _ => ?_) | refine ZC ?_)
      refine rt_step rfl rfl rfl (st_call rfl rfl rfl rfl (hd fun L' G' v' Gr' hT' ho' hl' => ?_))
      repeat (first | refine Z0 ?_ | (refine ZR ?_; first | refine x1 ?_ | refine x2 ?_ | refine x8 ?_ | refine Z1 ?_ | refine Z2 ?_ | refine x3 fun _ => ?_ | refine x4 fun _ => ?_ | refine x5 fun _ => ?_ | refine Z3 fun _ => ?_ | refine Z4 fun _ => ?_) | refine ZC ?_)
      exact ⟨⟨i, p, q, L', G', v', Gr'⟩, ⟨rfl, hT', ho', by dsimp only; omega⟩, by repeat (first | exact SubL.nil | refine SubL.cons rfl ?_), List.Sublist.refl _⟩
  clear hT ho hl
  rintro ⟨i', p, q, L, G, v, Gr⟩ ⟨hj, hT, ho, hl⟩
  dsimp only at hj hT ho hl ⊢
  subst hj
  have ho2 := ho
  obtain ⟨adv, cv, ev, gv⟩ := ho.arrW (C := cx B0 old) en37_len
  subst ev
  have hV : Arr (cx B0 old) (Gr ++ H) adv 6 en37 L := (gv [] H).arr en37_len
  repeat (first | refine Z0 ?_ | (refine ZR ?_; first | refine x1 ?_ | refine x2 ?_ | refine x8 ?_ | refine Z1 ?_ | refine Z2 ?_ | refine x3 fun _ => ?_ | refine x4 fun _ => ?_ | refine x5 fun _ => ?_ | refine Z3 fun _ => ?_ | refine Z4 fun _ => ?_) | refine ZC ?_)
  refine rt_step rfl rfl rfl (st_call rfl rfl rfl rfl (CallT.fuel (CallT.perm (allW (n := n + 4) hT (by omega) fun w Gw ow => ?_) mn_c) rfl))
  have ow2 := ow
  obtain ⟨adw, cw, ew, gw⟩ := ow.arrW (C := cx B0 old) en37_len
  subst ew
  have hW : Arr (cx B0 old) (Gw ++ (G ++ ((q, AObj.row [.int .i64 age, .slice adv L.length cv] 2 false) :: (Gr ++ H)))) adw 6 en37 L := (gw [] _).arr en37_len
  have hnr := fun (e : S37) {Q' : Value → Hp → Prop} => near17_ct (B0 := B0) (old := old) (n := n + 1516) (H := Gw ++ ((q, AObj.row [.int .i64 age, .slice adv L.length cv] 2 false) :: (Gr ++ H))) (Q := Q') (ol := age) hT (List.mem_append_right _ (List.Mem.head _)) (hV.weak (by exact drop_auto)) (by omega) e
  unfold en37 at hnr
  repeat (first | refine Z0 ?_ | (refine ZR ?_; first | refine x1 ?_ | refine x2 ?_ | refine x8 ?_ | refine Z1 ?_ | refine Z2 ?_ | refine x3 fun _ => ?_ | refine x4 fun _ => ?_ | refine x5 fun _ => ?_ | refine Z3 fun _ => ?_ | refine Z4 fun _ => ?_) | refine ZC ?_)
  refine rt_step rfl rfl rfl (st_call rfl rfl rfl rfl (same18_ct hW (hV.weak (by exact drop_auto)) (by omega) ?_))
  refine RunT.perm ?_ (List.perm_append_comm_assoc G Gw _)
  clear hW gw
  repeat (first | refine Z0 ?_ | (refine ZR ?_; first | refine x1 ?_ | refine x2 ?_ | refine x8 ?_ | refine Z1 ?_ | refine Z2 ?_ | refine x3 fun _ => ?_ | refine x4 fun _ => ?_ | refine x5 fun _ => ?_ | refine Z3 fun _ => ?_ | refine Z4 fun _ => ?_) | refine ZC ?_)
  refine rt_step rfl rfl rfl (st_call rfl rfl rfl rfl (hnr x.e ?_))
  repeat (first | refine Z0 ?_ | (refine ZR ?_; first | refine x1 ?_ | refine x2 ?_ | refine x8 ?_ | refine Z1 ?_ | refine Z2 ?_ | refine x3 fun _ => ?_ | refine x4 fun _ => ?_ | refine x5 fun _ => ?_ | refine Z3 fun _ => ?_ | refine Z4 fun _ => ?_) | refine ZC ?_)
  refine rt_step rfl rfl rfl (st_call rfl rfl rfl rfl (hnr y.e ?_))
  clear hL0 hL1 hL2 hL3 hL4 hnr
  repeat (first | refine Z0 ?_ | (refine ZR ?_; first | refine x1 ?_ | refine x2 ?_ | refine x8 ?_ | refine Z1 ?_ | refine Z2 ?_ | refine x3 fun _ => ?_ | refine x4 fun _ => ?_ | refine x5 fun _ => ?_ | refine Z3 fun _ => ?_ | refine Z4 fun _ => ?_) | refine ZC ?_)
  refine loop_ind (ι := Nat × List S37 × Hp) (0, L, Gw) (fun j => L.length - j.1) (fun j => j.1 ≤ L.length ∧ j.2.1.length = L.length ∧ Own en37 6 j.2.1 (.slice adw L.length cw) j.2.2)
    (fun j => [(13, .int .i64 (j.1 : Int)), (12, .slice adw L.length cw), (9, .int .i64 (i' : Int)), (5, .pointer (some ⟨p, 0, none⟩)), (7, .pointer (some ⟨q, 0, none⟩)), (1, .slice (some ⟨b1, o1, none⟩) A.length c)])
    (fun j => G ++ (j.2.2 ++ ((q, .row [.int .i64 age, .slice adv L.length cv] 2 false) :: (Gr ++ H)))) ⟨Nat.zero_le _, rfl, ow2⟩ (by repeat (first | exact SubL.nil | refine SubL.cons rfl ?_)) (List.Sublist.refl _) ?_
  clear ow ow2
  rintro ⟨k, M, Gm⟩ ⟨hk, hM, om⟩
  dsimp only at hk hM om ⊢
  repeat (first | refine Z0 ?_ | (refine ZR ?_; first | refine x1 ?_ | refine x2 ?_ | refine x8 ?_ | refine Z1 ?_ | refine Z2 ?_ | refine x3 fun _ => ?_ | refine x4 fun _ => ?_ | refine x5 fun _ => ?_ | refine Z3 fun _ => ?_ | refine Z4 fun _ => ?_) | refine ZC ?_)
  refine ct_condT te_d rfl (fun hkl => ?_) (fun hkl => ?_)
  · obtain ⟨z, hz⟩ : ∃ x, M[k]? = some x := ⟨_, List.getElem?_eq_getElem (by omega)⟩
    obtain ⟨Gz, oz, bb, cb, eb, hst⟩ := om.set (C := cx B0 old) (t := 37) (f := 0) (a' := zN) (u := .agg ⟨en37 zN⟩) en37_len hz (sz rfl) rfl rfl
    rw [hM] at eb
    cases eb
    repeat (first | refine Z0 ?_ | (refine ZR ?_; first | refine x1 ?_ | refine x2 ?_ | refine x8 ?_ | refine Z1 ?_ | refine Z2 ?_ | refine x3 fun _ => ?_ | refine x4 fun _ => ?_ | refine x5 fun _ => ?_ | refine Z3 fun _ => ?_ | refine Z4 fun _ => ?_) | refine ZC ?_)
    refine rt_st rfl rfl rfl rfl rfl (hst G _) ?_
    repeat (first | refine Z0 ?_ | (refine ZR ?_; first | refine x1 ?_ | refine x2 ?_ | refine x8 ?_ | refine Z1 ?_ | refine Z2 ?_ | refine x3 fun _ => ?_ | refine x4 fun _ => ?_ | refine x5 fun _ => ?_ | refine Z3 fun _ => ?_ | refine Z4 fun _ => ?_) | refine ZC ?_)
    exact ⟨(k + 1, M.set k zN, Gz), ⟨by dsimp only; omega, by dsimp only; rw [List.length_set]; exact hM, oz⟩, by dsimp only; omega, by repeat (first | exact SubL.nil | refine SubL.cons rfl ?_), List.Sublist.refl _⟩
  · refine CodeT.perm ?_ sc_e
    repeat (first | refine Z0 ?_ | (refine ZR ?_; first | refine x1 ?_ | refine x2 ?_ | refine x8 ?_ | refine Z1 ?_ | refine Z2 ?_ | refine x3 fun _ => ?_ | refine x4 fun _ => ?_ | refine x5 fun _ => ?_ | refine Z3 fun _ => ?_ | refine Z4 fun _ => ?_) | refine ZC ?_)
    exact ⟨⟨i' + 1, p, q, L, G, _, Gr⟩, ⟨by dsimp only; omega, hT, ho2, hl⟩, by dsimp only; omega, by repeat (first | exact SubL.nil | refine SubL.cons rfl ?_), by exact drop_auto⟩
end
end Go.Proofs.Ytojnbjandkbkmaa.Abs

/- The readings for the statement LearnScript. -/
namespace Go.Proofs.Ytojnbjandkbkmaa.Abs
open Go Go.RowKit
set_option linter.unusedVariables false
set_option maxRecDepth 100000
set_option maxHeartbeats 2000000
theorem lv62 : leaves Try.prog 10 62 = some [3, 3, 3, 33, 35, 4, 3, 4] := by kernel_rfl
section
variable {H : Type} {enc : TypeId × Value → H} {W : World} {base : Nat} {spare : Nat → Bool} {held : Bool}
theorem read62 {hs fuel : Nat} {cs : List Value} {x : DataW H × List MemPlace} (h : DataW.trod enc Try.prog W base spare held fuel 62 cs = some x) : cs.length = 8 ∧ ∃ p : S62, cs.map (normV hs) = en62 p ∧ p.wf := by
  have hh := leaves_ok 10 62 _ lv62 _ _ _ h
  clear h
  refine ⟨hh.1, ?_⟩
  obtain ⟨v0, cs0, rfl, l0, h0⟩ := LeafOk.next hh
  obtain ⟨v1, cs1, rfl, l1, h1⟩ := LeafOk.next h0
  obtain ⟨v2, cs2, rfl, l2, h2⟩ := LeafOk.next h1
  obtain ⟨v3, cs3, rfl, l3, h3⟩ := LeafOk.next h2
  obtain ⟨v4, cs4, rfl, l4, h4⟩ := LeafOk.next h3
  obtain ⟨v5, cs5, rfl, l5, h5⟩ := LeafOk.next h4
  obtain ⟨v6, cs6, rfl, l6, h6⟩ := LeafOk.next h5
  obtain ⟨v7, cs7, rfl, l7, h7⟩ := LeafOk.next h6
  obtain rfl := LeafOk.done h7
  obtain ⟨n0, rfl, w0⟩ := leaf_int (k := .i64) Try.underlying3 l0
  obtain ⟨n1, rfl, w1⟩ := leaf_int (k := .i64) Try.underlying3 l1
  obtain ⟨n2, rfl, w2⟩ := leaf_int (k := .i64) Try.underlying3 l2
  obtain ⟨n3, rfl, w3⟩ := leaf_int (k := .u64) Try.underlying33 l3
  obtain ⟨n4, rfl, w4⟩ := leaf_int (k := .u32) Try.underlying35 l4
  obtain ⟨n5, rfl⟩ := leaf_bool Try.underlying4 l5
  obtain ⟨n6, rfl, w6⟩ := leaf_int (k := .i64) Try.underlying3 l6
  obtain ⟨n7, rfl⟩ := leaf_bool Try.underlying4 l7
  refine ⟨⟨n0, ⟨n1, n2, n3, n4, n5, n6⟩, n7⟩, ?_, ⟨wf_i64 w0, wf_i64 w1, wf_i64 w2, wf_u64 w3, wf_u32 w4, wf_i64 w6⟩⟩
  simp only [List.map_cons, List.map_nil]
  rfl
end
end Go.Proofs.Ytojnbjandkbkmaa.Abs
