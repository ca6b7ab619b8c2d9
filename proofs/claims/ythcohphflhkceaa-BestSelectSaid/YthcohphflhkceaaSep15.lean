/- Bytes as strings, strings compared; slices as arrays; methods of values in interfaces. -/
import Derived.Test.YthcohphflhkceaaBy
import Derived.Test.YthcohphflhkceaaSep14
namespace Go.Proofs.Ythcohphflhkceaa.Abs
open Go
set_option linter.unusedVariables false
def u8s (L : List Int) : List UInt8 := L.map fun x => UInt8.ofNat x.toNat
def strB (L : List Int) : ByteArray := ⟨(u8s L).toArray⟩
theorem u8s_inj : ∀ {L M : List Int}, (∀ y ∈ L, isY y) → (∀ y ∈ M, isY y) → u8s L = u8s M → L = M
  | [], [], _, _, _ => rfl
  | [], _ :: _, _, _, h => by cases h
  | _ :: _, [], _, _, h => by cases h
  | a :: L, b :: M, h1, h2, h => by
    unfold u8s at h
    rw [List.map_cons, List.map_cons, List.cons.injEq] at h
    have ha := h1 a (List.mem_cons_self ..)
    have hb := h2 b (List.mem_cons_self ..)
    have e := congrArg UInt8.toNat h.1
    rw [UInt8.toNat_ofNat', UInt8.toNat_ofNat'] at e
    unfold isY at ha hb
    have e2 : a = b := by omega
    rw [e2, u8s_inj (fun y hy => h1 y (List.mem_cons_of_mem _ hy)) (fun y hy => h2 y (List.mem_cons_of_mem _ hy)) h.2]
theorem bytesOf_is : ∀ (L : List Int) (acc : List UInt8), aR.bytesOf (L.flatMap encY) acc = some (acc.reverse ++ u8s L)
  | [], acc => by simp [aR.bytesOf, u8s]
  | a :: L, acc => by
    show aR.bytesOf (L.flatMap encY) (UInt8.ofNat a.toNat :: acc) = _
    rw [bytesOf_is L]
    simp [u8s]
section
variable {C : Ctx} {hd : HH Prop} {l : Sl} {H : Hp} {x y : Operand} {t yt e : TypeId} {L M : List Int} {ad : Option Addr} {c : Nat}
theorem rd_str (ha : ArrW C H ad 1 encY L) (hx : evalL l x = some (.slice ad L.length c)) (hu : C.P.underlying t = some (.slice e)) (hy : C.P.underlying yt = some .string) (he : C.P.underlying e = some (.int .u8)) (hne : L ≠ [] ∨ ad = none) :
    ReadT C (.convert t yt x) l H (.string (strB L)) := by
  unfold ReadT
  refine ⟨cov1 hx, ?_, fun s hm => ?_⟩
  · simp only [aP, aconv, rhoL_eq hx]
  · by_cases hL : L = []
    · subst hL
      obtain rfl : ad = none := hne.resolve_left (fun h => h rfl)
      simp only [aR, rhoL_eq hx, hu, hy, he]
      rfl
    · obtain ⟨b, o, cs, rfl, hr, hc⟩ := ha.els hL
      rw [Nat.mul_one] at hc
      simp only [aR, rhoL_eq hx, hu, hy, he, hr.rowOf hm, hc, bytesOf_is]
      rfl
theorem str_eq (hL : ∀ y ∈ L, isY y) (hM : ∀ y ∈ M, isY y) : ((strB L).toList == (strB M).toList) = decide (L = M) := by
  have e : ∀ L : List Int, (strB L).toList = u8s L := fun L => by rw [ByteArray.toList_eq]; rfl
  rw [e, e]
  by_cases h : L = M
  · subst h; simp
  · rw [decide_eq_false h]
    exact beq_eq_false_iff_ne.2 fun he => h (u8s_inj hL hM he)
theorem p_eqlStr (h : evalL l x = some (.string (strB L))) (h2 : evalL l y = some (.string (strB M))) (hL : ∀ y ∈ L, isY y) (hM : ∀ y ∈ M, isY y) : PureT C (.binOp .eql t x y yt) l (.bool (decide (L = M))) := by
  unfold PureT
  refine ⟨cov2 h h2, ?_⟩
  simp only [aP, abin, rhoL_eq h, rhoL_eq h2, str_eq hL hM]
theorem p_neqStr (h : evalL l x = some (.string (strB L))) (h2 : evalL l y = some (.string (strB M))) (hL : ∀ y ∈ L, isY y) (hM : ∀ y ∈ M, isY y) : PureT C (.binOp .neq t x y yt) l (.bool (!decide (L = M))) := by
  unfold PureT
  refine ⟨cov2 h h2, ?_⟩
  simp only [aP, abin, rhoL_eq h, rhoL_eq h2, str_eq hL hM]
/-- The other bits of a number of 16 bits. -/
theorem p_cpl {n : Nat} (h : evalL l x = some (.int .u16 (n : Int))) (hn : n < 65536) : PureT C (.unOp .xor t x) l (.int .u16 ((65535 - n : Nat) : Int)) := by
  unfold PureT
  refine ⟨cov1 h, ?_⟩
  simp only [aP, aun, rhoL_eq h, aint]
  congr 2
  show IntKind.u16.wrap ((BitVec.ofInt 16 65535 ^^^ BitVec.ofInt 16 (n : Int)).toNat : Int) = _
  have e : (BitVec.ofInt 16 65535 ^^^ BitVec.ofInt 16 (n : Int)) = ~~~ (BitVec.ofNat 16 n) := by
    rw [show (BitVec.ofInt 16 65535) = BitVec.allOnes 16 from rfl, BitVec.ofInt_natCast, BitVec.allOnes_xor]
  rw [e, BitVec.toNat_not, BitVec.toNat_ofNat, Nat.mod_eq_of_lt hn]
  simp only [IntKind.wrap, IntKind.bits, IntKind.signed]
  simp
  omega
theorem p_s2a {b o n c N : Nat} (h : evalL l x = some (.slice (some ⟨b, o, none⟩) n c)) (hu : C.P.underlying t = some (.array N e)) (hle : N ≤ n) : PureT C (.sliceToArrayPointer t x) l (.pointer (some ⟨b, o, none⟩)) := by
  unfold PureT
  refine ⟨cov1 h, ?_⟩
  simp only [aP, aarrayAt, rhoL_eq h, hu, Nat.ble_eq_true_of_le hle]
end
/-- A method of a value in an interface. -/
def notPtr : TypeDesc → Bool
  | .pointer _ => false
  | _ => true
def methV (C : Ctx) (t : TypeId) (name : String) : Option FuncId := match C.P.info? t, C.P.underlying t with
  | some i, some d => match i.methods.toList.find? (·.name == name) with
    | some m => match m.path.toList, m.func with
      | [], some (f, false) => match notPtr d with
        | true => some f
        | false => none
      | _, _ => none
    | none => none
  | _, _ => none
theorem meth_is {C : Ctx} {t : TypeId} {name : String} {g : FuncId} (h : methV C t name = some g) (v : Value) (s : St) : amethod C s (.iface t v) name = some (g, v) := by
  unfold methV at h
  unfold amethod
  cases h1 : C.P.info? t with
  | none => rw [h1] at h; cases h
  | some i =>
    cases h2 : C.P.underlying t with
    | none => rw [h1, h2] at h; cases h
    | some d =>
      rw [h1, h2] at h
      simp only at h
      cases h3 : i.methods.toList.find? (·.name == name) with
      | none => rw [h3] at h; cases h
      | some m =>
        rw [h3] at h
        simp only at h
        split at h
        · rename_i f h4 h5
          split at h
          · rename_i h6
            cases h
            simp only [h1, h2, h3, h4, h5]
            cases d <;> first | rfl | cases h6
          · cases h
        · cases h
end Go.Proofs.Ythcohphflhkceaa.Abs
