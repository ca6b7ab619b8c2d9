/- A closed run by the kernel is a run of the machine in any world. -/
import Derived.Test.YtpdhkonifbdckaaAbs19
import Derived.RowKit3
namespace Go.Proofs.Ytpdhkonifbdckaa.Abs
open Go Go.RowKit
set_option linter.unusedSectionVars false

section
variable [Tok]

def cell0 (P : Program) : Ctx := { P, B0 := 0, old := fun _ => none, ext := fun _ _ => none }
def st0 : St := { mem := .nil, next := 1 }
def isTrue : Value → St → Bool := fun v _ => match v with
  | .bool true => true
  | _ => false

theorem rel0 (P : Program) (w : World) (hthaw : ∀ b o, w.heap.size ≤ b → w.heap[b]? = some o → Thawed o := by intro b o h1 h2; have := (Array.getElem?_eq_some_iff.1 h2).1; omega) :
    Rel (cell0 P) ⟨w, []⟩ (fun _ => none) st0 w :=
  { old := ⟨fun b cs hb => absurd hb (Nat.not_lt_zero _)⟩, base := fun _ _ => rfl, size := Nat.le_refl _, os := rfl, tape := rfl, output := rfl, next := Nat.zero_lt_one, nowhere := rfl,
    fresh := fun _ _ => rfl, lows := fun b hb => absurd hb (Nat.not_lt_zero _), inj := fun _ _ _ _ h => (by cases h), lt := fun _ _ h => (by cases h), own := fun _ _ _ h => (by cases h),
    objs := fun b o _ h => (by simp [St.obj, st0, Trie.get_nil] at h), thaw := hthaw, held := fun x hx => (by cases hx), nd := List.nodup_nil }

/-- Nothing that was there has changed. -/
def GrownB (w w' : World) : Prop := (∀ may, w.keptBut w' may) ∧ w.heap.size ≤ w'.heap.size
theorem Rel.grownW {C : Ctx} {w0 : Base} {w : World} {φ : Nat → Option Loc} {s : St} (R : Rel C w0 φ s w) : GrownB w0.toWorld w := by
  refine ⟨fun may => World.keptBut_mono (fun _ f => f.elim) (show w0.toWorld.keptBut w (fun _ => False) from ⟨R.os, R.output, fun i hi => ?_⟩), R.size⟩
  rw [R.base i hi]
  cases w0.heap[i]? with
  | none => rfl
  | some o => cases o with
    | cells c t f => exact ⟨rfl, rfl, rfl, fun _ _ => rfl⟩
    | map es c => exact .inr ⟨rfl, rfl⟩
    | _ => rfl

theorem ext0 (P : Program) : ExtOk (cell0 P) := fun f args v h => by cases h

/-- A run over an empty old memory, with contracts of callees and unknown numbers. -/
def cellE (P : Program) (ext : FuncId → List Value → Option Value) : Ctx := { P, B0 := 0, old := fun _ => none, ext }
theorem relE (P : Program) (ext : FuncId → List Value → Option Value) (w : World) : Rel (cellE P ext) ⟨w, []⟩ (fun _ => none) st0 w :=
  let R := rel0 P w
  { old := ⟨fun b cs hb => absurd hb (Nat.not_lt_zero _)⟩, base := R.base, size := R.size, os := rfl, tape := rfl, output := rfl, next := R.next, nowhere := rfl,
    fresh := R.fresh, lows := R.lows, inj := R.inj, lt := R.lt, own := R.own, objs := R.objs, thaw := R.thaw, held := R.held, nd := R.nd }
theorem closedE {P : Program} {ext : FuncId → List Value → Option Value} (hE : ExtOk (cellE P ext)) (n f : Nat) (args args' : List Value) (ha : VRs (fun _ => none) 1 args args')
    (h : acall (cellE P ext) ansB n f args st0 isTrue = true) (w : World) : Calls P f args'.toArray w fun e w' => e = .returned (.bool true) ∧ GrownB w w' := by
  have hc := mor_call n f args st0 isTrue (fun v _ => v = .bool true) (fun v s hv => by
    unfold isTrue at hv
    split at hv
    · rfl
    · cases hv) h
  refine (call_sound hE n f args args' st0 _ w _ (relE P ext w) ha hc).mono ?_
  rintro e w' ⟨v, v', φ', s', rfl, hst, hv, rfl⟩
  cases hv
  exact ⟨rfl, hst.rel.grownW⟩
end

theorem closed {P : Program} (n f : Nat) (h : acall (cell0 P) ansB n f [] st0 isTrue = true) (w : World) : Calls P f #[] w fun e w' => e = .returned (.bool true) ∧ GrownB w w' :=
  @closedE ⟨fun _ => none⟩ P (fun _ _ => none) (fun f args v h => by cases h) n f [] [] (@VRs.nil ⟨fun _ => none⟩ _ _) h w
section
open Go.ChangeShapes
/-- A law without parameters: whatever is laid behind what was there, the statement holds. -/
theorem post_closed {P : Program} {H : Type} {enc : TypeId × Value → H} {f : Func} {sp : ChangeSpec} {apart fresh handsOn again : Bool} {W W' : World} {args : Array Value} {v : Value} {ds gs : List (DataW H)}
    (hW : DataW.Whole enc P f.params.toList sp.vars apart W args.toList ds gs [])
    (hres : ∀ (b : Nat) (q : Nat → Bool) (hd : Bool), DataW.TrodAll enc P W' b q hd f.resultTypes.toList (v.resultList f.resultTypes.size) (sp.fn H (ds ++ gs)).results [])
    (hargs : ∀ q : Nat → Bool, DataW.TrodAll enc P W' 0 q true f.params.toList args.toList (sp.fn H (ds ++ gs)).args [])
    (hvars : ∀ q : Nat → Bool, DataW.TrodVars enc P W' q sp.vars (sp.fn H (ds ++ gs)).vars [])
    (hk : ∀ may, W.keptBut W' may)
    (hok : ∀ (j : Nat) (t : TypeId) (r : Value), f.resultTypes[j]? = some t → (v.resultList f.resultTypes.size)[j]? = some r → Value.okWide P W' .any 0 t r) :
    sp.post enc P f apart fresh handsOn again W args v W' := by
  refine ⟨ds, gs, [], [], [], [], hW, hres _ _ _, hargs _, hvars _, hk _, fun _ => ⟨hok, _, _, ([] ++ []) ++ [], ⟨[] ++ [], [], trodAll_append (hargs _) (hres _ _ _), hvars _, rfl, fun b off hp => (by cases hp), fun ha => ?_⟩, fun p hp _ => (by cases hp)⟩⟩
  exact List.nodup_nil
end
end Go.Proofs.Ytpdhkonifbdckaa.Abs
