/- All operations that only compute, in one law. -/
import Derived.Test.YtpdhkonifbdckaaAbs5
namespace Go.Proofs.Ytpdhkonifbdckaa.Abs
open Go
set_option linter.unusedSectionVars false
variable [Tok]
set_option linter.unusedSimpArgs false

section
variable {C : Ctx} {φ : Nat → Option Loc} {N : Nat}

/-- The operands of an operation, related. -/
def RhoR (φ : Nat → Option Loc) (N : Nat) (o : Op) (ρ ρ' : Operand → Value) : Prop := ∀ x, x ∈ o.operands.toList → VR φ N (ρ x) (ρ' x)

theorem optR_of {o : Option Operand} {ρ ρ' : Operand → Value} (h : ∀ x, o = some x → VR φ N (ρ x) (ρ' x)) : OptR φ N (o.map ρ) (o.map ρ') := by
  cases o with
  | none => trivial
  | some x => exact h x rfl

theorem atypeAssert_sound {x x' v : Value} {xt t : TypeId} {ok : Bool} (h : atypeAssert C x t ok = some v) (hx : VR φ N x x') (w : World) :
    ∃ v', (Instr.typeAssert x' xt t ok).run C.P w = .ok v' w ∧ VR φ N v v' := by
  unfold atypeAssert at h
  split at h
  · cases h
  · rename_i d t' u hnoif hu
    have hu' := hu
    cases hx with
    | iface _ _ u' hv =>
      have key : ∀ (P : Program) (w : World), P.underlying t = some d → (Instr.typeAssert (.iface t' u') xt t ok).run P w =
          (if t' = t then (pure (if ok then .tuple #[u', .bool true] else u') : Sem Value)
           else (if ok then (do pure (.tuple #[← zeroValue t, .bool false])) else runtimePanic (.typeAssertion (some xt) (some t') t ""))).run P w := by
        intro P w hP
        simp only [Instr.typeAssert, Sem.run_bind, run_und hP, Result.andThen_ok]
      rw [key C.P w hu']
      split at h
      · rename_i e
        cases h
        refine ⟨_, by rw [if_pos e, Sem.run_pure], ?_⟩
        split
        · exact .tuple _ _ (.cons _ _ _ _ hv (.cons _ _ _ _ (.bool true) .nil))
        · exact hv
      · rename_i e
        split at h
        · rename_i i hi
          split at h
          · rename_i z hz
            split at h
            · rename_i hp
              cases h
              refine ⟨.tuple #[z, .bool false], ?_, .tuple _ _ (.cons _ _ _ _ (VR.plain hp) (.cons _ _ _ _ (.bool false) .nil))⟩
              rw [if_neg e, if_pos rfl]
              simp [zeroValue, run_tinfo hi, hz]
            · cases h
          · cases h
        · cases h
  · cases h

theorem mapR {l : List Operand} {ρ ρ' : Operand → Value} (h : ∀ x, x ∈ l → VR φ N (ρ x) (ρ' x)) : VRs φ N (l.map ρ) (l.map ρ') := VRs.map l h

theorem resolve_builtin (ρ : Operand → Value) (b : Builtin) (args : Array Operand) (ts : Array TypeId) (ty : TypeId) :
    resolve ρ { callee := .builtin b, args, argTypes := ts } ty = (pure { target := .builtin b ts ty (args.map fun | .const _ => true | _ => false), args := args.map ρ } : Sem Deferred) := rfl

theorem run_len_call {o : Oper} {args : Array Operand} {ts : Array TypeId} {ρ : Operand → Value} {P : Program} {w : World} {x : Operand} {t : TypeId} {v : Value} (ho : o.op = .call { callee := .builtin .len, args, argTypes := ts })
    (ha : args.toList = [x]) (ht : ts.toList = [t]) (h : (Builtin.len_ #[t] o.type #[ρ x]).run P w = .ok v w) : (execOp ρ o).run P w = .ok (.value v) w := by
  obtain ⟨args⟩ := args
  obtain ⟨ts⟩ := ts
  simp only at ha ht
  subst ha; subst ht
  unfold execOp
  rw [ho]
  simp only [resolve_builtin, Sem.run_bind, Sem.run_pure, Result.andThen_ok, invoke, builtin]
  simp only [List.map_toArray, List.map_cons, List.map_nil]
  rw [show (Builtin.len_ [t].toArray o.type [ρ x].toArray).run P w = .ok v w from h]
  rfl

theorem aP_sound (hN : C.B0 < N) (hnw : φ C.B0 = none) {o : Oper} {ρ ρ' : Operand → Value} (hρ : RhoR φ N o.op ρ ρ') {v : Value} (h : aP C o.op ρ = some v) (w : World) :
    ∃ v', (execOp ρ' o).run C.P w = .ok (.value v') w ∧ VR φ N v v' := by
  have wrap : ∀ {s : Sem Value}, execOp ρ' o = (do pure (.value (← s))) → (∃ v', s.run C.P w = .ok v' w ∧ VR φ N v v') → ∃ v', (execOp ρ' o).run C.P w = .ok (.value v') w ∧ VR φ N v v' := by
    intro s e ⟨v', h1, h2⟩
    exact ⟨v', by rw [e, Sem.run_bind, h1]; rfl, h2⟩
  unfold aP at h
  split at h
  · -- move
    rename_i x ho; cases h
    exact ⟨ρ' x, by unfold execOp; rw [ho]; rfl, hρ x (by rw [ho]; simp [Op.operands])⟩
  · rename_i x ho; cases h
    exact ⟨ρ' x, by unfold execOp; rw [ho]; rfl, hρ x (by rw [ho]; simp [Op.operands])⟩
  · -- pick
    rename_i c a b ho
    have hc := hρ c (by rw [ho]; simp [Op.operands])
    split at h
    · rename_i e
      cases h
      rw [e] at hc
      generalize hc' : ρ' c = c' at hc
      cases hc
      exact ⟨ρ' a, by unfold execOp; rw [ho]; simp [asBool, hc'], hρ a (by rw [ho]; simp [Op.operands])⟩
    · rename_i e
      cases h
      rw [e] at hc
      generalize hc' : ρ' c = c' at hc
      cases hc
      exact ⟨ρ' b, by unfold execOp; rw [ho]; simp [asBool, hc'], hρ b (by rw [ho]; simp [Op.operands])⟩
    · cases h
  · -- build
    rename_i t ps ho
    refine wrap (s := Instr.build t (ps.map fun (i, x) => (i, ρ' x))) (by unfold execOp; rw [ho]) ?_
    have := build_sound (φ := φ) (N := N) (parts' := (ps.map fun (i, x) => (i, ρ' x)).toList) h (fun ok => partsR_map ps ρ ρ' (fun p hp => hρ p.2 (by rw [ho]; simp [Op.operands]; exact ⟨p.1, by simpa using hp⟩)) ok) w
    rw [Array.toArray_toList] at this
    exact this
  · -- nilCheck
    rename_i x ho
    have hx := hρ x (by rw [ho]; simp [Op.operands])
    split at h
    · rename_i a e
      cases h; rw [e] at hx
      generalize hc' : ρ' x = c' at hx
      cases hx with
      | ptr b o a' hb hl => exact ⟨_, by unfold execOp; rw [ho]; simp only [hc']; rfl, .ptr b o a' hb hl⟩
    · rename_i f a b e
      cases h; rw [e] at hx
      generalize hc' : ρ' x = c' at hx
      cases hx with
      | func f a b a' b' h1 h2 => exact ⟨_, by unfold execOp; rw [ho]; simp only [hc']; rfl, .func f a b a' b' h1 h2⟩
    · rename_i t u e
      cases h; rw [e] at hx
      generalize hc' : ρ' x = c' at hx
      cases hx with
      | iface t u u' hu => exact ⟨_, by unfold execOp; rw [ho]; simp only [hc']; rfl, .iface t u u' hu⟩
    · cases h
  · -- binOp
    rename_i op t x y yt ho
    obtain ⟨h1, v', h2, h3⟩ := abin_sound x y h (hρ x (by rw [ho]; simp [Op.operands])) (hρ y (by rw [ho]; simp [Op.operands])) w
    exact ⟨v', by unfold execOp; rw [ho]; simp [h1, h2], h3⟩
  · -- unOp
    rename_i op t x ho
    obtain ⟨h1, h2⟩ := aun_sound (C := C) h (hρ x (by rw [ho]; simp [Op.operands])) w
    exact ⟨v, by unfold execOp; rw [ho]; simp [h1], h2⟩
  · -- convert
    rename_i s d x ho
    have hx := hρ x (by rw [ho]; simp [Op.operands])
    unfold aconv at h
    split at h
    · rename_i k n e
      split at h
      · rename_i sd kd hs hu
        cases h; rw [e] at hx
        generalize hc' : ρ' x = c' at hx
        cases hx
        exact ⟨.int kd (kd.wrap n), by unfold execOp; rw [ho]; simp [convert, run_und hs, run_und hu, hc', Conv.intToInt], .int _ _⟩
      · cases h
    · cases h
  · -- makeInterface
    rename_i t x ho
    split at h
    · cases h
    · rename_i d hno hu
      cases h
      refine ⟨.iface t (ρ' x), ?_, .iface _ _ _ (hρ x (by rw [ho]; simp [Op.operands]))⟩
      unfold execOp; rw [ho]
      simp only [Sem.run_bind, Instr.makeInterface, run_und hu, Result.andThen_ok]
      cases d <;> first | rfl | exact absurd rfl (hno _)
    · cases h
  · -- makeFunc
    rename_i f a b ho
    cases h
    have hf : ∀ x, x ∈ (a ++ b).toList → VR φ N (ρ x) (ρ' x) := fun x hx => hρ x (by rw [ho]; simpa [Op.operands] using hx)
    obtain ⟨a⟩ := a
    obtain ⟨b⟩ := b
    refine ⟨.func (.func f) ⟨a.map ρ'⟩ ⟨b.map ρ'⟩, by unfold execOp; rw [ho]; simp [Instr.makeFunc], ?_⟩
    simp only [List.map_toArray]
    exact .func _ _ _ _ _ (mapR fun x hx => hf x (by simp [hx])) (mapR fun x hx => hf x (by simp [hx]))
  · -- slice
    rename_i t x l hh m ho
    refine wrap (s := Instr.sliceAt t (ρ' x) (l.map ρ') (hh.map ρ') (m.map ρ')) (by unfold execOp; rw [ho]) ?_
    exact aslice_sound hN hnw h (hρ x (by rw [ho]; simp [Op.operands])) (optR_of fun y e => hρ y (by rw [ho]; subst e; simp [Op.operands]))
      (optR_of fun y e => hρ y (by rw [ho]; subst e; simp [Op.operands])) (optR_of fun y e => hρ y (by rw [ho]; subst e; simp [Op.operands])) w
  · rename_i t x f ho
    exact wrap (s := Instr.fieldAt t (ρ' x) f) (by unfold execOp; rw [ho]) (afieldAddr_sound h (hρ x (by rw [ho]; simp [Op.operands])) w)
  · rename_i t x f ho
    exact wrap (s := Instr.field t (ρ' x) f) (by unfold execOp; rw [ho]) (afield_sound h (hρ x (by rw [ho]; simp [Op.operands])) w)
  · rename_i t x i ho
    exact wrap (s := Instr.indexAt t (ρ' x) (ρ' i)) (by unfold execOp; rw [ho]) (aindexAddr_sound h (hρ x (by rw [ho]; simp [Op.operands])) (hρ i (by rw [ho]; simp [Op.operands])) w)
  · rename_i t x ho
    exact wrap (s := Instr.arrayAt t (ρ' x)) (by unfold execOp; rw [ho]) (aarrayAt_sound h (hρ x (by rw [ho]; simp [Op.operands])) w)
  · rename_i t x i ho
    exact wrap (s := Instr.index t (ρ' x) (ρ' i)) (by unfold execOp; rw [ho]) (aindex_sound h (hρ x (by rw [ho]; simp [Op.operands])) (hρ i (by rw [ho]; simp [Op.operands])) w)
  · rename_i x xt t ok ho
    exact wrap (s := Instr.typeAssert (ρ' x) xt t ok) (by unfold execOp; rw [ho]) (atypeAssert_sound h (hρ x (by rw [ho]; simp [Op.operands])) w)
  · -- extract
    rename_i t i ho
    have hx := hρ t (by rw [ho]; simp [Op.operands])
    split at h
    · rename_i vs e
      cases hne : exOk vs.toList with
      | false => simp only [hne] at h; cases h
      | true =>
      simp only [hne] at h
      rw [e] at hx
      generalize hc' : ρ' t = c' at hx
      cases hx with
      | any => simp [exOk] at hne
      | tok => simp [exOk] at hne
      | tuple l l' hl =>
        obtain ⟨v', h1, h2⟩ := hl.get h
        exact ⟨v', by unfold execOp; rw [ho]; simp [Instr.extract, hc', h1], h2⟩
    · cases h
  · -- len
    rename_i args ts ho
    split at h
    · rename_i x t ha ht
      obtain ⟨v', h1, h2⟩ := alen_sound (ty := o.type) h (hρ x (by rw [ho]; simp [Op.operands, Call.operands, ha])) w
      exact ⟨v', run_len_call ho ha ht h1, h2⟩
    · cases h
  · -- min
    rename_i args ts ho
    have hm := mapR (φ := φ) (N := N) (l := args.toList) (ρ := ρ) (ρ' := ρ') fun x hx => hρ x (by rw [ho]; simpa [Op.operands, Call.operands] using hx)
    split at h
    · rename_i k x rest e
      rw [e] at hm
      generalize hc' : args.toList.map ρ' = l' at hm
      cases hm with
      | cons _ u' _ m' hu hm =>
        cases hu
        obtain ⟨h1, h2⟩ := min_sound (P := C.P) rest m' k x v h hm w
        refine ⟨v, ?_, h2⟩
        unfold execOp; rw [ho]
        simp only [resolve_builtin, Sem.run_bind, Sem.run_pure, Result.andThen_ok, invoke, builtin, Builtin.min_, Array.toList_map, hc', h1]
    · cases h
  · -- max
    rename_i args ts ho
    have hm := mapR (φ := φ) (N := N) (l := args.toList) (ρ := ρ) (ρ' := ρ') fun x hx => hρ x (by rw [ho]; simpa [Op.operands, Call.operands] using hx)
    split at h
    · rename_i k x rest e
      rw [e] at hm
      generalize hc' : args.toList.map ρ' = l' at hm
      cases hm with
      | cons _ u' _ m' hu hm =>
        cases hu
        obtain ⟨h1, h2⟩ := max_sound (P := C.P) rest m' k x v h hm w
        refine ⟨v, ?_, h2⟩
        unfold execOp; rw [ho]
        simp only [resolve_builtin, Sem.run_bind, Sem.run_pure, Result.andThen_ok, invoke, builtin, Builtin.max_, Array.toList_map, hc', h1]
    · cases h
  · cases h
end
end Go.Proofs.Ytpdhkonifbdckaa.Abs
