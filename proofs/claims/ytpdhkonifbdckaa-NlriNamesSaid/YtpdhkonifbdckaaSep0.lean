/- An operation of the abstract interpreter depends on the values of its own operands alone. -/
import Derived.Test.YtpdhkonifbdckaaAbs14
namespace Go.Proofs.Ytpdhkonifbdckaa.Abs
open Go

/-- The two valuations agree on what an operation names. -/
def Agree (o : Op) (ρ ρ' : Operand → Value) : Prop := ∀ x, x ∈ o.operands.toList → ρ x = ρ' x

section
variable {C : Ctx} {ρ ρ' : Operand → Value}

theorem agree_pairs (ps : List (Nat × Operand)) (h : ∀ x, x ∈ ps.map (·.2) → ρ x = ρ' x) : (ps.map fun p => (p.1, ρ p.2)) = ps.map fun p => (p.1, ρ' p.2) :=
  List.map_congr_left fun p hp => by rw [h p.2 (List.mem_map_of_mem hp)]
theorem agree_map (l : List Operand) (h : ∀ x, x ∈ l → ρ x = ρ' x) : l.map ρ = l.map ρ' := List.map_congr_left h
theorem agree_arr (l : Array Operand) (h : ∀ x, x ∈ l.toList → ρ x = ρ' x) : l.map ρ = l.map ρ' := by
  obtain ⟨l⟩ := l
  simp only [List.map_toArray, List.map_congr_left h]
theorem agree_opt (l : Option Operand) (h : ∀ x, x ∈ l.toList → ρ x = ρ' x) : l.map ρ = l.map ρ' := by
  cases l with
  | none => rfl
  | some x => simp [h x (by simp)]

theorem Agree.call {c : Call} (h : Agree (.call c) ρ ρ') : (∀ x, x ∈ c.args.toList → ρ x = ρ' x) ∧ (∀ f, c.callee = .value f → ρ f = ρ' f) ∧ (∀ r m, c.callee = .invoke r m → ρ r = ρ' r) := by
  refine ⟨fun x hx => h x ?_, fun f hf => h f ?_, fun r m hr => h r ?_⟩
  · simp [Op.operands, Call.operands, hx]
  · simp [Op.operands, Call.operands, hf]
  · simp [Op.operands, Call.operands, hr]

theorem aP_agree {o : Op} (h : Agree o ρ ρ') : aP C o ρ = aP C o ρ' := by
  cases o with
  | build t ps =>
    have := agree_pairs (ρ := ρ) (ρ' := ρ') ps.toList (fun x hx => h x (by simpa [Op.operands] using hx))
    simp only [aP, this]
  | makeFunc f a b =>
    have h1 := agree_arr (ρ := ρ) (ρ' := ρ') a (fun x hx => h x (by simp only [Op.operands, Array.toList_append, List.mem_append]; exact .inl hx))
    have h2 := agree_arr (ρ := ρ) (ρ' := ρ') b (fun x hx => h x (by simp only [Op.operands, Array.toList_append, List.mem_append]; exact .inr hx))
    cases f <;> simp only [aP, h1, h2]
  | slice t x l hi m =>
    have h0 := h x (by simp [Op.operands])
    have h1 := agree_opt (ρ := ρ) (ρ' := ρ') l (fun y hy => h y (by simp [Op.operands]; cases l <;> simp_all))
    have h2 := agree_opt (ρ := ρ) (ρ' := ρ') hi (fun y hy => h y (by simp [Op.operands]; cases hi <;> simp_all))
    have h3 := agree_opt (ρ := ρ) (ρ' := ρ') m (fun y hy => h y (by simp [Op.operands]; cases m <;> simp_all))
    simp only [aP, h0, h1, h2, h3]
  | call c =>
    obtain ⟨h1, _, _⟩ := h.call
    obtain ⟨callee, args, argTypes⟩ := c
    have h2 := agree_map args.toList h1
    cases callee with
    | value f => rfl
    | invoke r m => rfl
    | builtin b =>
      cases b <;> first | rfl | (simp only [aP, h2]; done) | (
        simp only [aP]
        split
        · rename_i x t hx ht
          rw [h1 x (by rw [hx]; simp)]
        · rfl)
  | _ => first
    | rfl
    | (have h0 := h _ (by simp only [Op.operands]; exact List.Mem.head _); have h1 := h _ (by simp only [Op.operands]; exact List.Mem.tail _ (List.Mem.head _)); have h2 := h _ (by simp only [Op.operands]; exact List.Mem.tail _ (List.Mem.tail _ (List.Mem.head _))); simp only [aP, h0, h1, h2])
    | (have h0 := h _ (by simp only [Op.operands]; exact List.Mem.head _); have h1 := h _ (by simp only [Op.operands]; exact List.Mem.tail _ (List.Mem.head _)); simp only [aP, h0, h1])
    | (have h0 := h _ (by simp only [Op.operands]; exact List.Mem.head _); simp only [aP, h0])

theorem aR_agree {o : Op} {s : St} (h : Agree o ρ ρ') : aR C s o ρ = aR C s o ρ' := by
  cases o with
  | call c =>
    obtain ⟨h1, _, _⟩ := h.call
    obtain ⟨callee, args, argTypes⟩ := c
    cases callee with
    | value f => rfl
    | invoke r m => rfl
    | builtin b =>
      cases b <;> first | rfl | (
        simp only [aR]
        split
        · rename_i x t hx ht
          rw [h1 x (by rw [hx]; simp)]
        · rfl)
  | _ => first
    | rfl
    | (have h0 := h _ (by simp only [Op.operands]; exact List.Mem.head _); have h1 := h _ (by simp only [Op.operands]; exact List.Mem.tail _ (List.Mem.head _)); have h2 := h _ (by simp only [Op.operands]; exact List.Mem.tail _ (List.Mem.tail _ (List.Mem.head _))); simp only [aR, h0, h1, h2])
    | (have h0 := h _ (by simp only [Op.operands]; exact List.Mem.head _); have h1 := h _ (by simp only [Op.operands]; exact List.Mem.tail _ (List.Mem.head _)); simp only [aR, h0, h1])
    | (have h0 := h _ (by simp only [Op.operands]; exact List.Mem.head _); simp only [aR, h0])

theorem aA_agree {o : Op} (h : Agree o ρ ρ') : aA C o ρ = aA C o ρ' := by
  cases o with
  | buildSlice t n ps =>
    have := agree_pairs (ρ := ρ) (ρ' := ρ') ps.toList (fun x hx => h x (by simpa [Op.operands] using hx))
    simp only [aA, this]
  | makeMap t r =>
    have h1 := agree_opt (ρ := ρ) (ρ' := ρ') r (fun y hy => h y (by simp [Op.operands]; cases r <;> simp_all))
    simp only [aA, h1]
  | _ => first
    | rfl
    | (have h0 := h _ (by simp only [Op.operands]; exact List.Mem.head _); have h1 := h _ (by simp only [Op.operands]; exact List.Mem.tail _ (List.Mem.head _)); have h2 := h _ (by simp only [Op.operands]; exact List.Mem.tail _ (List.Mem.tail _ (List.Mem.head _))); simp only [aA, h0, h1, h2])
    | (have h0 := h _ (by simp only [Op.operands]; exact List.Mem.head _); have h1 := h _ (by simp only [Op.operands]; exact List.Mem.tail _ (List.Mem.head _)); simp only [aA, h0, h1])
    | (have h0 := h _ (by simp only [Op.operands]; exact List.Mem.head _); simp only [aA, h0])

theorem aW_agree {o : Op} {s : St} (h : Agree o ρ ρ') : aW C s o ρ = aW C s o ρ' := by
  cases o with
  | call c =>
    obtain ⟨h1, _, _⟩ := h.call
    obtain ⟨callee, args, argTypes⟩ := c
    cases callee with
    | value f => rfl
    | invoke r m => rfl
    | builtin b =>
      cases b <;> first | rfl | (
        simp only [aW]
        split
        · rename_i x y hx ht
          rw [h1 _ (by rw [hx]; exact List.Mem.head _), h1 _ (by rw [hx]; exact List.Mem.tail _ (List.Mem.head _))]
        · rfl)
                        | (
        simp only [aW]
        split
        · rename_i x hx ht
          rw [h1 _ (by rw [hx]; exact List.Mem.head _)]
        · rfl)
  | _ => first
    | rfl
    | (have h0 := h _ (by simp only [Op.operands]; exact List.Mem.head _); have h1 := h _ (by simp only [Op.operands]; exact List.Mem.tail _ (List.Mem.head _)); have h2 := h _ (by simp only [Op.operands]; exact List.Mem.tail _ (List.Mem.tail _ (List.Mem.head _))); simp only [aW, h0, h1, h2])
    | (have h0 := h _ (by simp only [Op.operands]; exact List.Mem.head _); have h1 := h _ (by simp only [Op.operands]; exact List.Mem.tail _ (List.Mem.head _)); simp only [aW, h0, h1])
    | (have h0 := h _ (by simp only [Op.operands]; exact List.Mem.head _); simp only [aW, h0])

theorem acallOp_agree {hd : HH Prop} {c : Call} {s : St} {k : Value → St → Prop} (h : Agree (.call c) ρ ρ') : acallOp C ansP hd s c ρ k = acallOp C ansP hd s c ρ' k := by
  obtain ⟨h1, h2, h3⟩ := h.call
  obtain ⟨callee, args, argTypes⟩ := c
  have h4 := agree_map args.toList h1
  cases callee with
  | value f => simp only [acallOp, h2 f rfl, h4]
  | invoke r m => simp only [acallOp, h3 r m rfl, h4]
  | builtin b => rfl

theorem aop_agree {hd : HH Prop} {o : Op} {s : St} {k : Value → St → Prop} (h : Agree o ρ ρ') : aop C ansP hd s o ρ k = aop C ansP hd s o ρ' k := by
  unfold aop aE
  rw [aP_agree h, aR_agree h, aA_agree h, aW_agree h]
  cases o with
  | call c => simp only [acallOp_agree h]
  | next it b => cases b <;> first | rfl | (have h0 := h _ (by simp only [Op.operands]; exact List.Mem.head _); simp only [h0])
  | _ => rfl
end
end Go.Proofs.Ytpdhkonifbdckaa.Abs
