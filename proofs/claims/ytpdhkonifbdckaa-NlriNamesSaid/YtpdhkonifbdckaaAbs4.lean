/- All operations that only compute. -/
import Derived.Test.YtpdhkonifbdckaaAbs3
namespace Go.Proofs.Ytpdhkonifbdckaa.Abs
open Go
set_option linter.unusedSectionVars false
variable [Tok]
set_option linter.unusedSimpArgs false

section
variable {C : Ctx} {φ : Nat → Option Loc} {N : Nat}

def numPair : Value → Value → Bool
  | .int _ _, .int _ _ | .float _ _, .float _ _ | .complex _ _ _, .complex _ _ _ | .string _, .string _ => true
  | _, _ => false

theorem binOp_eql (t : TypeId) (a b : Value) (h : numPair a b = false) : binOp .eql t a b = (do pure (.bool (← Op.equal t a b))) := by
  cases a <;> cases b <;> first | rfl | (simp [numPair] at h)
theorem binOp_neq (t : TypeId) (a b : Value) (h : numPair a b = false) : binOp .neq t a b = (do pure (.bool (!(← Op.equal t a b)))) := by
  cases a <;> cases b <;> first | rfl | (simp [numPair] at h)

theorem aequal_tuple_left (d : Nat) (t : TypeId) (l : Array Value) (y : Value) : aequal C d t (.tuple l) y = none := by
  cases d with
  | zero => rfl
  | succ d => unfold aequal; split <;> simp_all
theorem aequal_tuple_right (d : Nat) (t : TypeId) (l : Array Value) (x : Value) : aequal C d t x (.tuple l) = none := by
  cases d with
  | zero => rfl
  | succ d => unfold aequal; split <;> simp_all

theorem bin_pair {a a' b b' : Value} {d : Nat} {t : TypeId} {r : Bool} (ha : VR φ N a a') (hb : VR φ N b b') (hr : aequal C d t a b = some r) :
    numPair a' b' = numPair a b := by
  cases ha <;> cases hb <;> first | rfl | (simp only [aequal_tuple_left, aequal_tuple_right] at hr; cases hr)

def GuardOk (C : Ctx) (t : TypeId) : Value → Value → Prop
  | .nilIface, .nilIface => False
  | .agg _, .agg _ => C.P.eqGuardType C.P.depth t = false
  | _, _ => True
theorem run_guard {op : BinOp} {a a' b b' : Value} {d : Nat} {t : TypeId} {r : Bool} (x y : Operand) (ha : VR φ N a a') (hb : VR φ N b b') (hr : aequal C d t a b = some r)
    (hi : eqIdle C t a b = true) (w : World) : (eqGuard op t x y a' b').run C.P w = .ok () w := by
  have key : GuardOk C t a' b' := by
    cases ha <;> cases hb <;> first
      | trivial
      | (simp only [aequal_tuple_left, aequal_tuple_right] at hr; cases hr)
      | (simp [eqIdle] at hi; done)
      | (simpa [eqIdle, GuardOk] using hi)
  clear ha hb hr
  cases op <;> first
    | (cases a' <;> cases b' <;> first | rfl | exact key.elim | (simp only [GuardOk] at key; simp [eqGuard, run_program, key]))
    | (simp [eqGuard]; done)

theorem aint_sound {op : BinOp} {k : IntKind} {a b : Int} {v : Value} (hs : isShift op = false) (h : aint op k a b = some v) (t : TypeId) (w : World) :
    (binOp op t (.int k a) (.int k b)).run C.P w = .ok v w ∧ VR φ N v v := by
  cases op <;> simp only [aint, isShift] at h hs
  all_goals first
    | (cases h; exact ⟨by simp [binOp, Op.intArith, Op.intBits, Op.intCmp], by constructor⟩)
    | (split at h
       · cases h
       · rename_i hb
         cases h
         exact ⟨by simp [binOp, Op.intDiv, hb], by constructor⟩)
    | cases hs
    | cases h

theorem abin_sound {op : BinOp} {t : TypeId} {a a' b b' v : Value} (x y : Operand) (h : abin C op t a b = some v) (ha : VR φ N a a') (hb : VR φ N b b') (w : World) :
    (eqGuard op t x y a' b').run C.P w = .ok () w ∧ ∃ v', (binOp op t a' b').run C.P w = .ok v' w ∧ VR φ N v v' := by
  unfold abin at h
  split at h
  · rename_i k i k' j
    cases ha; cases hb
    refine ⟨by cases op <;> simp [eqGuard], ?_⟩
    split at h
    · rename_i hs
      unfold ashift at h
      split at h
      · cases h
      · rename_i hy
        split at h
        · cases h; exact ⟨_, by simp only [binOp, Op.shift, if_neg hy]; rfl, .int _ _⟩
        · cases h; exact ⟨_, by simp only [binOp, Op.shift, if_neg hy]; rfl, .int _ _⟩
        · cases h
    · rename_i hs
      split at h
      · rename_i hk
        subst hk
        obtain ⟨h1, h2⟩ := aint_sound (φ := φ) (N := N) (C := C) hs h t w
        exact ⟨v, h1, h2⟩
      · cases h
  · rename_i s s'
    cases ha; cases hb
    refine ⟨by cases op <;> simp [eqGuard], ?_⟩
    split at h
    · cases h; exact ⟨_, by simp only [binOp, Op.stringOp]; rfl, .bool _⟩
    · cases h; exact ⟨_, by simp only [binOp, Op.stringOp]; rfl, .bool _⟩
    · split at h
      · rename_i hsz
        cases h
        refine ⟨_, ?_, .string _⟩
        have h1 : s.data.toList.length + s'.data.toList.length ≤ 1048576 := Nat.le_of_ble_eq_true hsz
        have h2 : ¬ ((s.size + s'.size : Nat) : Int) > IntKind.i64.max := by
          have : IntKind.i64.max = 9223372036854775807 := by decide
          rw [this]
          have e1 : s.size = s.data.toList.length := rfl
          have e2 : s'.size = s'.data.toList.length := rfl
          omega
        have e : (⟨(s.data.toList ++ s'.data.toList).toArray⟩ : ByteArray) = s ++ s' := by
          apply ByteArray.ext
          apply Array.ext'
          simp
        rw [e]
        simp only [binOp, Op.stringOp, if_neg h2]
        rfl
      · cases h
    · cases h
  · rename_i hni hns
    have hnp : ∀ {r : Bool}, aequal C Op.maxDepth t a b = some r → numPair a' b' = false := by
      intro r hr
      rw [bin_pair ha hb hr]
      unfold numPair
      split <;> first | rfl | (exfalso; first | exact hni _ _ _ _ rfl rfl | exact hns _ _ rfl rfl) | skip
      all_goals (cases ha)
    split at h
    · rename_i hi
      cases hr : aequal C Op.maxDepth t a b with
      | none => simp [hr] at h
      | some r =>
        simp only [hr, Option.map_some, Option.some.injEq] at h
        subst h
        refine ⟨run_guard x y ha hb hr hi w, _, ?_, .bool r⟩
        rw [binOp_eql t a' b' (hnp hr)]
        simp [Op.equal, equal_sound _ _ _ _ _ _ _ hr ha hb w]
    · rename_i hi
      cases hr : aequal C Op.maxDepth t a b with
      | none => simp [hr] at h
      | some r =>
        simp only [hr, Option.map_some, Option.some.injEq] at h
        subst h
        refine ⟨run_guard x y ha hb hr hi w, _, ?_, .bool (!r)⟩
        rw [binOp_neq t a' b' (hnp hr)]
        simp [Op.equal, equal_sound _ _ _ _ _ _ _ hr ha hb w]
    · cases h

theorem aun_sound {op : UnOp} {a a' v : Value} (h : aun op a = some v) (ha : VR φ N a a') (w : World) : (Op.unary op a').run C.P w = .ok v w ∧ VR φ N v v := by
  unfold aun at h
  split at h
  · cases ha; cases h; exact ⟨by simp [Op.unary, Op.intArith], by constructor⟩
  · cases ha
    rename_i k n
    simp only [aint] at h; cases h; exact ⟨by simp [Op.unary, Op.intBits], by constructor⟩
  · cases ha; cases h; exact ⟨by simp [Op.unary], by constructor⟩
  · cases h

theorem natOf_some {v v' : Value} {n : Nat} (h : natOf v = some n) (hv : VR φ N v v') : ∃ k, v' = .int k (n : Int) := by
  unfold natOf at h
  split at h
  · rename_i k i
    split at h
    · cases h; cases hv; exact ⟨k, by congr 1; omega⟩
    · cases h
  · cases h

theorem run_bound {v v' : Value} {n y : Nat} (h : natOf v = some n) (hn : n ≤ y) (hv : VR φ N v v') (c : BoundsCode) (P : Program) (w : World) :
    (Instr.sliceBound v' y c).run P w = .ok n w := by
  obtain ⟨k, rfl⟩ := natOf_some h hv
  simp [Instr.sliceBound, asIntOf, hn]

theorem boundOr_some {dflt y n : Nat} {o : Option Value} (h : boundOr dflt y o = some n) :
    (o = none ∧ n = dflt) ∨ ∃ v, o = some v ∧ natOf v = some n ∧ n ≤ y := by
  unfold boundOr at h
  split at h
  · cases h; exact .inl ⟨rfl, rfl⟩
  · rename_i v
    split at h
    · rename_i m hm
      split at h
      · rename_i hle
        cases h
        exact .inr ⟨v, rfl, hm, Nat.le_of_ble_eq_true hle⟩
      · cases h
    · cases h

/-- Optional operands, related. -/
def OptR (φ : Nat → Option Loc) (N : Nat) : Option Value → Option Value → Prop
  | none, none => True
  | some v, some v' => VR φ N v v'
  | _, _ => False

theorem bnds_some {len top : Nat} {lo hi mx : Option Value} {b : Nat × Nat × Nat} (h : bnds len top lo hi mx = some b) :
    boundOr top top mx = some b.2.2 ∧ boundOr len b.2.2 hi = some b.2.1 ∧ boundOr 0 b.2.1 lo = some b.1 ∧ (mx.isSome = true → hi.isSome = true) ∧ b.1 ≤ b.2.1 ∧ b.2.2 ≤ top ∧
      (b.2.1 ≤ b.2.2 ∨ b.2.1 = len ∧ mx = none) := by
  unfold bnds at h
  split at h
  · cases h
  rename_i hno
  cases hm : boundOr top top mx with
  | none => simp [hm] at h
  | some m =>
    simp only [hm, Option.bind_some] at h
    cases hh : boundOr len m hi with
    | none => simp [hh] at h
    | some ho =>
      simp only [hh, Option.bind_some] at h
      cases hl : boundOr 0 ho lo with
      | none => simp [hl] at h
      | some l =>
        simp only [hl, Option.map_some, Option.some.injEq] at h
        subst h
        have hmh : mx.isSome = true → hi.isSome = true := fun hs => by
          cases hi with
          | none => exact absurd ⟨hs, rfl⟩ hno
          | some _ => rfl
        refine ⟨rfl, hh, hl, hmh, ?_, ?_, ?_⟩
        · show l ≤ ho
          rcases boundOr_some hl with ⟨_, e2⟩ | ⟨_, _, _, hle⟩ <;> omega
        · show m ≤ top
          rcases boundOr_some hm with ⟨_, e2⟩ | ⟨_, _, _, hle⟩ <;> omega
        · rcases boundOr_some hh with ⟨e1, e2⟩ | ⟨_, _, _, hle⟩
          · refine .inr ⟨e2, ?_⟩
            subst e1
            cases mx with
            | none => rfl
            | some _ => simp at hmh
          · exact .inl hle

/-- The bounds of a slice expression: where the abstract ones are answered against a top that the concrete capacity reaches. -/
theorem run_bounds {isSlice : Bool} {len top cap : Nat} {lo hi mx lo' hi' mx' : Option Value} {b : Nat × Nat × Nat} (h1 : OptR φ N lo lo') (h2 : OptR φ N hi hi') (h3 : OptR φ N mx mx')
    (h : bnds len top lo hi mx = some b) (htop : top ≤ cap) (P : Program) (w : World) :
    (Instr.sliceBounds isSlice len cap lo' hi' mx').run P w = .ok (b.1, b.2.1, if mx.isSome then b.2.2 else cap) w := by
  obtain ⟨l, ho, m⟩ := b
  obtain ⟨hm, hh, hl, hmh, -, hmt, -⟩ := bnds_some h
  simp only at hm hh hl hmt ⊢
  rcases boundOr_some hm with ⟨rfl, rfl⟩ | ⟨v, rfl, hv, hle⟩
  · cases mx' with
    | some _ => exact h3.elim
    | none =>
      simp only [Option.isSome_none, Bool.false_eq_true, if_false]
      rcases boundOr_some hh with ⟨rfl, rfl⟩ | ⟨v, rfl, hv, hle⟩
      · cases hi' with
        | some _ => exact h2.elim
        | none =>
          rcases boundOr_some hl with ⟨rfl, rfl⟩ | ⟨v, rfl, hv, hle⟩
          · cases lo' with
            | some _ => exact h1.elim
            | none => simp [Instr.sliceBounds]
          · cases lo' with
            | none => exact h1.elim
            | some v' => simp [Instr.sliceBounds, run_bound hv hle h1]
      · cases hi' with
        | none => exact h2.elim
        | some v' =>
          have r2 := fun c => run_bound hv (Nat.le_trans hle (Nat.le_trans hmt htop)) h2 c P w
          rcases boundOr_some hl with ⟨rfl, rfl⟩ | ⟨u, rfl, hu, hle'⟩
          · cases lo' with
            | some _ => exact h1.elim
            | none => simp [Instr.sliceBounds, r2]
          · cases lo' with
            | none => exact h1.elim
            | some u' => simp [Instr.sliceBounds, r2, run_bound hu hle' h1]
  · cases mx' with
    | none => exact h3.elim
    | some v' =>
      have r3 := fun c => run_bound hv (Nat.le_trans hle htop) h3 c P w
      simp only [Option.isSome_some, if_true]
      rcases boundOr_some hh with ⟨rfl, rfl⟩ | ⟨y, rfl, hy, hle2⟩
      · simp at hmh
      · cases hi' with
        | none => exact h2.elim
        | some y' =>
          have r2 := fun c => run_bound hy hle2 h2 c P w
          rcases boundOr_some hl with ⟨rfl, rfl⟩ | ⟨u, rfl, hu, hle'⟩
          · cases lo' with
            | some _ => exact h1.elim
            | none => simp [Instr.sliceBounds, r2, r3]
          · cases lo' with
            | none => exact h1.elim
            | some u' => simp [Instr.sliceBounds, r2, r3, run_bound hu hle' h1]
end
end Go.Proofs.Ytpdhkonifbdckaa.Abs
