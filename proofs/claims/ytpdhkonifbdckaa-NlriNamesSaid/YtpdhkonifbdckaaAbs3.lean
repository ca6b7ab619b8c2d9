/- Operations that only compute, continued: equality, numbers, slices; all of them together. -/
import Derived.Test.YtpdhkonifbdckaaAbs2
namespace Go.Proofs.Ytpdhkonifbdckaa.Abs
open Go
set_option linter.unusedSectionVars false
variable [Tok]
set_option linter.unusedSimpArgs false

section
variable {C : Ctx} {φ : Nat → Option Loc} {N : Nat}

theorem forIn_range_eq {α : Type} (n : Nat) (init : α) (f : Nat → α → Sem (ForInStep α)) :
    (forIn [0:n] init f : Sem α) = forIn (List.range' 0 n) init f := by
  simp

theorem elems_sound {P : Program} {eq : TypeId → Value → Value → Option Bool} {d : Nat} {e : TypeId} {k : Nat} (hk : sizeAt C e = some k) {xs ys xs' ys' : List Value}
    (heq : ∀ t x y x' y' r, eq t x y = some r → VR φ N x x' → VR φ N y y' → ∀ w, (Op.equalIn d t x' y').run C.P w = .ok r w)
    (hx : VRs φ N xs xs') (hy : VRs φ N ys ys') : ∀ (n i : Nat) (r : Bool), elemsEq C eq e k xs ys n i = some r → ∀ w,
    (forIn (List.range' i n) ((none, ()) : Option Bool × Unit) (fun j (_ : Option Bool × Unit) => (do
        let a ← part e ⟨xs'⟩ (j * k)
        let b ← part e ⟨ys'⟩ (j * k)
        let q ← Op.equalIn d e a b
        if (!q) = true then pure (ForInStep.done (some false, ())) else pure (ForInStep.yield (none, ())) : Sem (ForInStep (Option Bool × Unit))))).run C.P w
      = .ok (if r then none else some false, ()) w
  | 0, i, r, h, w => by simp only [elemsEq, Option.some.injEq] at h; subst h; simp
  | n + 1, i, r, h, w => by
    simp only [elemsEq] at h
    split at h
    · rename_i a b ha hb
      obtain ⟨a', h1, ra⟩ := run_part ha hx w
      obtain ⟨b', h2, rb⟩ := run_part hb hy w
      split at h
      · rename_i hq
        have hq' := heq _ _ _ _ _ _ hq ra rb w
        have ih := elems_sound (P := P) hk heq hx hy n (i + 1) r h w
        simp only [List.range'_succ, List.forIn_cons, Sem.run_bind, h1, h2, hq', Result.andThen_ok]
        simpa using ih
      · rename_i hq
        have hq' := heq _ _ _ _ _ _ hq ra rb w
        cases h
        simp only [List.range'_succ, List.forIn_cons, Sem.run_bind, h1, h2, hq', Result.andThen_ok]
        simp
      · cases h
    · cases h

theorem fields_sound {eq : TypeId → Value → Value → Option Bool} {d : Nat} {xs ys xs' ys' : List Value}
    (heq : ∀ t x y x' y' r, eq t x y = some r → VR φ N x x' → VR φ N y y' → ∀ w, (Op.equalIn d t x' y').run C.P w = .ok r w)
    (hx : VRs φ N xs xs') (hy : VRs φ N ys ys') : ∀ (fs : List Field) (r : Bool), fieldsEq C eq fs xs ys = some r → ∀ w, (Op.eqFields d ⟨xs'⟩ ⟨ys'⟩ fs).run C.P w = .ok r w
  | [], r, h, w => by simp only [fieldsEq, Option.some.injEq] at h; subst h; simp [Op.eqFields]
  | f :: fs, r, h, w => by
    simp only [fieldsEq] at h
    by_cases hn : f.name ≠ "_"
    · rw [if_pos hn] at h
      split at h
      · rename_i a b ha hb
        obtain ⟨a', h1, ra⟩ := run_part ha hx w
        obtain ⟨b', h2, rb⟩ := run_part hb hy w
        split at h
        · rename_i hq
          have hq' := heq _ _ _ _ _ _ hq ra rb w
          have ih := fields_sound heq hx hy fs r h w
          simp only [Op.eqFields, if_pos hn, Sem.run_bind, h1, h2, hq', Result.andThen_ok]
          simpa using ih
        · rename_i hq
          have hq' := heq _ _ _ _ _ _ hq ra rb w
          cases h
          simp only [Op.eqFields, if_pos hn, Sem.run_bind, h1, h2, hq', Result.andThen_ok]
          simp
        · cases h
      · cases h
    · rw [if_neg hn] at h
      simpa only [Op.eqFields, if_neg hn] using fields_sound heq hx hy fs r h w

theorem equal_sound : ∀ (d : Nat) (t : TypeId) (x y x' y' : Value) (r : Bool), aequal C d t x y = some r → VR φ N x x' → VR φ N y y' → ∀ w, (Op.equalIn d t x' y').run C.P w = .ok r w
  | 0, t, x, y, x', y', r, h, _, _, w => by simp [aequal] at h
  | d + 1, t, x, y, x', y', r, h, hx, hy, w => by
    unfold aequal at h
    split at h
    case h_13 =>
      rename_i fs xs ys hu
      split at h
      · cases h
      · rename_i hst
        cases hx with
        | agg _ xs' hxs => cases hy with
          | agg _ ys' hys =>
            rw [run_equalIn_struct w d t _ _ (by simp [Program.fieldsOf, hu]) hst]
            simp only [Program.fieldsOf, hu]
            exact fields_sound (fun t x y x' y' r h hx hy w => equal_sound d t x y x' y' r h hx hy w) hxs hys fs.toList r h w
    case h_14 =>
      rename_i n e xs ys hu
      split at h
      · rename_i k hk
        cases hx with
        | agg _ xs' hxs => cases hy with
          | agg _ ys' hys =>
            have := elems_sound (P := C.P) hk (fun t x y x' y' r h hx hy w => equal_sound d t x y x' y' r h hx hy w) hxs hys n 0 r h w
            simp only [Op.equalIn, Sem.run_bind, run_und hu, Result.andThen_ok, run_size hk, forIn_range_eq]
            rw [this]
            cases r <;> rfl
      · cases h
    case h_15 => cases h
    all_goals
      rename_i hu
      cases hx <;> cases hy <;> simp only [Op.equalIn, Sem.run_bind, run_und hu, Result.andThen_ok] <;> first
        | (cases h; simp; done)
        | (split at h <;> first | (cases h; simp_all; done) | cases h)
        | simp_all
end
end Go.Proofs.Ytpdhkonifbdckaa.Abs
