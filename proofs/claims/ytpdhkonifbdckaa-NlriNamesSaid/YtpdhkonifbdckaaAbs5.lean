/- All operations that only compute, together. -/
import Derived.Test.YtpdhkonifbdckaaAbs4
namespace Go.Proofs.Ytpdhkonifbdckaa.Abs
open Go
set_option linter.unusedSectionVars false
variable [Tok]
set_option linter.unusedSimpArgs false

section
variable {C : Ctx} {φ : Nat → Option Loc} {N : Nat}

theorem add_off (b o n : Nat) : (⟨b, o, none⟩ : Addr).add n = ⟨b, o + n, none⟩ := by
  unfold Addr.add; split
  · rename_i h; subst h; rfl
  · rfl

theorem ite_addr (c : Prop) [Decidable c] (a : Addr) (n : Nat) : (if c then some a else (some a).map (·.add n)) = some (if c then a else a.add n) := by split <;> rfl

theorem cutSlice_known {k cap l ho m : Nat} {b : Addr} {a' : Addr} {v : Value} (h : cutSlice C k cap false (some b) (l, ho, m) = some v)
    (hb : b.block < N) (hlh : l ≤ ho) (hhm : ho ≤ m) (hl' : ∀ loc, φ b.block = some loc → a' = ⟨loc.blk, b.off, none⟩) :
    VR φ N v (.slice (some (if m = l then a' else a'.add (l * k))) (ho - l) (m - l)) := by
  obtain ⟨b, o, sp⟩ := b
  cases sp with
  | some _ => simp [cutSlice] at h
  | none =>
    simp only [cutSlice] at h
    split at h
    · rename_i hlt
      cases h
      refine .slice _ _ _ _ _ _ hb (by omega) (fun _ => rfl) fun loc hloc => ?_
      have ha := hl' loc hloc
      subst ha
      refine ⟨?_, fun k' hk' => by omega⟩
      split
      · rfl
      · exact add_off _ _ _
    · cases h

theorem aslice_sound (hN : C.B0 < N) (hnw : φ C.B0 = none) {t : TypeId} {x x' v : Value} {lo hi mx lo' hi' mx' : Option Value} (h : aslice C t x lo hi mx = some v)
    (hx : VR φ N x x') (h1 : OptR φ N lo lo') (h2 : OptR φ N hi hi') (h3 : OptR φ N mx mx') (w : World) :
    ∃ v', (Instr.sliceAt t x' lo' hi' mx').run C.P w = .ok v' w ∧ VR φ N v v' := by
  unfold aslice at h
  split at h
  · -- a string
    rename_i s hu
    split at h
    · cases h
    · cases hb : bnds s.size s.size lo hi none with
      | none => simp [hb] at h
      | some b =>
        simp only [hb, Option.map_some, Option.some.injEq] at h
        subst h
        cases hx
        have hbd := run_bounds (isSlice := false) (cap := s.size) h1 h2 h3 hb (Nat.le_refl _) C.P w
        cases mx' with
        | some _ => exact h3.elim
        | none => exact ⟨_, by simp [Instr.sliceAt, run_und hu, Instr.slice, hbd], .string _⟩
  · -- a slice
    rename_i e a len cap hu
    split at h
    · cases h
    rename_i k hk
    split at h
    · -- elastic
      rename_i hel
      split at h
      · rename_i hcap
        cases hb : bnds len len lo hi mx with
        | none => simp [hb] at h
        | some b =>
          obtain ⟨l, ho, m⟩ := b
          simp only [hb, Option.bind_some] at h
          obtain ⟨_, _, _, _, hlh, hmt, hhm⟩ := bnds_some hb
          simp only at hlh hmt hhm
          cases hx with
          | sliceNil => simp [EL] at hel
          | slice b o _ _ a' c' hbN hn hc hl' =>
            have hbd := run_bounds (isSlice := true) (cap := c') h1 h2 h3 hb hn C.P w
            have run : (Instr.sliceAt t (.slice (some a') len c') lo' hi' mx').run C.P w
                = .ok (.slice (some (if (if mx.isSome then m else c') = l then a' else a'.add (l * k))) (ho - l) ((if mx.isSome then m else c') - l)) w := by
              simp only [Instr.sliceAt, Sem.run_bind, run_und hu, Result.andThen_ok, Instr.slice, hbd, run_size hk, Sem.run_pure, ite_addr]
            refine ⟨_, run, ?_⟩
            cases mx with
            | some mv =>
              simp only [Option.isSome_some, if_true]
              refine cutSlice_known (C := C) h hbN hlh ?_ fun loc hloc => (hl' loc hloc).1
              rcases hhm with h5 | ⟨_, h5⟩
              · exact h5
              · cases h5
            | none =>
              simp only [Option.isSome_none, Bool.false_eq_true, if_false, Option.isNone_none, cutSlice] at h ⊢
              have hho : ho ≤ len := by rcases hhm with h4 | ⟨h4, _⟩ <;> omega
              split at h
              · rename_i hl0
                subst hl0
                cases h
                have e : (if c' = 0 then a' else a'.add (0 * k)) = a' := by simp [Addr.add]
                rw [e]
                exact .slice _ _ _ _ _ _ hbN (by omega) (by intro hlt; exact hc hlt) hl'
              · split at h
                · rename_i hl0 hlo
                  subst hlo
                  cases h
                  simp only [Nat.sub_self]
                  exact .slice _ _ _ _ _ _ hN (Nat.zero_le _) (by intro hlt; omega) (by intro l hl; rw [hnw] at hl; cases hl)
                · rename_i hl0 hlo
                  cases h
                  rw [if_neg (by omega)]
                  refine .slice _ _ _ _ _ _ hbN (by omega) (by intro hlt; omega) fun loc hloc => ?_
                  obtain ⟨ha, hcap'⟩ := hl' loc hloc
                  subst ha
                  refine ⟨add_off _ _ _, fun k' hk' => ?_⟩
                  have : k' = k := by omega
                  subst this
                  have h6 := hcap' k' hcap
                  rw [← h6, Nat.add_assoc, ← Nat.add_mul, show l + (c' - l) = c' from by omega]
      · cases h
    · rename_i hel
      cases hb : bnds len cap lo hi mx with
      | none => simp [hb] at h
      | some b =>
        obtain ⟨l, ho, m⟩ := b
        simp only [hb, Option.bind_some] at h
        obtain ⟨hm0, _, _, _, hlh, hmt, hhm⟩ := bnds_some hb
        simp only at hlh hmt hhm hm0
        cases hx with
        | sliceNil =>
          simp only [cutSlice] at h
          split at h
          · rename_i hlm
            cases h
            have hbd := run_bounds (isSlice := true) (cap := 0) h1 h2 h3 hb (Nat.le_refl _) C.P w
            refine ⟨.slice none 0 0, ?_, .sliceNil⟩
            obtain ⟨e1, e2⟩ := hlm
            obtain rfl : m = 0 := by omega
            obtain rfl : l = 0 := by omega
            obtain rfl : ho = 0 := by omega
            simp only [Instr.sliceAt, Sem.run_bind, run_und hu, Result.andThen_ok, Instr.slice, hbd, run_size hk]
            cases mx <;> simp
          · cases h
        | slice b o _ _ a' c' hbN hn hc hl' =>
          have hcc : c' = cap := hc (by omega)
          subst hcc
          have hbd := run_bounds (isSlice := true) (cap := c') h1 h2 h3 hb (Nat.le_refl _) C.P w
          have hcm : (if mx.isSome then m else c') = m := by
            cases mx with
            | some _ => rfl
            | none => simp only [boundOr, Option.some.injEq] at hm0; simp [hm0]
          rw [hcm] at hbd
          have run : (Instr.sliceAt t (.slice (some a') len c') lo' hi' mx').run C.P w = .ok (.slice (some (if m = l then a' else a'.add (l * k))) (ho - l) (m - l)) w := by
            simp only [Instr.sliceAt, Sem.run_bind, run_und hu, Result.andThen_ok, Instr.slice, hbd, run_size hk, Sem.run_pure, ite_addr]
          refine ⟨_, run, cutSlice_known (C := C) h hbN hlh ?_ fun loc hloc => (hl' loc hloc).1⟩
          rcases hhm with h5 | ⟨h5, h6⟩
          · exact h5
          · subst h6; simp only [boundOr, Option.some.injEq] at hm0; omega
  · -- an array behind a pointer
    rename_i n e b hu
    split at h
    · cases h
    rename_i k hk
    cases hb : bnds n n lo hi mx with
    | none => simp [hb] at h
    | some bb =>
      obtain ⟨l, ho, m⟩ := bb
      simp only [hb, Option.bind_some] at h
      obtain ⟨hm0, _, _, _, hlh, hmt, hhm⟩ := bnds_some hb
      simp only at hlh hmt hhm hm0
      cases hx with
      | ptr b o a' hbN hl' =>
        have hbd := run_bounds (isSlice := false) (cap := n) h1 h2 h3 hb (Nat.le_refl _) C.P w
        have hcm : (if mx.isSome then m else n) = m := by
          cases mx with
          | some _ => rfl
          | none => simp only [boundOr, Option.some.injEq] at hm0; simp [hm0]
        rw [hcm] at hbd
        refine ⟨_, by simp only [Instr.sliceAt, Sem.run_bind, run_und hu, Result.andThen_ok, Instr.sureAddr, Sem.run_pure, hbd, run_size hk], cutSlice_known (C := C) h hbN hlh ?_ hl'⟩
        rcases hhm with h5 | ⟨h5, h6⟩
        · exact h5
        · subst h6; simp only [boundOr, Option.some.injEq] at hm0; omega
  · cases h

theorem aindexAddr_sound {t : TypeId} {x x' i i' v : Value} (h : aindexAddr C t x i = some v) (hx : VR φ N x x') (hi : VR φ N i i') (w : World) :
    ∃ v', (Instr.indexAt t x' i').run C.P w = .ok v' w ∧ VR φ N v v' := by
  unfold aindexAddr at h
  split at h
  · rename_i e b o len cap n hu hn
    split at h
    · rename_i k hlt hk
      cases h
      obtain ⟨kd, rfl⟩ := natOf_some hn hi
      cases hx with
      | slice _ _ _ _ a' c' hb hle hc hl =>
        have hlt' : n < len := Nat.le_of_ble_eq_true hlt
        refine ⟨.pointer (some (a'.add (n * k))), ?_, .ptr _ _ _ hb fun l hl1 => ?_⟩
        · simp [Instr.indexAt, asIntOf, run_und hu, run_size hk, hlt']
        · obtain ⟨ha, _⟩ := hl l hl1
          subst ha
          exact add_off _ _ _
    · cases h
  · rename_i len e b o n hu hn
    split at h
    · rename_i k hlt hk
      cases h
      obtain ⟨kd, rfl⟩ := natOf_some hn hi
      cases hx with
      | ptr _ _ a' hb hl =>
        have hlt' : n < len := Nat.le_of_ble_eq_true hlt
        refine ⟨.pointer (some (a'.add (n * k))), ?_, .ptr _ _ _ hb fun l hl1 => ?_⟩
        · simp [Instr.indexAt, asIntOf, run_und hu, run_size hk, hlt', Instr.sureAddr]
        · have ha := hl l hl1
          subst ha
          exact add_off _ _ _
    · cases h
  · cases h

theorem aindex_sound {t : TypeId} {x x' i i' v : Value} (h : aindex C t x i = some v) (hx : VR φ N x x') (hi : VR φ N i i') (w : World) :
    ∃ v', (Instr.index t x' i').run C.P w = .ok v' w ∧ VR φ N v v' := by
  unfold aindex at h
  split at h
  · rename_i len e cs n hu hn
    split at h
    · rename_i k hlt hk
      obtain ⟨kd, rfl⟩ := natOf_some hn hi
      have hlt' : n < len := Nat.le_of_ble_eq_true hlt
      cases hx with
      | agg _ cs' hcs =>
        obtain ⟨v', h1, h2⟩ := run_part h hcs w
        exact ⟨v', by simp [Instr.index, asIntOf, run_und hu, run_size hk, hlt', h1], h2⟩
    · cases h
  · rename_i s n hu hn
    split at h
    · rename_i b hb
      cases h
      obtain ⟨kd, rfl⟩ := natOf_some hn hi
      cases hx
      exact ⟨_, by simp [Instr.index, asIntOf, run_und hu, hb], .int _ _⟩
    · cases h
  · cases h

theorem aarrayAt_sound {t : TypeId} {x x' v : Value} (h : aarrayAt C t x = some v) (hx : VR φ N x x') (w : World) :
    ∃ v', (Instr.arrayAt t x').run C.P w = .ok v' w ∧ VR φ N v v' := by
  unfold aarrayAt at h
  split at h
  · rename_i n e a len cap hu
    split at h
    · rename_i hle
      cases h
      have hle := Nat.le_of_ble_eq_true hle
      cases hx with
      | slice b o _ _ a' c' hb _ hc hl =>
        exact ⟨.pointer (some a'), by simp [Instr.arrayAt, run_und hu, Nat.not_lt.2 hle], .ptr _ _ _ hb fun l hl1 => (hl l hl1).1⟩
    · cases h
  · cases h

theorem afieldAddr_sound {t : TypeId} {x x' v : Value} {f : Nat} (h : afieldAddr C t x f = some v) (hx : VR φ N x x') (w : World) :
    ∃ v', (Instr.fieldAt t x' f).run C.P w = .ok v' w ∧ VR φ N v v' := by
  unfold afieldAddr fieldsAt at h
  split at h
  · rename_i fs b o hfs
    have hu : C.P.underlying t = some (.struct fs) := by
      split at hfs
      · rename_i hu; cases hfs; exact hu
      · cases hfs
    split at h
    · rename_i fd hfd
      split at h
      · rename_i n hn
        cases h
        cases hx with
        | ptr _ _ a' hb hl =>
          refine ⟨.pointer (some (a'.add fd.offset)), ?_, .ptr _ _ _ hb fun l hl1 => ?_⟩
          · simp [Instr.fieldAt, run_und hu, hfd, Instr.sureAddr, fieldPlace, run_size hn]
          · have ha := hl l hl1
            subst ha
            exact add_off _ _ _
      · cases h
    · cases h
  · cases h

theorem afield_sound {t : TypeId} {x x' v : Value} {f : Nat} (h : afield C t x f = some v) (hx : VR φ N x x') (w : World) :
    ∃ v', (Instr.field t x' f).run C.P w = .ok v' w ∧ VR φ N v v' := by
  unfold afield fieldsAt at h
  split at h
  · rename_i fs cs hfs
    have hu : C.P.underlying t = some (.struct fs) := by
      split at hfs
      · rename_i hu; cases hfs; exact hu
      · cases hfs
    split at h
    · rename_i fd hfd
      cases hx with
      | agg _ cs' hcs =>
        obtain ⟨v', h1, h2⟩ := run_part h hcs w
        exact ⟨v', by simp [Instr.field, run_und hu, hfd, asAgg, h1], h2⟩
    · cases h
  · cases h

theorem alen_sound {t ty : TypeId} {x x' v : Value} (h : alen C t x = some v) (hx : VR φ N x x') (w : World) :
    ∃ v', (Builtin.len_ #[t] ty #[x']).run C.P w = .ok v' w ∧ VR φ N v v' := by
  unfold alen at h
  split at h
  · rename_i s hu; cases h; cases hx; exact ⟨goInt _, by simp [Builtin.len_, run_und hu], .int _ _⟩
  · rename_i n e hu; cases h; exact ⟨goInt _, by simp [Builtin.len_, run_und hu], .int _ _⟩
  · rename_i e a n c hu
    cases h
    cases hx with
    | sliceNil => exact ⟨goInt _, by simp [Builtin.len_, run_und hu], .int _ _⟩
    | slice => exact ⟨goInt _, by simp [Builtin.len_, run_und hu], .int _ _⟩
  · rename_i a b hu; cases h; cases hx; exact ⟨goInt _, by simp [Builtin.len_, run_und hu], .int _ _⟩
  · cases h

theorem max_sound {P : Program} : ∀ (l l' : List Value) (k : IntKind) (x : Int) (v : Value), aminmax true k x l = some v → VRs φ N l l' → ∀ w,
    (l'.foldlM Builtin.max2 (.int k x)).run P w = .ok v w ∧ VR φ N v v
  | [], l', k, x, v, h, hl, w => by
    cases hl; simp only [aminmax, Option.some.injEq] at h; subst h; exact ⟨by simp, .int _ _⟩
  | u :: l, l', k, x, v, h, hl, w => by
    cases hl with
    | cons _ u' _ m' hu hm =>
      cases hu <;> simp only [aminmax] at h <;> first | (cases h; done) | skip
      rename_i k' y
      have := max_sound (P := P) l m' k _ v h hm w
      simpa [Builtin.max2] using this
theorem min_sound {P : Program} : ∀ (l l' : List Value) (k : IntKind) (x : Int) (v : Value), aminmax false k x l = some v → VRs φ N l l' → ∀ w,
    (l'.foldlM Builtin.min2 (.int k x)).run P w = .ok v w ∧ VR φ N v v
  | [], l', k, x, v, h, hl, w => by
    cases hl; simp only [aminmax, Option.some.injEq] at h; subst h; exact ⟨by simp, .int _ _⟩
  | u :: l, l', k, x, v, h, hl, w => by
    cases hl with
    | cons _ u' _ m' hu hm =>
      cases hu <;> simp only [aminmax] at h <;> first | (cases h; done) | skip
      rename_i k' y
      have := min_sound (P := P) l m' k _ v h hm w
      simpa [Builtin.min2] using this
end
end Go.Proofs.Ytpdhkonifbdckaa.Abs
