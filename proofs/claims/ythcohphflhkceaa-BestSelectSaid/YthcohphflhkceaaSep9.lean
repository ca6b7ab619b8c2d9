/- Maps from structs of numbers. -/
import Derived.Test.YthcohphflhkceaaSep8
namespace Go.Proofs.Ythcohphflhkceaa.Abs
open Go
set_option linter.unusedVariables false
section
variable {C : Ctx} {hd : HH Prop} {l : Sl} {H : Hp} {v : Value} {x y z : Operand} {t : TypeId} {K V : Type} [DecidableEq K]
def mkH (ek : K → Value) (ev : V → Value) (ms : List (K × V × Nat)) : List MEnt := ms.map fun p => { key := ek p.1, val := ev p.2.1, born := p.2.2 }
def fH : List (K × V × Nat) → K → Option (Nat × V)
  | [], _ => none
  | (a, m, _) :: r, k => if k = a then some (0, m) else (fH r k).map fun p => (p.1 + 1, p.2)
theorem fH_none {ms : List (K × V × Nat)} {k : K} : fH ms k = none ↔ ∀ p ∈ ms, p.1 ≠ k := by
  induction ms with
  | nil => simp [fH]
  | cons p ms ih =>
    obtain ⟨a, m, n⟩ := p
    unfold fH
    by_cases e : k = a
    · subst e; simp
    · rw [if_neg e]
      simp only [Option.map_eq_none_iff, ih, List.mem_cons, forall_eq_or_imp]
      exact ⟨fun h => ⟨fun h2 => e h2.symm, h⟩, fun h => h.2⟩
theorem fH_at : ∀ {ms : List (K × V × Nat)} {i : Nat} {p : K × V × Nat}, (∀ q r, q < i → ms[q]? = some r → r.1 ≠ p.1) → ms[i]? = some p → fH ms p.1 = some (i, p.2.1)
  | [], i, p, _, h => by simp at h
  | a :: ms, 0, p, _, h => by
    have : a = p := by simpa using h
    subst this
    obtain ⟨a, m, n⟩ := a
    simp [fH]
  | (a, m, n) :: ms, i + 1, p, h1, h => by
    have h0 : p.1 ≠ a := fun e => h1 0 (a, m, n) (by omega) (by simp) e.symm
    have ih := fH_at (ms := ms) (i := i) (p := p) (fun q r hq hr => h1 (q + 1) r (by omega) (by simpa using hr)) (by simpa using h)
    rw [fH, if_neg h0, ih]; rfl
/-- A map type whose keys are told apart by what they stand for. -/
structure KeyMap (C : Ctx) (t : TypeId) (ek : K → Value) (z : Value) : Prop where
  und : ∃ kt et i, C.P.underlying t = some (.map kt et) ∧ (∀ k, (akeyOk C 10000 kt (ek k) && scal (ek k)) = true) ∧ (∀ a b, aequal C Op.maxDepth kt (ek a) (ek b) = some (decide (a = b))) ∧ C.P.info? et = some i ∧ i.zero = some z ∧ plainConst z = true
  bits : ∀ k, Instr.sameBits 10000 (ek k) (ek k) = true
theorem afind_H {ek : K → Value} {ev : V → Value} {kt : TypeId} (hk : ∀ a b, aequal C Op.maxDepth kt (ek a) (ek b) = some (decide (a = b))) (k : K) : ∀ (ms : List (K × V × Nat)) (i : Nat), afind C kt (ek k) (mkH ek ev ms) i = some ((fH ms k).map fun p => (i + p.1, ev p.2))
  | [], i => rfl
  | (a, m, n) :: ms, i => by
    have e := hk k a
    have ih := afind_H (ev := ev) hk k ms (i + 1)
    unfold mkH at ih ⊢
    simp only [List.map_cons, afind, e]
    by_cases hka : k = a
    · subst hka; simp [fH]
    · rw [decide_eq_false hka]
      simp only [ih, fH, if_neg hka]
      cases fH ms k with
      | none => rfl
      | some p => simp only [Option.map_some]; congr 3; omega
theorem lookE_H {ek : K → Value} {ev : V → Value} {zv : Value} (ht : KeyMap C t ek zv) (ms : List (K × V × Nat)) (k : K) (ok : Bool) :
    lookE C t (mkH ek ev ms) (ek k) ok = some (match fH ms k with | some p => if ok then .tuple #[ev p.2, .bool true] else ev p.2 | none => if ok then .tuple #[zv, .bool false] else zv) := by
  obtain ⟨kt, et, i, h1, h2, h3, h4, h5, h6⟩ := ht.und
  unfold lookE
  simp only [h1, h2 k, h4, h5, h6, afind_H h3]
  cases hq : fH ms k with
  | none => rfl
  | some m => rfl
theorem updE_Hnew {ek : K → Value} {ev : V → Value} {zv : Value} (ht : KeyMap C t ek zv) (ms : List (K × V × Nat)) (c : Nat) (k : K) (m : V) (hq : fH ms k = none) :
    updE C t (mkH ek ev ms) c (ek k) (ev m) = some (mkH ek ev (ms ++ [(k, m, c)]), c + 1) := by
  obtain ⟨kt, et, i, h1, h2, h3, h4, h5, h6⟩ := ht.und
  unfold updE
  simp only [h1, h2 k, afind_H h3, hq, Option.map_none]
  simp [mkH]
theorem setNth_map {α β : Type} (f : α → β) (g : β → β) (g' : α → α) : ∀ (l : List α) (i : Nat), (∀ a, l[i]? = some a → g (f a) = f (g' a)) → setNth g (l.map f) i = (setNth g' l i).map f
  | [], i, _ => rfl
  | a :: l, 0, h => by simp only [List.map_cons, setNth, h a (by simp)]
  | a :: l, i + 1, h => by simp only [List.map_cons, setNth, setNth_map f g g' l i fun b hb => h b (by simpa using hb)]
theorem fH_some {ms : List (K × V × Nat)} {k : K} {i : Nat} {m : V} (h : fH ms k = some (i, m)) : ∃ n, ms[i]? = some (k, m, n) := by
  induction ms generalizing i with
  | nil => cases h
  | cons p ms ih =>
    obtain ⟨a, m', n⟩ := p
    unfold fH at h
    by_cases e : k = a
    · subst e
      rw [if_pos rfl] at h
      cases h
      exact ⟨n, rfl⟩
    · rw [if_neg e] at h
      obtain ⟨⟨j, m2⟩, h1, h2⟩ := Option.map_eq_some_iff.1 h
      cases h2
      obtain ⟨n, hn⟩ := ih h1
      exact ⟨n, by simpa using hn⟩
theorem updE_Hold {ek : K → Value} {ev : V → Value} {zv : Value} (ht : KeyMap C t ek zv) (ms : List (K × V × Nat)) (c i : Nat) (k : K) (m m' : V) (hq : fH ms k = some (i, m')) :
    updE C t (mkH ek ev ms) c (ek k) (ev m) = some (mkH ek ev (setNth (fun p => (p.1, m, p.2.2)) ms i), c) := by
  obtain ⟨kt, et, j, h1, h2, h3, h4, h5, h6⟩ := ht.und
  obtain ⟨n, hn⟩ := fH_some hq
  unfold updE
  have hget : (mkH ek ev ms)[i]? = some { key := ek k, val := ev m', born := n } := by simp [mkH, hn]
  simp only [h1, h2 k, afind_H h3, hq, Option.map_some, Nat.zero_add, hget, ht.bits k]
  congr 2
  unfold mkH
  refine setNth_map _ _ _ ms i fun a ha => ?_
  rw [hn] at ha
  cases ha
  rfl
theorem delE_H {ek : K → Value} {ev : V → Value} {zv : Value} (ht : KeyMap C t ek zv) (ms : List (K × V × Nat)) (k : K) :
    delE C t (mkH ek ev ms) (ek k) = some (mkH ek ev (match fH ms k with | some p => ms.eraseIdx p.1 | none => ms)) := by
  obtain ⟨kt, et, i, h1, h2, h3, h4, h5, h6⟩ := ht.und
  unfold delE
  simp only [h1, h2 k, afind_H h3]
  cases hq : fH ms k with
  | none => rfl
  | some p => simp only [mkH, eraseIdx_mapp, Option.map_some, Nat.zero_add]
theorem p_eqSN {n n' c c' : Nat} {e yt : TypeId} (h : evalL l x = some (.slice none n c)) (h2 : evalL l y = some (.slice none n' c')) (hu : C.P.underlying t = some (.slice e)) : PureT C (.binOp .eql t x y yt) l (.bool true) := by
  unfold PureT
  refine ⟨cov2 h h2, ?_⟩
  have e : aequal C Op.maxDepth t (.slice none n c) (.slice none n' c') = some true := by show aequal C (9999 + 1) _ _ _ = _; simp only [aequal, hu, Option.isNone]
  simp only [aP, rhoL_eq h, rhoL_eq h2, abin, eqIdle, e, Option.map_some]
theorem p_eqSS {n n' c c' : Nat} {a : Addr} {e yt : TypeId} (h : evalL l x = some (.slice (some a) n c)) (h2 : evalL l y = some (.slice none n' c')) (hu : C.P.underlying t = some (.slice e)) : PureT C (.binOp .eql t x y yt) l (.bool false) := by
  unfold PureT
  refine ⟨cov2 h h2, ?_⟩
  have e : aequal C Op.maxDepth t (.slice (some a) n c) (.slice none n' c') = some false := by show aequal C (9999 + 1) _ _ _ = _; simp only [aequal, hu]
  simp only [aP, rhoL_eq h, rhoL_eq h2, abin, eqIdle, e, Option.map_some]
/-- The length of a map. -/
theorem rd_mapLen {td : TypeId} {b c : Nat} {es : List MEnt} {kt et : TypeId} (h : evalL l x = some (.map (some b))) (hm : (b, .map es c) ∈ H) (hu : C.P.underlying td = some (.map kt et)) : ReadT C (.call { callee := .builtin .len, args := #[x], argTypes := #[td] }) l H (.int .i64 es.length) := by
  unfold ReadT
  refine ⟨cov1 h, ?_, fun s hs => ?_⟩
  · show alen C td (rhoL l x) = none
    rw [rhoL_eq h]
    simp only [alen, hu]
  · simp only [aR, rhoL_eq h, hu, mapOf_is hs hm]
    rfl
end
end Go.Proofs.Ythcohphflhkceaa.Abs
