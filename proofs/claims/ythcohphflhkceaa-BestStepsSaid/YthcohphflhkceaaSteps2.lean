/- Contract of BestSteps: true. -/
import Derived.Test.YthcohphflhkceaaSteps1
namespace Go.Proofs.Ythcohphflhkceaa.Abs
open Go
set_option linter.unusedVariables false
/-- What step may answer. -/
def StepRel (what : Nat) (r r' : Rt) : Prop := (what = 2 ∧ ∃ j b, j < 9 ∧ r' = hdr2 r (j + 1) b) ∨ (what = 7 ∧ ∃ j b, j < 9 ∧ r' = hdr7 r (j + 1) b) ∨ (what ≠ 2 ∧ what ≠ 7 ∧ ∃ j : Nat, j < 9 ∧ r' = stepR what (1 + j) r)
def ra (p : Int) : Rt := ⟨⟨0, 0, 0, 0, 0, 0, 0, 0, 0, 0, 0, 0, 0, 0, 0, false, 0, 0, 0, 0, 0⟩, ⟨1, ⟨none, 0, 0⟩, 1, false, 0, true, 60, false, 0, ⟨none, 0, 0⟩, ⟨none, 0, 0⟩, 0, 0, 0, 0⟩, p, false⟩
section
variable {B0 : Nat} {old : Nat → Option (List Value)} {n : Nat} {H : Hp} {Q : Value → Hp → Prop}
set_option maxRecDepth 10000
set_option maxHeartbeats 4000000
theorem stepAny_ct (r : Rt) (ho : 0 ≤ r.a.origin ∧ r.a.origin ≤ 1000) (hp : 0 ≤ r.peer ∧ r.peer ≤ 1000) (what : Nat) (hw : what < 10) (h2 : what = 2 → r.a.path = ⟨none, 0, 0⟩) (h7 : what = 7 → r.a.clus = ⟨none, 0, 0⟩) (x : Int) (hx : (Lit.int .i64 x).wf = true) (h : ∀ r', StepRel what r r' → Q (.agg ⟨encR r'⟩) H) :
    CallT (cx B0 old) (acall (cx B0 old) ansP (n + 2)) 13 [.agg ⟨encR r⟩, .int .i64 what, .int .i64 x] H Q := by
  by_cases e2 : what = 2
  · subst e2
    exact step2_ct r (h2 rfl) x hx fun j b hj => h _ (.inl ⟨rfl, j, b, hj, rfl⟩)
  · by_cases e7 : what = 7
    · subst e7
      exact step7_ct r (h7 rfl) x hx fun j b hj => h _ (.inr (.inl ⟨rfl, j, b, hj, rfl⟩))
    · exact step_ct r ho hp what hw e2 e7 x hx fun j hj => h _ (.inr (.inr ⟨e2, e7, j, hj, rfl⟩))
/-- What is known of the better route at the head of round k. -/
structure BInv (p : Int) (what k : Nat) (r : Rt) : Prop where
  stale : r.stale = false
  pref : 1 ≤ what → r.a.hasPref = true ∧ r.a.pref = 60
  prefr : 0 ≤ r.a.pref ∧ r.a.pref < 4294967296
  path : what ≥ 2 ∨ k ≤ 2 → r.a.path = ⟨none, 0, 0⟩
  origin : 3 ≤ what ∨ k ≤ 3 → r.a.origin = 1
  originr : 0 ≤ r.a.origin ∧ r.a.origin ≤ 1000
  med : 4 ≤ what → r.a.hasMed = false
  medr : 0 ≤ r.a.med ∧ r.a.med < 4294967296
  peer0 : p = 0 → r.peer = 0
  peer1 : p = 20 → 20 ≤ r.peer ∧ r.peer ≤ 20 + 9 ∧ (k ≤ 9 → r.peer = 20)
  next : 6 ≤ what → r.a.next = 1
  clus : 7 ≤ what ∨ k ≤ 7 → r.a.clus = ⟨none, 0, 0⟩
  orig : 8 ≤ what → r.a.hasOrig = false
  origr : 0 ≤ r.a.orig ∧ r.a.orig < 4294967296
theorem BInv.start (p : Int) (hp : p = 0 ∨ p = 20) (what k : Nat) : BInv p what k (ra p) :=
  ⟨rfl, fun _ => ⟨rfl, rfl⟩, (by simp [ra]), fun _ => rfl, fun _ => rfl, (by simp [ra]), fun _ => rfl, (by simp [ra]), fun h => h, (fun h => by subst h; simp [ra]), fun _ => rfl, fun _ => rfl, fun _ => rfl, (by simp [ra])⟩
theorem BInv.skip {p : Int} {what k : Nat} {r : Rt} (h : BInv p what k r) : BInv p what (k + 1) r :=
  { h with path := fun hk => h.path (by omega), origin := fun hk => h.origin (by omega), peer1 := fun hp => ⟨(h.peer1 hp).1, (h.peer1 hp).2.1, fun hk => (h.peer1 hp).2.2 (by omega)⟩, clus := fun hk => h.clus (by omega) }
theorem BInv.wf {p : Int} {what k : Nat} {r : Rt} (hp : p = 0 ∨ p = 20) (h : BInv p what k r) : r.WF :=
  ⟨h.medr, h.prefr, h.origr, by rcases hp with hp | hp; rw [h.peer0 hp]; decide; have := h.peer1 hp; omega⟩
theorem BInv.step {p : Int} {what k : Nat} {r r' : Rt} (hp : p = 0 ∨ p = 20) (h : BInv p what k r) (hk : what < k) (hk9 : k < 10) (h5 : k ≠ 5) (h0 : p = 0 → k ≠ 8 ∧ k ≠ 9) (hs : StepRel k r r') : BInv p what (k + 1) r' := by
  have hh := h.skip
  rcases hs with ⟨rfl, j, b, hj, rfl⟩ | ⟨rfl, j, b, hj, rfl⟩ | ⟨n2, n7, j, hj, rfl⟩
  · exact { hh with path := fun hk2 => by omega }
  · exact { hh with clus := fun hk2 => by omega }
  · match k, hk9, h5, n2, n7 with
    | 0, _, _, _, _ => omega
    | 1, _, _, _, _ => exact { hh with pref := fun h1 => by omega, prefr := by simp only [stepR]; omega }
    | 3, _, _, _, _ => exact { hh with origin := fun h1 => by omega, originr := by have := h.origin (by omega); simp only [stepR]; omega }
    | 4, _, _, _, _ => exact { hh with med := fun h1 => by omega, medr := by simp only [stepR]; omega }
    | 6, _, _, _, _ => exact { hh with next := fun h1 => by omega }
    | 8, _, _, _, _ => exact { hh with orig := fun h1 => by omega, origr := by simp only [stepR]; omega }
    | 9, _, _, _, _ => exact { hh with peer0 := fun h1 => absurd rfl (h0 h1).2, peer1 := fun h1 => (by
        have := (h.peer1 h1).2.2 (by omega)
        simp only [stepR]
        exact ⟨by omega, by omega, fun hk => by omega⟩) }
theorem worse_than {p : Int} {what : Nat} {r w : Rt} (hp : p = 0 ∧ what ≤ 5 ∨ p = 20 ∧ 5 < what) (hw : what < 10) (h : BInv p what 10 r) (h9r : what = 9 → r = ra p) (hs : StepRel what (ra p) w) : w.WF ∧ lexc (rankL w (mets [(1, 1), (2, 100)])) (rankL r (mets [(1, 1), (2, 100)])) = 1 := by
  have em : mets [(1, 1), (2, 100)] = [(1, 1), (2, 100)] := rfl
  rw [em]
  match what, hw with
  | 0, _ =>
    obtain ⟨rfl, _⟩ : p = 0 ∧ 0 ≤ 5 := by omega
    have b : BInv 0 0 10 r := h
    rcases hs with ⟨h9, _⟩ | ⟨h9, _⟩ | ⟨_, _, j, hj, rfl⟩
    · omega
    · omega
    · refine ⟨⟨by simp [stepR, ra]; try omega, by simp [stepR, ra]; try omega, by simp [stepR, ra]; try omega, by simp [stepR, ra]; try omega⟩, ?_⟩
      simp [rankL, lexc, stepR, ra, b.stale]
      try omega
  | 1, _ =>
    obtain ⟨rfl, _⟩ : p = 0 ∧ 1 ≤ 5 := by omega
    have b : BInv 0 1 10 r := h
    rcases hs with ⟨h9, _⟩ | ⟨h9, _⟩ | ⟨_, _, j, hj, rfl⟩
    · omega
    · omega
    · refine ⟨⟨by simp [stepR, ra]; try omega, by simp [stepR, ra]; try omega, by simp [stepR, ra]; try omega, by simp [stepR, ra]; try omega⟩, ?_⟩
      simp [rankL, lexc, stepR, ra, b.stale, (b.pref (by omega)).1, (b.pref (by omega)).2]
      try omega
  | 2, _ =>
    obtain ⟨rfl, _⟩ : p = 0 ∧ 2 ≤ 5 := by omega
    have b : BInv 0 2 10 r := h
    rcases hs with ⟨_, j, bb, hj, rfl⟩ | ⟨h9, _⟩ | ⟨h9, _⟩
    · refine ⟨⟨by simp [hdr2, ra], by simp [hdr2, ra], by simp [hdr2, ra], by simp [hdr2, ra]⟩, ?_⟩
      simp [rankL, lexc, hdr2, ra, b.stale, (b.pref (by omega)).1, (b.pref (by omega)).2, b.path (.inl (by omega))]
      try omega
    · omega
    · omega
  | 3, _ =>
    obtain ⟨rfl, _⟩ : p = 0 ∧ 3 ≤ 5 := by omega
    have b : BInv 0 3 10 r := h
    rcases hs with ⟨h9, _⟩ | ⟨h9, _⟩ | ⟨_, _, j, hj, rfl⟩
    · omega
    · omega
    · refine ⟨⟨by simp [stepR, ra]; try omega, by simp [stepR, ra]; try omega, by simp [stepR, ra]; try omega, by simp [stepR, ra]; try omega⟩, ?_⟩
      simp [rankL, lexc, stepR, ra, b.stale, (b.pref (by omega)).1, (b.pref (by omega)).2, b.path (.inl (by omega)), b.origin (.inl (by omega))]
      try omega
  | 4, _ =>
    obtain ⟨rfl, _⟩ : p = 0 ∧ 4 ≤ 5 := by omega
    have b : BInv 0 4 10 r := h
    rcases hs with ⟨h9, _⟩ | ⟨h9, _⟩ | ⟨_, _, j, hj, rfl⟩
    · omega
    · omega
    · refine ⟨⟨by simp [stepR, ra]; try omega, by simp [stepR, ra]; try omega, by simp [stepR, ra]; try omega, by simp [stepR, ra]; try omega⟩, ?_⟩
      simp [rankL, lexc, stepR, ra, b.stale, (b.pref (by omega)).1, (b.pref (by omega)).2, b.path (.inl (by omega)), b.origin (.inl (by omega)), b.med (by omega)]
      try omega
  | 5, _ =>
    obtain ⟨rfl, _⟩ : p = 0 ∧ 5 ≤ 5 := by omega
    have b : BInv 0 5 10 r := h
    rcases hs with ⟨h9, _⟩ | ⟨h9, _⟩ | ⟨_, _, j, hj, rfl⟩
    · omega
    · omega
    · refine ⟨⟨by simp [stepR, ra]; try omega, by simp [stepR, ra]; try omega, by simp [stepR, ra]; try omega, by simp [stepR, ra]; try omega⟩, ?_⟩
      have hne : ¬ (1 + (j : Int) = 0) := by omega
      simp [rankL, lexc, stepR, ra, b.stale, (b.pref (by omega)).1, (b.pref (by omega)).2, b.path (.inl (by omega)), b.origin (.inl (by omega)), b.med (by omega), b.peer0, hne]
  | 6, _ =>
    obtain ⟨rfl, _⟩ : p = 20 ∧ 5 < 6 := by omega
    have b : BInv 20 6 10 r := h
    rcases hs with ⟨h9, _⟩ | ⟨h9, _⟩ | ⟨_, _, j, hj, rfl⟩
    · omega
    · omega
    · refine ⟨⟨by simp [stepR, ra]; try omega, by simp [stepR, ra]; try omega, by simp [stepR, ra]; try omega, by simp [stepR, ra]; try omega⟩, ?_⟩
      have hp1 := b.peer1 rfl
      have hr0 : ¬ (r.peer = 0) := by omega
      simp [rankL, lexc, stepR, ra, b.stale, (b.pref (by omega)).1, (b.pref (by omega)).2, b.path (.inl (by omega)), b.origin (.inl (by omega)), b.med (by omega), b.next (by omega), hr0, assoc]
      try omega
  | 7, _ =>
    obtain ⟨rfl, _⟩ : p = 20 ∧ 5 < 7 := by omega
    have b : BInv 20 7 10 r := h
    rcases hs with ⟨h9, _⟩ | ⟨_, j, bb, hj, rfl⟩ | ⟨_, h9, _⟩
    · omega
    rotate_left
    · omega
    · refine ⟨⟨by simp [hdr7, ra]; try omega, by simp [hdr7, ra]; try omega, by simp [hdr7, ra]; try omega, by simp [hdr7, ra]; try omega⟩, ?_⟩
      have hp1 := b.peer1 rfl
      have hr0 : ¬ (r.peer = 0) := by omega
      simp [rankL, lexc, hdr7, ra, b.stale, (b.pref (by omega)).1, (b.pref (by omega)).2, b.path (.inl (by omega)), b.origin (.inl (by omega)), b.med (by omega), b.next (by omega), hr0, b.clus (.inl (by omega)), assoc]
      try omega
  | 8, _ =>
    obtain ⟨rfl, _⟩ : p = 20 ∧ 5 < 8 := by omega
    have b : BInv 20 8 10 r := h
    rcases hs with ⟨h9, _⟩ | ⟨h9, _⟩ | ⟨_, _, j, hj, rfl⟩
    · omega
    · omega
    · refine ⟨⟨by simp [stepR, ra]; try omega, by simp [stepR, ra]; try omega, by simp [stepR, ra]; try omega, by simp [stepR, ra]; try omega⟩, ?_⟩
      have hp1 := b.peer1 rfl
      have hr0 : ¬ (r.peer = 0) := by omega
      have g1 : ¬ (1000 + (1 + (j : Int)) < r.peer) := by omega
      have g2 : r.peer < 1000 + (1 + (j : Int)) := by omega
      simp [rankL, lexc, stepR, ra, b.stale, (b.pref (by omega)).1, (b.pref (by omega)).2, b.path (.inl (by omega)), b.origin (.inl (by omega)), b.med (by omega), b.next (by omega), hr0, b.clus (.inl (by omega)), assoc, b.orig (by omega), g1, g2]
      try omega
  | 9, _ =>
    obtain ⟨rfl, _⟩ : p = 20 ∧ 5 < 9 := by omega
    obtain rfl : r = ra 20 := h9r rfl
    have b : BInv 20 9 10 (ra 20) := BInv.start 20 (.inr rfl) 9 10
    rcases hs with ⟨h9, _⟩ | ⟨h9, _⟩ | ⟨_, _, j, hj, rfl⟩
    · omega
    · omega
    · refine ⟨⟨by simp [stepR, ra]; try omega, by simp [stepR, ra]; try omega, by simp [stepR, ra]; try omega, by simp [stepR, ra]; try omega⟩, ?_⟩
      have hp1 := b.peer1 rfl
      have hr0 : ¬ ((ra 20).peer = 0) := by omega
      have g0 : ¬ (20 + (1 + (j : Int)) = 0) := by omega
      have g1 : ¬ (20 + (1 + (j : Int)) < 20) := by omega
      have g2 : 20 < 20 + (1 + (j : Int)) := by omega
      simp [rankL, lexc, stepR, ra, assoc, g0, g1, g2]
end
end Go.Proofs.Ythcohphflhkceaa.Abs
