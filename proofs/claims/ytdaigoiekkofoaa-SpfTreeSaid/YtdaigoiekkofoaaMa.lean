/- Distances in a network, in plain Lean: what they are, that they are unique, and what a fixed point of relaxation says. -/
import Derived.IntWalk
namespace Go.Proofs.Ytdaigoiekkofoaa.Abs
set_option linter.unusedVariables false
/-- The walks from s: where they end and how long they are. -/
inductive Wk (R : Nat → Nat → Nat → Prop) (s : Nat) : Nat → Nat → Prop where
  | nil : Wk R s s 0
  | snoc {u v l c : Nat} : Wk R s u l → R u v c → Wk R s v (l + c)
/-- A walk's length that no walk undercuts, or -1. -/
def DistAt (R : Nat → Nat → Nat → Prop) (s n : Nat) (x : Int) : Prop :=
  (x = -1 ∧ ∀ l, ¬ Wk R s n l) ∨ ∃ l : Nat, x = l ∧ Wk R s n l ∧ ∀ l', Wk R s n l' → l ≤ l'
theorem DistAt.uniq {R : Nat → Nat → Nat → Prop} {s n : Nat} {x y : Int} (h : DistAt R s n x) (h' : DistAt R s n y) : x = y := by
  rcases h with ⟨h1, h2⟩ | ⟨l, h1, h2, h3⟩ <;> rcases h' with ⟨g1, g2⟩ | ⟨k, g1, g2, g3⟩
  · omega
  · exact absurd g2 (h2 k)
  · exact absurd h2 (g2 l)
  · have := h3 k g2
    have := g3 l h2
    omega
/-- The list of the distances of all nodes. -/
def IsDist (R : Nat → Nat → Nat → Prop) (N s : Nat) (d : List Int) : Prop := d.length = N ∧ ∀ n, n < N → DistAt R s n (d.getD n (-1))
theorem IsDist.uniq {R : Nat → Nat → Nat → Prop} {N s : Nat} {d e : List Int} (h : IsDist R N s d) (h' : IsDist R N s e) : d = e := by
  refine List.ext_getElem (h.1.trans h'.1.symm) fun n h1 h2 => ?_
  have a := h.2 n (h.1 ▸ h1)
  have b := h'.2 n (h.1 ▸ h1)
  rw [List.getD_eq_getElem?_getD, List.getElem?_eq_getElem h1] at a
  rw [List.getD_eq_getElem?_getD, List.getElem?_eq_getElem h2] at b
  exact a.uniq b
/-- What relaxation keeps: entries are walks' lengths, or -1. -/
structure Pre (R : Nat → Nat → Nat → Prop) (N s : Nat) (d : List Int) : Prop where
  len : d.length = N
  src : d.getD s (-1) = 0
  low : ∀ n, n < N → -1 ≤ d.getD n (-1)
  wk : ∀ n (l : Nat), n < N → d.getD n (-1) = l → Wk R s n l
theorem Pre.dist {R : Nat → Nat → Nat → Prop} {N s : Nat} {d : List Int} (h : Pre R N s d) (hR : ∀ u v c, R u v c → u < N ∧ v < N) (hs : s < N)
    (hfix : ∀ u v c, R u v c → 0 ≤ d.getD u (-1) → 0 ≤ d.getD v (-1) ∧ d.getD v (-1) ≤ d.getD u (-1) + c) : IsDist R N s d := by
  have key : ∀ n l, Wk R s n l → n < N ∧ 0 ≤ d.getD n (-1) ∧ d.getD n (-1) ≤ l := by
    intro n l hw
    induction hw with
    | nil => exact ⟨hs, by rw [h.src]; omega, by rw [h.src]; omega⟩
    | snoc hw hr ih =>
      obtain ⟨i1, i2, i3⟩ := ih
      obtain ⟨f1, f2⟩ := hfix _ _ _ hr i2
      exact ⟨(hR _ _ _ hr).2, f1, by omega⟩
  refine ⟨h.len, fun n hn => ?_⟩
  have hl := h.low n hn
  by_cases h0 : 0 ≤ d.getD n (-1)
  · obtain ⟨l, hl2⟩ := Int.eq_ofNat_of_zero_le h0
    refine .inr ⟨l, hl2, h.wk n l hn hl2, fun l' hw => ?_⟩
    have := (key n l' hw).2.2
    omega
  · exact .inl ⟨by omega, fun l hw => h0 (key n l hw).2.1⟩
/-- One relaxation. -/
theorem Pre.relax {R : Nat → Nat → Nat → Prop} {N s u v c : Nat} {d : List Int} (h : Pre R N s d) (hr : R u v c) (hu : u < N) (hv : v < N) (h0 : 0 ≤ d.getD u (-1))
    (hlt : d.getD v (-1) < 0 ∨ d.getD u (-1) + c < d.getD v (-1)) : Pre R N s (d.set v (d.getD u (-1) + c)) := by
  have hlen := h.len
  have e : ∀ n, (d.set v (d.getD u (-1) + c)).getD n (-1) = if n = v then d.getD u (-1) + c else d.getD n (-1) := by
    intro n
    rw [List.getD_eq_getElem?_getD, List.getD_eq_getElem?_getD (l := d) (i := n), List.getElem?_set]
    by_cases g : v = n
    · subst g
      simp [show v < d.length by omega]
    · simp [g, Ne.symm g]
  have hsv : v ≠ s := by
    intro g
    subst g
    have := h.src
    omega
  refine ⟨by rw [List.length_set, h.len], by rw [e, if_neg (Ne.symm hsv), h.src], fun n hn => ?_, fun n l hn hl => ?_⟩
  · rw [e]; split
    · omega
    · exact h.low n hn
  · rw [e] at hl
    split at hl
    · rename_i g
      subst g
      obtain ⟨k, hk⟩ := Int.eq_ofNat_of_zero_le h0
      have hw := Wk.snoc (h.wk u k hu hk) hr
      rwa [show l = k + c by omega]
    · exact h.wk n l hn hl
/-! ### Bounds, and the measure that relaxation lowers -/
theorem sum_set (f : Int → Nat) (l : List Int) (i : Nat) (a : Int) (h : i < l.length) : ((l.set i a).map f).sum + f (l.getD i (-1)) = (l.map f).sum + f a := by
  induction l generalizing i with
  | nil => cases h
  | cons x l ih =>
    cases i with
    | zero => simp; omega
    | succ i =>
      have := ih i (by simpa using h)
      simp only [List.set_cons_succ, List.map_cons, List.sum_cons, List.getD_cons_succ]
      omega
def cnt (d : List Int) : Nat := (d.map fun x => if 0 ≤ x then 1 else 0).sum
def mes (d : List Int) : Nat := (d.map fun x => if 0 ≤ x then x.toNat else 40000).sum
theorem cnt_le (d : List Int) : cnt d ≤ d.length := by
  induction d with
  | nil => exact Nat.le_refl _
  | cons x d ih =>
    unfold cnt at ih ⊢
    simp only [List.map_cons, List.sum_cons, List.length_cons]
    split <;> omega
def Bnd (d : List Int) : Prop := ∀ n, d.getD n (-1) + 1000 ≤ 1000 * (cnt d : Int)
theorem Pre.lower {R : Nat → Nat → Nat → Prop} {N s u v c : Nat} {d : List Int} (h : Pre R N s d) (hb : Bnd d) (hN : N ≤ 32) (hc : c ≤ 1000) (hv : v < N) (h0 : 0 ≤ d.getD u (-1))
    (hlt : d.getD v (-1) < 0 ∨ d.getD u (-1) + c < d.getD v (-1)) : Bnd (d.set v (d.getD u (-1) + c)) ∧ mes (d.set v (d.getD u (-1) + c)) < mes d := by
  have hlen := h.len
  have hvl : v < d.length := by omega
  have e : ∀ n, (d.set v (d.getD u (-1) + c)).getD n (-1) = if n = v then d.getD u (-1) + c else d.getD n (-1) := by
    intro n
    rw [List.getD_eq_getElem?_getD, List.getD_eq_getElem?_getD (l := d) (i := n), List.getElem?_set]
    by_cases g : v = n
    · subst g
      simp [hvl]
    · simp [g, Ne.symm g]
  have s1 := sum_set (fun x => if 0 ≤ x then 1 else 0) d v (d.getD u (-1) + c) hvl
  have s2 := sum_set (fun x => if 0 ≤ x then x.toNat else 40000) d v (d.getD u (-1) + c) hvl
  have hcn := cnt_le d
  have hbu := hb u
  have hbv := hb v
  have c1 : ((d.set v (d.getD u (-1) + c)).map fun x => if 0 ≤ x then 1 else 0).sum = cnt (d.set v (d.getD u (-1) + c)) := rfl
  have c2 : ((d.set v (d.getD u (-1) + c)).map fun x => if 0 ≤ x then x.toNat else 40000).sum = mes (d.set v (d.getD u (-1) + c)) := rfl
  have c3 : (d.map fun x => if 0 ≤ x then 1 else 0).sum = cnt d := rfl
  have c4 : (d.map fun x => if 0 ≤ x then x.toNat else 40000).sum = mes d := rfl
  rw [c1, c3] at s1
  rw [c2, c4] at s2
  have hx : 0 ≤ d.getD u (-1) + c := by omega
  simp only [if_pos hx] at s1 s2
  generalize hcv : cnt (d.set v (d.getD u (-1) + c)) = k at *
  generalize mes (d.set v (d.getD u (-1) + c)) = m at *
  refine ⟨fun n => ?_, ?_⟩
  · rw [e, hcv]
    have := hb n
    by_cases g : 0 ≤ d.getD v (-1)
    · rw [if_pos g] at s1
      split <;> omega
    · rw [if_neg g] at s1
      split <;> omega
  · by_cases g : 0 ≤ d.getD v (-1)
    · rw [if_pos g] at s2
      omega
    · rw [if_neg g] at s2
      omega
end Go.Proofs.Ytdaigoiekkofoaa.Abs

/- Networks in plain Lean: links, flags, which walks there are; a pass of relaxation that changes nothing is a fixed point. -/
namespace Go.Proofs.Ytdaigoiekkofoaa.Abs
set_option linter.unusedVariables false
structure Ln where
  a : Int
  b : Int
  c : Int
/-- A valid link. -/
def goodL (N : Int) (x : Ln) : Prop := 0 ≤ x.a ∧ x.a < N ∧ 0 ≤ x.b ∧ x.b < N ∧ 1 ≤ x.c ∧ x.c ≤ 1000 ∧ x.a ≠ x.b
instance (N : Int) (x : Ln) : Decidable (goodL N x) := by unfold goodL; infer_instance
/-- A valid network. -/
def netOk (N : Int) (L : List Ln) (U : List Bool) : Prop := 1 ≤ N ∧ N ≤ 32 ∧ L.length ≤ 128 ∧ U.length = L.length ∧ ∀ x ∈ L, goodL N x
instance (N : Int) (L : List Ln) (U : List Bool) : Decidable (netOk N L U) := by unfold netOk; infer_instance
/-- A link that is up leads from u to v at cost c. -/
def Rn (L : List Ln) (U : List Bool) (u v c : Nat) : Prop := ∃ (i : Nat) (x : Ln), L[i]? = some x ∧ U[i]? = some true ∧ x.c = c ∧ (x.a = u ∧ x.b = v ∨ x.a = v ∧ x.b = u)
theorem Rn.symm {L : List Ln} {U : List Bool} {u v c : Nat} (h : Rn L U u v c) : Rn L U v u c := by
  obtain ⟨i, x, h1, h2, h3, h4⟩ := h
  exact ⟨i, x, h1, h2, h3, h4.symm⟩
theorem Rn.lt {N : Nat} {L : List Ln} {U : List Bool} {u v c : Nat} (hok : netOk N L U) (h : Rn L U u v c) : u < N ∧ v < N := by
  obtain ⟨i, x, h1, h2, h3, h4⟩ := h
  have := hok.2.2.2.2 x (List.mem_of_getElem? h1)
  unfold goodL at this
  omega
theorem Rn.cost {N : Nat} {L : List Ln} {U : List Bool} {u v c : Nat} (hok : netOk N L U) (h : Rn L U u v c) : 1 ≤ c ∧ c ≤ 1000 := by
  obtain ⟨i, x, h1, h2, h3, h4⟩ := h
  have := hok.2.2.2.2 x (List.mem_of_getElem? h1)
  unfold goodL at this
  omega
/-- The first i links leave the distances as they are. -/
def Fixed (L : List Ln) (U : List Bool) (i : Nat) (d : List Int) : Prop := ∀ j x, j < i → L[j]? = some x → U[j]? = some true →
  (0 ≤ d.getD x.a.toNat (-1) → 0 ≤ d.getD x.b.toNat (-1) ∧ d.getD x.b.toNat (-1) ≤ d.getD x.a.toNat (-1) + x.c) ∧
  (0 ≤ d.getD x.b.toNat (-1) → 0 ≤ d.getD x.a.toNat (-1) ∧ d.getD x.a.toNat (-1) ≤ d.getD x.b.toNat (-1) + x.c)
theorem fixed_dist {N s : Nat} {L : List Ln} {U : List Bool} {d : List Int} (hok : netOk N L U) (hs : s < N) (h : Pre (Rn L U) N s d) (hf : Fixed L U L.length d) : IsDist (Rn L U) N s d := by
  refine h.dist (fun u v c hr => hr.lt hok) hs ?_
  rintro u v c ⟨i, x, h1, h2, h3, h4⟩ h0
  have hi : i < L.length := (List.getElem?_eq_some_iff.1 h1).1
  obtain ⟨f1, f2⟩ := hf i x hi h1 h2
  rcases h4 with ⟨ha, hb⟩ | ⟨ha, hb⟩
  · rw [ha, hb, h3] at f1
    exact f1 h0
  · rw [ha, hb, h3] at f2
    exact f2 h0
theorem Fixed.zero {L : List Ln} {U : List Bool} {d : List Int} : Fixed L U 0 d := fun j x hj => absurd hj (by omega)
theorem Fixed.succ {L : List Ln} {U : List Bool} {d : List Int} {i : Nat} (h : Fixed L U i d)
    (hx : ∀ x, L[i]? = some x → U[i]? = some true → (0 ≤ d.getD x.a.toNat (-1) → 0 ≤ d.getD x.b.toNat (-1) ∧ d.getD x.b.toNat (-1) ≤ d.getD x.a.toNat (-1) + x.c) ∧
      (0 ≤ d.getD x.b.toNat (-1) → 0 ≤ d.getD x.a.toNat (-1) ∧ d.getD x.a.toNat (-1) ≤ d.getD x.b.toNat (-1) + x.c)) : Fixed L U (i + 1) d := fun j x hj h1 h2 => by
  by_cases g : j = i
  · subst g; exact hx x h1 h2
  · exact h j x (by omega) h1 h2
/-- What holds in the midst of a pass: i links were relaxed; more says whether one was changed; m0 is the measure at its begin. -/
structure Pass (N s : Nat) (L : List Ln) (U : List Bool) (m0 i : Nat) (more : Bool) (d : List Int) : Prop where
  pre : Pre (Rn L U) N s d
  bnd : Bnd d
  le : mes d ≤ m0
  lt : more = true → mes d < m0
  fix : more = false → Fixed L U i d
theorem Pass.skip {N s : Nat} {L : List Ln} {U : List Bool} {m0 i : Nat} {more : Bool} {d : List Int} (h : Pass N s L U m0 i more d) (hu : U[i]? = some false) : Pass N s L U m0 (i + 1) more d :=
  ⟨h.pre, h.bnd, h.le, h.lt, fun hm => (h.fix hm).succ fun x _ h2 => by rw [hu] at h2; cases h2⟩
theorem Pass.keep {N s : Nat} {L : List Ln} {U : List Bool} {m0 i : Nat} {more : Bool} {d : List Int} {x : Ln} (h : Pass N s L U m0 i more d) (hx : L[i]? = some x)
    (h1 : ¬ (0 ≤ d.getD x.a.toNat (-1) ∧ (d.getD x.b.toNat (-1) < 0 ∨ d.getD x.a.toNat (-1) + x.c < d.getD x.b.toNat (-1))))
    (h2 : ¬ (0 ≤ d.getD x.b.toNat (-1) ∧ (d.getD x.a.toNat (-1) < 0 ∨ d.getD x.b.toNat (-1) + x.c < d.getD x.a.toNat (-1)))) : Pass N s L U m0 (i + 1) more d :=
  ⟨h.pre, h.bnd, h.le, h.lt, fun hm => (h.fix hm).succ fun y hy _ => by
    rw [hx] at hy
    cases hy
    constructor <;> intro g <;> omega⟩
/-- A link is relaxed from u to v: the pass goes on with more set (at any place: more is set). -/
theorem Pass.low {N s : Nat} {L : List Ln} {U : List Bool} {m0 i j : Nat} {more : Bool} {d : List Int} {u v c : Nat} (hok : netOk N L U) (h : Pass N s L U m0 i more d) (hr : Rn L U u v c)
    (h0 : 0 ≤ d.getD u (-1)) (hlt : d.getD v (-1) < 0 ∨ d.getD u (-1) + c < d.getD v (-1)) : Pass N s L U m0 j true (d.set v (d.getD u (-1) + c)) := by
  obtain ⟨hu, hv⟩ := hr.lt hok
  obtain ⟨c1, c2⟩ := hr.cost hok
  have hN : N ≤ 32 := by have := hok.2.1; omega
  obtain ⟨b1, b2⟩ := h.pre.lower h.bnd hN c2 hv h0 hlt
  have := h.le
  exact ⟨h.pre.relax hr hu hv h0 hlt, b1, by omega, fun _ => by omega, fun e => by cases e⟩
theorem Pass.more {N s : Nat} {L : List Ln} {U : List Bool} {m0 i j : Nat} {d : List Int} (h : Pass N s L U m0 i true d) : Pass N s L U m0 j true d :=
  ⟨h.pre, h.bnd, h.le, h.lt, fun e => by cases e⟩
end Go.Proofs.Ytdaigoiekkofoaa.Abs

/- Distances are bounded; the node before the last one of a shortest walk. -/
namespace Go.Proofs.Ytdaigoiekkofoaa.Abs
set_option linter.unusedVariables false
theorem DistAt.le {R : Nat → Nat → Nat → Prop} {s n l : Nat} {x : Int} (h : DistAt R s n x) (hw : Wk R s n l) : 0 ≤ x ∧ x ≤ l := by
  rcases h with ⟨h1, h2⟩ | ⟨k, h1, h2, h3⟩
  · exact absurd hw (h2 l)
  · have := h3 l hw; omega
theorem IsDist.wk {R : Nat → Nat → Nat → Prop} {N s n : Nat} {d : List Int} (h : IsDist R N s d) (hn : n < N) (h0 : 0 ≤ d.getD n (-1)) : ∃ l : Nat, d.getD n (-1) = l ∧ Wk R s n l := by
  rcases h.2 n hn with ⟨h1, h2⟩ | ⟨k, h1, h2, h3⟩
  · omega
  · exact ⟨k, h1, h2⟩
theorem IsDist.low {R : Nat → Nat → Nat → Prop} {N s n : Nat} {d : List Int} (h : IsDist R N s d) : -1 ≤ d.getD n (-1) := by
  by_cases hn : n < N
  · rcases h.2 n hn with ⟨h1, h2⟩ | ⟨k, h1, h2, h3⟩ <;> omega
  · rw [List.getD_eq_getElem?_getD, List.getElem?_eq_none (by have := h.1; omega)]; decide
theorem IsDist.src {R : Nat → Nat → Nat → Prop} {N s : Nat} {d : List Int} (h : IsDist R N s d) (hs : s < N) : d.getD s (-1) = 0 := by
  have := (h.2 s hs).le .nil
  omega
theorem IsDist.le {R : Nat → Nat → Nat → Prop} {N s u v c : Nat} {d : List Int} (h : IsDist R N s d) (hu : u < N) (hv : v < N) (hr : R u v c) (h0 : 0 ≤ d.getD u (-1)) : 0 ≤ d.getD v (-1) ∧ d.getD v (-1) ≤ d.getD u (-1) + c := by
  obtain ⟨l, h1, h2⟩ := h.wk hu h0
  have := (h.2 v hv).le (.snoc h2 hr)
  omega
theorem IsDist.prev {R : Nat → Nat → Nat → Prop} {N s n : Nat} {d : List Int} (hR : ∀ u v c, R u v c → u < N ∧ v < N) (h : IsDist R N s d) (hn : n < N) (h0 : 0 < d.getD n (-1)) : ∃ u c, R u n c ∧ 0 ≤ d.getD u (-1) ∧ d.getD u (-1) + c = d.getD n (-1) := by
  obtain ⟨l, h1, h2⟩ := h.wk hn (by omega)
  cases h2 with
  | nil => omega
  | snoc hw hr =>
    rename_i u l' c
    have := (h.2 u (hR _ _ _ hr).1).le hw
    have := (h.le (hR _ _ _ hr).1 hn hr this.1).2
    exact ⟨u, c, hr, by omega, by omega⟩
theorem countP_lt {p q : Int → Bool} (hpq : ∀ x, p x = true → q x = true) : ∀ {l : List Int} {n : Nat}, n < l.length → p (l.getD n (-1)) = false → q (l.getD n (-1)) = true → l.countP p + 1 ≤ l.countP q
  | [], n, h, _, _ => by simp at h
  | x :: l, 0, h, h1, h2 => by
    simp only [List.getD_cons_zero] at h1 h2
    rw [List.countP_cons_of_neg (by rw [h1]; decide), List.countP_cons_of_pos h2]
    have := List.countP_mono_left (l := l) (p := p) (q := q) fun x _ => hpq x
    omega
  | x :: l, n + 1, h, h1, h2 => by
    have ih := countP_lt hpq (l := l) (n := n) (by simpa using h) (by simpa using h1) (by simpa using h2)
    rw [List.countP_cons, List.countP_cons]
    have := hpq x
    cases hp : p x with
    | true => rw [this hp]; simp; omega
    | false => simp; omega
theorem IsDist.bound {R : Nat → Nat → Nat → Prop} {N s : Nat} {d : List Int} (hR : ∀ u v c, R u v c → u < N ∧ v < N ∧ 1 ≤ c ∧ c ≤ 1000) (h : IsDist R N s d) (hN : N ≤ 32) (n : Nat) : d.getD n (-1) ≤ 31000 := by
  have key : ∀ (l : Nat) (n : Nat), n < N → d.getD n (-1) = l → l + 1000 ≤ 1000 * d.countP (fun x : Int => decide (0 ≤ x ∧ x ≤ (l : Int))) := by
    intro l
    induction l using Nat.strongRecOn with
    | ind l ih =>
      intro n hn hl
      have hnl : n < d.length := by have := h.1; omega
      by_cases h0 : l = 0
      · subst h0
        have : 0 < d.countP (fun x => decide (0 ≤ x ∧ x ≤ ((0 : Nat) : Int))) := by
          rw [List.countP_pos_iff]
          refine ⟨d.getD n (-1), ?_, by rw [hl]; decide⟩
          rw [List.getD_eq_getElem?_getD, List.getElem?_eq_getElem hnl]
          exact List.getElem_mem hnl
        omega
      · obtain ⟨u, c, hr, h1, h2⟩ := h.prev (fun u v c hr => ⟨(hR u v c hr).1, (hR u v c hr).2.1⟩) hn (by omega)
        obtain ⟨hu, _, c1, c2⟩ := hR _ _ _ hr
        obtain ⟨k, hk⟩ := Int.eq_ofNat_of_zero_le h1
        have hkl : k < l := by omega
        have := ih k hkl u hu hk
        have := countP_lt (p := fun x => decide (0 ≤ x ∧ x ≤ (k : Int))) (q := fun x => decide (0 ≤ x ∧ x ≤ (l : Int))) (fun x hx => by simp at hx ⊢; omega) hnl (by rw [hl]; simp; omega) (by rw [hl]; simp)
        omega
  by_cases hn : n < N
  · by_cases h0 : 0 ≤ d.getD n (-1)
    · obtain ⟨l, hl⟩ := Int.eq_ofNat_of_zero_le h0
      have := key l n hn hl
      have := List.countP_le_length (l := d) (p := fun x => decide (0 ≤ x ∧ x ≤ (l : Int)))
      have := h.1
      omega
    · omega
  · rw [List.getD_eq_getElem?_getD, List.getElem?_eq_none (by have := h.1; omega)]; decide
theorem Rn.all {N : Nat} {L : List Ln} {U : List Bool} {u v c : Nat} (hok : netOk N L U) (h : Rn L U u v c) : u < N ∧ v < N ∧ 1 ≤ c ∧ c ≤ 1000 := ⟨(h.lt hok).1, (h.lt hok).2, (h.cost hok).1, (h.cost hok).2⟩
/-- Distances do not depend on the direction. -/
theorem Wk.cons {R : Nat → Nat → Nat → Prop} {u v n c l : Nat} (hr : R u v c) (h : Wk R v n l) : Wk R u n (c + l) := by
  induction h with
  | nil => have := Wk.snoc (Wk.nil (R := R) (s := u)) hr; simpa using this
  | snoc hw h2 ih => have := Wk.snoc ih h2; rwa [Nat.add_assoc] at this
theorem Wk.rev {R : Nat → Nat → Nat → Prop} (hsym : ∀ u v c, R u v c → R v u c) {s n l : Nat} (h : Wk R s n l) : Wk R n s l := by
  induction h with
  | nil => exact .nil
  | snoc hw h2 ih => have := Wk.cons (hsym _ _ _ h2) ih; rwa [Nat.add_comm] at this
theorem Wk.app {R : Nat → Nat → Nat → Prop} {s m n l k : Nat} (h : Wk R s m l) (h2 : Wk R m n k) : Wk R s n (l + k) := by
  induction h2 with
  | nil => exact h
  | snoc hw h3 ih => have := Wk.snoc ih h3; rwa [Nat.add_assoc] at this
end Go.Proofs.Ytdaigoiekkofoaa.Abs
