/- Plain laws of shortest paths: next links, chosen paths, numbers of paths. -/
import Derived.Test.YtdaigoiekkofoaaMk
namespace Go.Proofs.Ytdaigoiekkofoaa.Abs
set_option linter.unusedVariables false
section
variable {N s : Nat} {L : List Ln} {U : List Bool} {d : List Int}
theorem nxL_nonneg {n : Nat} {i : Int} (hok : netOk N L U) (h : i ∈ nxL L U d n L.length) : 1 ≤ d.getD n (-1) := by
  obtain ⟨x, _, _, _, _, _, _, g2, g3, g4, _⟩ := nxL_oth hok h
  omega
theorem nxL_nil {n : Nat} (hok : netOk N L U) (h : d.getD n (-1) < 1) : nxL L U d n L.length = [] := by
  cases hl : nxL L U d n L.length with
  | nil => rfl
  | cons a l => have := nxL_nonneg hok (d := d) (n := n) (i := a) (by rw [hl]; exact List.mem_cons_self); omega
theorem nxL_has {n i : Nat} {x : Ln} (hx : L[i]? = some x) (hu : U[i]? = some true) (hv : viaL d n x) (hg : goodL N x) : (i : Int) ∈ nxL L U d n L.length := by
  unfold nxL
  refine List.mem_map.2 ⟨i, List.mem_filter.2 ⟨List.mem_range.2 (List.getElem?_eq_some_iff.1 hx).1, (nxB_iff hx hu).2 ?_⟩, rfl⟩
  unfold goodL at hg
  rcases hv with ⟨v1, v2, v3⟩ | ⟨v1, v2, v3⟩
  · exact .inr ⟨by omega, v1, v2, by omega⟩
  · exact .inl ⟨v1, v2, by omega⟩
theorem IsDist.next {n : Nat} (h : IsDist (Rn L U) N s d) (hok : netOk N L U) (hs : s < N) (hn : n < N) (hns : n ≠ s) (h0 : 0 ≤ d.getD n (-1)) : nxL L U d n L.length ≠ [] := by
  obtain ⟨i, x, h1, h2, h3⟩ := h.viaL hok hs hn hns h0
  have := nxL_has h1 h2 h3 (hok.2.2.2.2 x (List.mem_of_getElem? h1))
  intro e
  rw [e] at this
  cases this
theorem IsDist.zero {n : Nat} (h : IsDist (Rn L U) N s d) (hok : netOk N L U) (hs : s < N) (hn : n < N) (h0 : d.getD n (-1) = 0) : n = s := by
  by_cases e : n = s
  · exact e
  · exact absurd (nxL_nil hok (by omega)) (h.next hok hs hn e (by omega))
theorem oth_oth {n : Nat} {i : Int} (hok : netOk N L U) (h : i ∈ nxL L U d n L.length) : oth L i (oth L i n) = n := by
  obtain ⟨x, g1, _, _, _, g2, _⟩ := nxL_oth hok h
  have hg := hok.2.2.2.2 x (List.mem_of_getElem? g1)
  unfold goodL at hg
  have e : ∀ m, oth L i m = if x.a = m then x.b.toNat else x.a.toNat := fun m => by unfold oth; rw [g1]
  rcases g2 with ⟨a, b⟩ | ⟨a, b, c⟩
  · rw [e (oth L i n), if_neg (by omega)]; omega
  · rw [e (oth L i n), if_pos c]; omega
/-- The node at which a list of links ends. -/
def endOf (L : List Ln) (s : Nat) (p : List Int) : Nat := p.foldl (fun n i => oth L i n) s
theorem endOf_snoc (L : List Ln) (s : Nat) (p : List Int) (i : Int) : endOf L s (p ++ [i]) = oth L i (endOf L s p) := by unfold endOf; rw [List.foldl_append]; rfl
theorem PathTo.ends {n : Nat} {p : List Int} (h : PathTo L U d n p) (hd : IsDist (Rn L U) N s d) (hok : netOk N L U) (hs : s < N) : n < N → 0 ≤ d.getD n (-1) → endOf L s p = n := by
  induction h with
  | @stop n h =>
    intro hn h0
    by_cases e : n = s
    · exact e.symm
    · have := hd.next hok hs hn e h0
      rcases par_cases L U d n with ⟨g, _⟩ | ⟨r, g1, g2⟩
      · exact absurd g this
      · obtain ⟨_, _, _, g3, _⟩ := nxL_oth hok g2
        omega
  | @step n p h hp ih =>
    intro hn h0
    have hm := par_nonneg hok h
    obtain ⟨x, _, _, _, _, _, g1, g2, _⟩ := nxL_oth hok hm
    rw [endOf_snoc, ih g1 g2]
    exact oth_oth hok hm
theorem PathTo.pre {n : Nat} {p : List Int} (h : PathTo L U d n p) (hok : netOk N L U) : n < N → 0 ≤ d.getD n (-1) → ∀ i, i ≤ p.length → ∃ m, m < N ∧ 0 ≤ d.getD m (-1) ∧ PathTo L U d m (p.take i) := by
  induction h with
  | @stop n h =>
    intro hn h0 i hi
    exact ⟨n, hn, h0, by simpa using PathTo.stop h⟩
  | @step n p h hp ih =>
    intro hn h0 i hi
    obtain ⟨x, _, _, _, _, _, g1, g2, _⟩ := nxL_oth hok (par_nonneg hok h)
    rw [List.length_append, List.length_singleton] at hi
    by_cases e : i ≤ p.length
    · rw [List.take_append_of_le_length e]
      exact ih g1 g2 i e
    · rw [List.take_of_length_le (by rw [List.length_append, List.length_singleton]; omega)]
      exact ⟨n, hn, h0, .step h hp⟩
/-- What a walk along a chosen path knows after i links. -/
structure Along (N s : Nat) (L : List Ln) (U : List Bool) (d : List Int) (p : List Int) (i n : Nat) : Prop where
  lt : n < N
  ge : 0 ≤ d.getD n (-1)
  path : PathTo L U d n (p.take i)
  ends : endOf L s (p.take i) = n
theorem PathTo.along {t : Nat} {p : List Int} (h : PathTo L U d t p) (hd : IsDist (Rn L U) N s d) (hok : netOk N L U) (hs : s < N) (ht : t < N) (h0 : 0 ≤ d.getD t (-1)) {i : Nat} (hi : i ≤ p.length) : Along N s L U d p i (endOf L s (p.take i)) := by
  obtain ⟨m, h1, h2, h3⟩ := h.pre hok ht h0 i hi
  have := h3.ends hd hok hs h1 h2
  rw [this]
  exact ⟨h1, h2, h3, this⟩
theorem Along.step {t : Nat} {p : List Int} {i n : Nat} {q : Int} (ha : Along N s L U d p i n) (h : PathTo L U d t p) (hd : IsDist (Rn L U) N s d) (hok : netOk N L U) (hs : s < N) (ht : t < N) (h0 : 0 ≤ d.getD t (-1)) (hq : p[i]? = some q) :
    ∃ x, L[q.toNat]? = some x ∧ U[q.toNat]? = some true ∧ 0 ≤ q ∧ q < L.length ∧ (x.a = n ∨ x.b = n) ∧ Along N s L U d p (i + 1) (oth L q n) ∧ par L U d (oth L q n) = q ∧ d.getD (oth L q n) (-1) = d.getD n (-1) + x.c ∧ 1 ≤ x.c := by
  have hi := (List.getElem?_eq_some_iff.1 hq).1
  have ha2 := h.along hd hok hs ht h0 (i := i + 1) (by omega)
  have e : p.take (i + 1) = p.take i ++ [q] := by rw [List.take_add_one, hq]; rfl
  have em : endOf L s (p.take (i + 1)) = oth L q n := by rw [e, endOf_snoc, ha.ends]
  rw [em] at ha2
  generalize hm : oth L q n = m at *
  have hp := ha2.path
  rw [e] at hp
  generalize hr : p.take i ++ [q] = r at hp
  cases hp with
  | stop h => simp at hr
  | @step _ p' h' hp' =>
    obtain ⟨e1, e2⟩ := List.append_inj' hr rfl
    have e2 : q = par L U d m := by simpa using e2
    have hmem := par_nonneg hok h'
    obtain ⟨x, g1, g2, g3, g4, g5, g6, g7, g8, g9, _⟩ := nxL_oth hok hmem
    rw [← e1] at hp'
    have e3 := hp'.ends hd hok hs g6 g7
    rw [ha.ends] at e3
    rw [← e2] at g1 g2 g3 g4 g5 g6 g7 g8 e3
    refine ⟨x, g1, g2, g3, g4, ?_, ha2, e2.symm, by rw [← e3] at g8; omega, g9⟩
    rw [← e3] at g5
    omega
theorem npaths_pos {t : Nat} (hd : IsDist (Rn L U) N t d) (hok : netOk N L U) (ht : t < N) (hb : ∀ n, d.getD n (-1) ≤ 31000) : ∀ (k n : Nat), d.getD n (-1) ≤ k → n < N → 0 ≤ d.getD n (-1) → 1 ≤ npaths L U d t n := by
  intro k
  induction k with
  | zero =>
    intro n hk hn h0
    have := hd.zero hok ht hn (by omega)
    subst this
    rw [npaths_self]; omega
  | succ k ih =>
    intro n hk hn h0
    by_cases e : n = t
    · subst e; rw [npaths_self]; omega
    · rw [npaths_eq hok hb e h0]
      have hne := hd.next hok ht hn e h0
      have hall : ∀ i ∈ nxL L U d n L.length, 1 ≤ npaths L U d t (oth L i n) := fun i hi => by
        obtain ⟨x, _, _, _, _, _, g1, g2, g3, g4, _⟩ := nxL_oth hok hi
        exact ih _ (by omega) g1 g2
      have hf : ∀ (l : List Int) (b : Int), 1 ≤ b → (∀ i ∈ l, 1 ≤ npaths L U d t (oth L i n)) → 1 ≤ l.foldl (fun s i => addP s (npaths L U d t (oth L i n))) b := by
        intro l
        induction l with
        | nil => intro b hb _; exact hb
        | cons a l ih =>
          intro b hb h
          rw [List.foldl_cons]
          refine ih _ ?_ fun i hi => h i (List.mem_cons_of_mem _ hi)
          have := h a List.mem_cons_self
          unfold addP; omega
      cases hl : nxL L U d n L.length with
      | nil => exact absurd hl hne
      | cons a l =>
        rw [hl] at hall
        rw [List.foldl_cons]
        refine hf l _ ?_ fun i hi => hall i (List.mem_cons_of_mem _ hi)
        have := hall a List.mem_cons_self
        unfold addP; omega
theorem nxL_sorted {n : Nat} {i j : Nat} {a b : Int} (hij : i < j) (h1 : (nxL L U d n L.length)[i]? = some a) (h2 : (nxL L U d n L.length)[j]? = some b) : a < b := by
  have hp : (nxL L U d n L.length).Pairwise (· < ·) := by
    unfold nxL
    rw [List.pairwise_map]
    exact (List.Pairwise.filter _ List.pairwise_lt_range).imp (fun h => by omega)
  obtain ⟨q1, e1⟩ := List.getElem?_eq_some_iff.1 h1
  obtain ⟨q2, e2⟩ := List.getElem?_eq_some_iff.1 h2
  have := List.pairwise_iff_getElem.1 hp i j q1 q2 hij
  rw [e1, e2] at this
  exact this
theorem nxL_size (n : Nat) : (nxL L U d n L.length).length ≤ L.length := by
  unfold nxL
  rw [List.length_map]
  exact Nat.le_trans (List.length_filter_le _ _) (by simp)
end
end Go.Proofs.Ytdaigoiekkofoaa.Abs

/- Plain laws of shortest paths: what a failure of a link changes. -/
namespace Go.Proofs.Ytdaigoiekkofoaa.Abs
set_option linter.unusedVariables false
section
variable {N s t : Nat} {L : List Ln} {U : List Bool} {k : Nat}
theorem cut_up {i : Nat} {b : Bool} (hk : k < U.length) : (U.set k false)[i]? = some b → i = k ∧ b = false ∨ i ≠ k ∧ U[i]? = some b := by
  rw [List.getElem?_set]
  split
  · rename_i e
    intro h
    subst e
    simp at h
    exact .inl ⟨rfl, h⟩
  · rename_i e
    intro h; exact .inr ⟨fun h => e h.symm, h⟩
theorem cut_rn {u v c : Nat} (hk : k < U.length) (h : Rn L (U.set k false) u v c) : Rn L U u v c := by
  obtain ⟨i, x, h1, h2, h3⟩ := h
  rcases cut_up hk h2 with ⟨_, e⟩ | ⟨_, e⟩
  · cases e
  · exact ⟨i, x, h1, e, h3⟩
theorem cut_wk {n l : Nat} (hk : k < U.length) (h : Wk (Rn L (U.set k false)) s n l) : Wk (Rn L U) s n l := by
  induction h with
  | nil => exact .nil
  | snoc h hr ih => exact .snoc ih (cut_rn hk hr)
theorem cut_ge {d e : List Int} (hk : k < U.length) (hd : IsDist (Rn L U) N s d) (he : IsDist (Rn L (U.set k false)) N s e) {n : Nat} (hn : n < N) (h0 : 0 ≤ e.getD n (-1)) : 0 ≤ d.getD n (-1) ∧ d.getD n (-1) ≤ e.getD n (-1) := by
  obtain ⟨l, hl, hw⟩ := he.wk hn h0
  have := (hd.2 n hn).le (cut_wk hk hw)
  omega
theorem cut_ok (hok : netOk N L U) : netOk N L (U.set k false) := ⟨hok.1, hok.2.1, hok.2.2.1, by rw [List.length_set]; exact hok.2.2.2.1, hok.2.2.2.2⟩
/-- The link k is on a shortest path from s to t. -/
def onP (L : List Ln) (U : List Bool) (d g : List Int) (k t : Nat) : Prop := ∃ x, L[k]? = some x ∧ U[k]? = some true ∧ 0 ≤ d.getD t (-1) ∧ 0 ≤ d.getD x.a.toNat (-1) ∧ (d.getD x.a.toNat (-1) + x.c + g.getD x.b.toNat (-1) = d.getD t (-1) ∨ d.getD x.b.toNat (-1) + x.c + g.getD x.a.toNat (-1) = d.getD t (-1))
/-- A triangle: from s over n to t. -/
theorem tri {d g : List Int} (hok : netOk N L U) (hs : s < N) (ht : t < N) (hd : IsDist (Rn L U) N s d) (hg : IsDist (Rn L U) N t g) {n : Nat} (hn : n < N) (h1 : 0 ≤ d.getD n (-1)) (h2 : 0 ≤ g.getD n (-1)) : 0 ≤ d.getD t (-1) ∧ d.getD t (-1) ≤ d.getD n (-1) + g.getD n (-1) := by
  obtain ⟨l, hl, hw⟩ := hd.wk hn h1
  obtain ⟨m, hm, hv⟩ := hg.wk hn h2
  have := (hd.2 t ht).le (hw.app (hv.rev fun u v c h => h.symm))
  omega
theorem sym {d g : List Int} (hs : s < N) (ht : t < N) (hd : IsDist (Rn L U) N s d) (hg : IsDist (Rn L U) N t g) : d.getD t (-1) = g.getD s (-1) := by
  have l1 := hd.low (n := t)
  have l2 := hg.low (n := s)
  have a : 0 ≤ d.getD t (-1) → 0 ≤ g.getD s (-1) ∧ g.getD s (-1) ≤ d.getD t (-1) := fun h => by
    obtain ⟨l, hl, hw⟩ := hd.wk ht h
    have := (hg.2 s hs).le (hw.rev fun u v c h => h.symm)
    omega
  have b : 0 ≤ g.getD s (-1) → 0 ≤ d.getD t (-1) ∧ d.getD t (-1) ≤ g.getD s (-1) := fun h => by
    obtain ⟨l, hl, hw⟩ := hg.wk hs h
    have := (hd.2 t ht).le (hw.rev fun u v c h => h.symm)
    omega
  omega
/-- At a node n on a shortest path from s to t, nothing changes. -/
structure SameAt (L : List Ln) (U : List Bool) (g g' : List Int) (k t n : Nat) : Prop where
  dist : g'.getD n (-1) = g.getD n (-1)
  next : nxL L (U.set k false) g' n L.length = nxL L U g n L.length
  paths : npaths L (U.set k false) g' t n = npaths L U g t n
theorem cut_same {d g g' : List Int} (hok : netOk N L U) (hs : s < N) (ht : t < N) (hk : k < U.length) (hd : IsDist (Rn L U) N s d) (hg : IsDist (Rn L U) N t g) (hg' : IsDist (Rn L (U.set k false)) N t g') (hno : ¬ onP L U d g k t) (h0 : 0 ≤ d.getD t (-1)) :
    ∀ (m n : Nat), g.getD n (-1) ≤ m → n < N → 0 ≤ d.getD n (-1) → 0 ≤ g.getD n (-1) → d.getD n (-1) + g.getD n (-1) = d.getD t (-1) → SameAt L U g g' k t n := by
  have hok' : netOk N L (U.set k false) := cut_ok hok
  have hb := fun n => hg.bound (fun u v c hr => hr.all hok) (by have := hok.2.1; omega) n
  have hb' := fun n => hg'.bound (fun u v c hr => hr.all hok') (by have := hok.2.1; omega) n
  intro m
  induction m with
  | zero =>
    intro n hm hn h1 h2 h3
    have e := hg.zero hok ht hn (by omega)
    subst e
    have q1 := hg.src ht
    have q2 := hg'.src ht
    exact ⟨by rw [q1, q2], by rw [nxL_nil hok (by omega), nxL_nil hok' (by omega)], by rw [npaths_self, npaths_self]⟩
  | succ m ih =>
    intro n hm hn h1 h2 h3
    by_cases e : n = t
    · subst e
      have q1 := hg.src ht
      have q2 := hg'.src ht
      exact ⟨by rw [q1, q2], by rw [nxL_nil hok (by omega), nxL_nil hok' (by omega)], by rw [npaths_self, npaths_self]⟩
    -- a link to a nearer node
    have hlink : ∀ (i : Nat) (x : Ln), L[i]? = some x → U[i]? = some true → viaL g n x → ∀ v : Nat, (x.a = n ∧ x.b = v ∨ x.b = n ∧ x.a = v) → i ≠ k ∧ v < N ∧ SameAt L U g g' k t v := by
      intro i x hx hu hv v hends
      have hgd := hok.2.2.2.2 x (List.mem_of_getElem? hx)
      unfold goodL at hgd
      have hgv : 0 ≤ g.getD v (-1) ∧ g.getD n (-1) = g.getD v (-1) + x.c := by
        unfold viaL at hv
        rcases hends with ⟨a, b⟩ | ⟨a, b⟩
        · have e1 : x.a.toNat = n := by omega
          have e2 : x.b.toNat = v := by omega
          rw [e1, e2] at hv; omega
        · have e1 : x.b.toNat = n := by omega
          have e2 : x.a.toNat = v := by omega
          rw [e1, e2] at hv; omega
      have hvN : v < N := by omega
      have hr : Rn L U n v x.c.toNat := ⟨i, x, hx, hu, by omega, by omega⟩
      have hdv := hd.le hn hvN hr h1
      have htri := tri hok hs ht hd hg hvN hdv.1 hgv.1
      have hsv := ih v (by omega) hvN hdv.1 hgv.1 (by omega)
      refine ⟨fun hik => hno ?_, hvN, hsv⟩
      subst hik
      refine ⟨x, hx, hu, h0, ?_⟩
      rcases hends with ⟨a, b⟩ | ⟨a, b⟩
      · rw [show x.a.toNat = n by omega, show x.b.toNat = v by omega]; omega
      · rw [show x.b.toNat = n by omega, show x.a.toNat = v by omega]; omega
    have hdist : g'.getD n (-1) = g.getD n (-1) := by
      obtain ⟨i, x, hx, hu, hv⟩ := hg.viaL hok ht hn e h2
      have hgd := hok.2.2.2.2 x (List.mem_of_getElem? hx)
      unfold goodL at hgd
      have key : ∀ v : Nat, (x.a = n ∧ x.b = v ∨ x.b = n ∧ x.a = v) → g.getD n (-1) = g.getD v (-1) + x.c → 0 ≤ g.getD v (-1) → g'.getD n (-1) = g.getD n (-1) := by
        intro v hends e1 e2
        obtain ⟨hik, hvN, hsv⟩ := hlink i x hx hu hv v hends
        have hr : Rn L (U.set k false) v n x.c.toNat := ⟨i, x, hx, by rw [List.getElem?_set, if_neg (fun h => hik h.symm)]; exact hu, by omega, by omega⟩
        have := hg'.le hvN hn hr (by rw [hsv.dist]; exact e2)
        have h4 := cut_ge hk hg hg' hn this.1
        rw [hsv.dist] at this
        omega
      rcases id hv with ⟨v1, v2, v3⟩ | ⟨v1, v2, v3⟩
      · exact key x.a.toNat (by omega) v3 v2
      · exact key x.b.toNat (by omega) v3 v2
    have hnext : nxL L (U.set k false) g' n L.length = nxL L U g n L.length := by
      unfold nxL
      congr 1
      refine List.filter_congr fun i hi => ?_
      have hi := List.mem_range.1 hi
      obtain ⟨x, hx⟩ : ∃ x, L[i]? = some x := ⟨_, List.getElem?_eq_getElem hi⟩
      have hgd := hok.2.2.2.2 x (List.mem_of_getElem? hx)
      unfold goodL at hgd
      obtain ⟨u, hu⟩ : ∃ u, U[i]? = some u := ⟨_, List.getElem?_eq_getElem (by rw [hok.2.2.2.1]; exact hi)⟩
      cases u with
      | false =>
        have hu' : (U.set k false)[i]? = some false := by
          by_cases e : k = i
          · subst e; rw [List.getElem?_set]; simp; omega
          · rw [List.getElem?_set, if_neg e]; exact hu
        unfold nxB
        rw [hx, hu, hu']
      | true =>
        by_cases hik : i = k
        · -- the link that fails is no next link
          subst hik
          have hu' : (U.set i false)[i]? = some false := by rw [List.getElem?_set, if_pos rfl, if_pos hk]
          have : nxB L U g n i = false := by
            rw [Bool.eq_false_iff]
            intro hb
            have hb := (nxB_iff hx hu).1 hb
            rcases hb with ⟨b1, b2, b3⟩ | ⟨b0, b1, b2, b3⟩
            · exact (hlink i x hx hu (.inr ⟨b1, b2, by omega⟩) x.b.toNat (by omega)).1 rfl
            · exact (hlink i x hx hu (.inl ⟨b1, b2, by omega⟩) x.a.toNat (by omega)).1 rfl
          rw [this]
          unfold nxB
          rw [hx, hu']
        · have hu' : (U.set k false)[i]? = some true := by rw [List.getElem?_set, if_neg (fun h => hik h.symm)]; exact hu
          rw [Bool.eq_iff_iff, nxB_iff hx hu, nxB_iff hx hu', hdist]
          have key : ∀ v : Nat, (x.a = n ∧ x.b = v ∨ x.b = n ∧ x.a = v) → ((0 ≤ g'.getD v (-1) ∧ g'.getD v (-1) + x.c = g.getD n (-1)) ↔ (0 ≤ g.getD v (-1) ∧ g.getD v (-1) + x.c = g.getD n (-1))) := by
            intro v hends
            have hvN : v < N := by omega
            constructor
            · rintro ⟨a, b⟩
              have h4 := cut_ge hk hg hg' hvN a
              have := hg.le hvN hn (show Rn L U v n x.c.toNat from ⟨i, x, hx, hu, by omega, by omega⟩) h4.1
              omega
            · rintro ⟨a, b⟩
              have hv : viaL g n x := by
                unfold viaL
                rcases hends with ⟨q1, q2⟩ | ⟨q1, q2⟩
                · right; rw [show x.b.toNat = v by omega]; exact ⟨q1, a, by omega⟩
                · left; rw [show x.a.toNat = v by omega]; exact ⟨q1, a, by omega⟩
              have := (hlink i x hx hu hv v hends).2.2.dist
              rw [this]; exact ⟨a, b⟩
          constructor
          · rintro (⟨b1, b2, b3⟩ | ⟨b0, b1, b2, b3⟩)
            · exact .inl ⟨b1, (key x.b.toNat (by omega)).1 ⟨b2, b3⟩⟩
            · exact .inr ⟨b0, b1, (key x.a.toNat (by omega)).1 ⟨b2, b3⟩⟩
          · rintro (⟨b1, b2, b3⟩ | ⟨b0, b1, b2, b3⟩)
            · exact .inl ⟨b1, (key x.b.toNat (by omega)).2 ⟨b2, b3⟩⟩
            · exact .inr ⟨b0, b1, (key x.a.toNat (by omega)).2 ⟨b2, b3⟩⟩
    refine ⟨hdist, hnext, ?_⟩
    rw [npaths_eq hok hb e h2, npaths_eq hok' hb' e (by rw [hdist]; exact h2), hnext]
    refine foldl_congr fun b i hi => ?_
    obtain ⟨j, x, rfl, hj, hx, hu, hnb⟩ := nxL_mem hi
    obtain ⟨y, y1, y2, _, _, y3, y4, y5, y6, _⟩ := nxL_oth hok hi
    rw [Int.toNat_natCast, hx] at y1
    cases y1
    have hgd := hok.2.2.2.2 x (List.mem_of_getElem? hx)
    unfold goodL at hgd
    have hv : viaL g n x := by
      unfold viaL
      rcases (nxB_iff hx hu).1 hnb with ⟨b1, b2, b3⟩ | ⟨b0, b1, b2, b3⟩
      · exact .inr ⟨b1, b2, by omega⟩
      · exact .inl ⟨b1, b2, by omega⟩
    have := (hlink j x hx hu hv (oth L (j : Int) n) (by omega)).2.2.paths
    rw [this]
theorem cut_law {d e g g' : List Int} (hok : netOk N L U) (hs : s < N) (ht : t < N) (hk : k < U.length) (hd : IsDist (Rn L U) N s d) (he : IsDist (Rn L (U.set k false)) N s e) (hg : IsDist (Rn L U) N t g) (hg' : IsDist (Rn L (U.set k false)) N t g') (hno : ¬ onP L U d g k t) :
    d.getD t (-1) = e.getD t (-1) ∧ SameAt L U g g' k t s := by
  have e1 := sym hs ht hd hg
  have e2 := sym hs ht he hg'
  by_cases h0 : 0 ≤ d.getD t (-1)
  · have hsm := cut_same hok hs ht hk hd hg hg' hno h0 _ s (Int.le_of_eq (Int.toNat_of_nonneg (by omega)).symm) hs (by rw [hd.src hs]; omega) (by omega) (by rw [hd.src hs]; omega)
    refine ⟨?_, hsm⟩
    have := hsm.dist
    omega
  · have l1 := hd.low (n := t)
    have l2 := hg'.low (n := s)
    have hn : g'.getD s (-1) = -1 := by
      by_cases h : 0 ≤ g'.getD s (-1)
      · have := cut_ge hk hg hg' hs h; omega
      · omega
    have hst : s ≠ t := fun h => by
      subst h
      have := hd.src hs
      omega
    refine ⟨by omega, ⟨by omega, by rw [nxL_nil hok (by omega), nxL_nil (cut_ok hok) (by omega)], by rw [npaths_none hst (by omega), npaths_none hst (by omega)]⟩⟩
end
end Go.Proofs.Ytdaigoiekkofoaa.Abs
