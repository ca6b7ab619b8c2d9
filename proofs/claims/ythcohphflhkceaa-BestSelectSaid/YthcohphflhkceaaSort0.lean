/- Sorting in plain Lean: what the parts of a sort keep, and what they bring about. -/
namespace Go.Proofs.Ythcohphflhkceaa.Abs
set_option linter.unusedVariables false
section
variable {α : Type} {r : α → Int} {L L' M : List α} {a b i j : Nat}
def rk (r : α → Int) (L : List α) (i : Nat) : Int := match L[i]? with | some x => r x | none => 0
theorem rk_of {x : α} (h : L[i]? = some x) : rk r L i = r x := by unfold rk; rw [h]
theorem rk_eq {L' : List α} {i j : Nat} (h : L'[i]? = L[j]?) : rk r L' i = rk r L j := by unfold rk; rw [h]
theorem ex_at (h : i < L.length) : ∃ x, L[i]? = some x := ⟨L[i], List.getElem?_eq_getElem h⟩
def sw (L : List α) (i j : Nat) : List α := match L[i]?, L[j]? with | some x, some y => (L.set i y).set j x | _, _ => L
theorem sw_of {x y : α} (h : L[i]? = some x) (h2 : L[j]? = some y) : sw L i j = (L.set i y).set j x := by unfold sw; rw [h, h2]
theorem sw_len (L : List α) (i j : Nat) : (sw L i j).length = L.length := by unfold sw; split <;> simp
theorem sw_get (hi : i < L.length) (hj : j < L.length) (c : Nat) : (sw L i j)[c]? = if c = j then L[i]? else if c = i then L[j]? else L[c]? := by
  obtain ⟨x, hx⟩ := ex_at hi
  obtain ⟨y, hy⟩ := ex_at hj
  rw [sw_of hx hy, List.getElem?_set, List.getElem?_set]
  by_cases h1 : c = j
  · subst h1; simp [hj, hx]
  · rw [if_neg (fun h => h1 h.symm), if_neg h1]
    by_cases h2 : c = i
    · subst h2; simp [hi, hy]
    · rw [if_neg (fun h => h2 h.symm), if_neg h2]
theorem sw_rk (hi : i < L.length) (hj : j < L.length) (c : Nat) : rk r (sw L i j) c = if c = j then rk r L i else if c = i then rk r L j else rk r L c := by
  by_cases h1 : c = j
  · rw [if_pos h1]; exact (rk_eq (by rw [sw_get hi hj, if_pos h1])).trans rfl
  · rw [if_neg h1]
    by_cases h2 : c = i
    · rw [if_pos h2]; exact (rk_eq (by rw [sw_get hi hj, if_neg h1, if_pos h2])).trans rfl
    · rw [if_neg h2]; exact rk_eq (by rw [sw_get hi hj, if_neg h1, if_neg h2])
theorem sw_perm (hi : i < L.length) (hj : j < L.length) : (sw L i j).Perm L := by
  rw [sw_of (List.getElem?_eq_getElem hi) (List.getElem?_eq_getElem hj)]
  exact List.set_set_perm hi hj
/-- Only the elements from a to b have changed places. -/
structure PR (a b : Nat) (L L' : List α) : Prop where
  perm : L'.Perm L
  out : ∀ i, i < a ∨ b ≤ i → L'[i]? = L[i]?
theorem PR.refl (a b : Nat) (L : List α) : PR a b L L := ⟨.refl _, fun _ _ => rfl⟩
theorem PR.trans {L3 : List α} (h : PR a b L L') (h2 : PR a b L' L3) : PR a b L L3 := ⟨h2.perm.trans h.perm, fun i hi => (h2.out i hi).trans (h.out i hi)⟩
theorem PR.mono {a' b' : Nat} (h : PR a b L L') (h1 : a' ≤ a) (h2 : b ≤ b') : PR a' b' L L' := ⟨h.perm, fun i hi => h.out i (by omega)⟩
theorem PR.len (h : PR a b L L') : L'.length = L.length := h.perm.length_eq
theorem PR.sw (hi : i < L.length) (hj : j < L.length) (h1 : a ≤ i) (h2 : i < b) (h3 : a ≤ j) (h4 : j < b) : PR a b L (sw L i j) := ⟨sw_perm hi hj, fun c hc => by rw [sw_get hi hj, if_neg (by omega), if_neg (by omega)]⟩
theorem cut3 (L : List α) (a b : Nat) (h : a ≤ b) : L = L.take a ++ ((L.drop a).take (b - a) ++ L.drop b) := by
  have : L.drop b = (L.drop a).drop (b - a) := by rw [List.drop_drop]; congr 1; omega
  rw [this, List.take_append_drop, List.take_append_drop]
theorem PR.mid (h : PR a b L L') (hab : a ≤ b) : ((L'.drop a).take (b - a)).Perm ((L.drop a).take (b - a)) := by
  have e1 : L'.take a = L.take a := by
    apply List.ext_getElem?
    intro i
    rw [List.getElem?_take, List.getElem?_take]
    split
    · exact h.out i (by omega)
    · rfl
  have e2 : L'.drop b = L.drop b := by
    apply List.ext_getElem?
    intro i
    rw [List.getElem?_drop, List.getElem?_drop]
    exact h.out _ (by omega)
  have hp := h.perm
  rw [cut3 L' a b hab, cut3 L a b hab, e1, e2] at hp
  exact (List.perm_append_right_iff _).1 ((List.perm_append_left_iff _).1 hp)
/-- What is true of all ranks in the range stays true. -/
theorem PR.all (h : PR a b L L') (hb : b ≤ L.length) {P : Int → Prop} (hP : ∀ i, a ≤ i → i < b → P (rk r L i)) : ∀ i, a ≤ i → i < b → P (rk r L' i) := fun i h1 h2 => by
  have hl := h.len
  obtain ⟨x, hx⟩ := ex_at (L := L') (i := i) (by omega)
  have hm : x ∈ (L'.drop a).take (b - a) := List.mem_of_getElem? (i := i - a) (by
    rw [List.getElem?_take_of_lt (by omega), List.getElem?_drop, show a + (i - a) = i by omega, hx])
  obtain ⟨k, hk, e⟩ := List.mem_iff_getElem.1 ((h.mid (by omega)).mem_iff.1 hm)
  have hk' : k < b - a := by rw [List.length_take] at hk; omega
  have e' : L[a + k]? = some x := by
    have := List.getElem?_eq_getElem hk
    rw [List.getElem?_take_of_lt hk', List.getElem?_drop, e] at this
    exact this
  have := hP (a + k) (by omega) (by omega)
  rw [rk_of e'] at this
  rw [rk_of hx]
  exact this
/-- No two ranks are equal. -/
def Dis (r : α → Int) (L : List α) : Prop := (L.map r).Nodup
theorem PR.dis (h : PR a b L L') (hd : Dis r L) : Dis r L' := (h.perm.map r).nodup_iff.2 hd
theorem Dis.ne (h : Dis r L) (hij : i ≠ j) (hi : i < L.length) (hj : j < L.length) : rk r L i ≠ rk r L j := by
  unfold Dis List.Nodup at h
  rw [List.pairwise_iff_getElem] at h
  rw [rk_of (List.getElem?_eq_getElem hi), rk_of (List.getElem?_eq_getElem hj)]
  rcases Nat.lt_or_gt_of_ne hij with g | g
  · have := h i j (by simpa using hi) (by simpa using hj) g
    simpa using this
  · have := h j i (by simpa using hj) (by simpa using hi) g
    simpa using fun e => this (by simpa using e.symm)
/-- Sorted from a to b. -/
def SO (r : α → Int) (a b : Nat) (L : List α) : Prop := ∀ i j, a ≤ i → i < j → j < b → rk r L i ≤ rk r L j
theorem SO.small (h : b ≤ a + 1) : SO r a b L := fun i j _ _ _ => by omega
theorem SO.out {c d : Nat} (h : SO r a b L) (hp : PR c d L L') (hd : b ≤ c ∨ d ≤ a) : SO r a b L' := fun i j h1 h2 h3 => by
  rw [rk_eq (hp.out i (by omega)), rk_eq (hp.out j (by omega))]
  exact h i j h1 h2 h3
/-! ### Insertion -/
/-- Sorted from a to i, but for the element at j, which is less than those behind it. -/
def Ins (r : α → Int) (a : Nat) (L : List α) (i j : Nat) : Prop := (∀ p q, a ≤ p → p < q → q ≤ i → p ≠ j → q ≠ j → rk r L p ≤ rk r L q) ∧ ∀ q, j < q → q ≤ i → rk r L j ≤ rk r L q
theorem Ins.start (h : SO r a i L) : Ins r a L i i := ⟨fun p q h1 h2 h3 h4 h5 => h p q h1 h2 (by omega), fun q h1 h2 => by omega⟩
theorem Ins.step (h : Ins r a L i j) (hi : i < L.length) (hji : j ≤ i) (hj : a < j) (hlt : rk r L j < rk r L (j - 1)) : Ins r a (sw L j (j - 1)) i (j - 1) := by
  obtain ⟨h1, h2⟩ := h
  have key := fun c => sw_rk (r := r) (L := L) (i := j) (j := j - 1) (by omega) (by omega) c
  refine ⟨fun p q g1 g2 g3 g4 g5 => ?_, fun q g1 g2 => ?_⟩
  · rw [key, key, if_neg g4, if_neg g5]
    by_cases e1 : p = j
    · rw [if_pos e1, if_neg (by omega)]
      exact h1 (j - 1) q (by omega) (by omega) g3 (by omega) (by omega)
    · rw [if_neg e1]
      by_cases e2 : q = j
      · rw [if_pos e2]
        exact h1 p (j - 1) g1 (by omega) (by omega) e1 (by omega)
      · rw [if_neg e2]
        exact h1 p q g1 g2 g3 e1 e2
  · rw [key, key, if_pos rfl, if_neg (by omega)]
    by_cases e2 : q = j
    · rw [if_pos e2]; exact Int.le_of_lt hlt
    · rw [if_neg e2]; exact h2 q (by omega) g2
theorem Ins.done (h : Ins r a L i j) (hji : j ≤ i) (hd : j = a ∨ rk r L (j - 1) ≤ rk r L j) : SO r a (i + 1) L := fun p q g1 g2 g3 => by
  obtain ⟨h1, h2⟩ := h
  by_cases e1 : p = j
  · rw [e1]; exact h2 q (by omega) (by omega)
  by_cases e2 : q = j
  · have hlt : rk r L (j - 1) ≤ rk r L j := by
      rcases hd with hd | hd
      · omega
      · exact hd
    by_cases e3 : p = j - 1
    · rw [e2, e3]; exact hlt
    · have := h1 p (j - 1) g1 (by omega) (by omega) e1 (by omega)
      rw [e2]; omega
  · exact h1 p q g1 g2 (by omega) e1 e2
/-! ### Heaps -/
/-- The elements from a on are a heap, as far as the parents from lo on go. -/
def Hp2 (r : α → Int) (a lo hi : Nat) (L : List α) : Prop := ∀ c, 0 < c → c < hi → lo ≤ (c - 1) / 2 → rk r L (a + c) ≤ rk r L (a + (c - 1) / 2)
def Dn2 (r : α → Int) (a lo hi i : Nat) (L : List α) : Prop := (∀ c, 0 < c → c < hi → lo ≤ (c - 1) / 2 → (c - 1) / 2 ≠ i → rk r L (a + c) ≤ rk r L (a + (c - 1) / 2)) ∧ (∀ c, 0 < c → c < hi → (c - 1) / 2 = i → 0 < i → lo ≤ (i - 1) / 2 → rk r L (a + c) ≤ rk r L (a + (i - 1) / 2))
theorem Dn2.start {lo hi : Nat} (h : Hp2 r a (lo + 1) hi L) : Dn2 r a lo hi lo L := ⟨fun c c0 ch cl cn => h c c0 ch (by omega), fun c c0 ch ce i0 il => by omega⟩
theorem Dn2.step {lo hi : Nat} (h : Dn2 r a lo hi i L) (hn : a + hi ≤ L.length) (hj : j < hi) (h0 : 0 < j) (hp : (j - 1) / 2 = i) (hli : lo ≤ i) (hmax : ∀ c, 0 < c → c < hi → (c - 1) / 2 = i → rk r L (a + c) ≤ rk r L (a + j)) (hlt : rk r L (a + i) < rk r L (a + j)) : Dn2 r a lo hi j (sw L (a + i) (a + j)) := by
  obtain ⟨h1, h2⟩ := h
  have hij : i < j := by omega
  have key := fun c => sw_rk (r := r) (L := L) (i := a + i) (j := a + j) (by omega) (by omega) (a + c)
  have k2 : ∀ c, rk r (sw L (a + i) (a + j)) (a + c) = if c = j then rk r L (a + i) else if c = i then rk r L (a + j) else rk r L (a + c) := fun c => by
    rw [key]
    by_cases e1 : c = j
    · rw [if_pos e1, if_pos (by omega)]
    · rw [if_neg e1, if_neg (by omega)]
      by_cases e2 : c = i
      · rw [if_pos e2, if_pos (by omega)]
      · rw [if_neg e2, if_neg (by omega)]
  refine ⟨fun c c0 ch cl cn => ?_, fun c c0 ch ce j0 jl => ?_⟩
  · rw [k2, k2, if_neg cn]
    by_cases e1 : c = j
    · subst e1
      rw [if_pos rfl, if_pos hp]
      omega
    · rw [if_neg e1]
      by_cases e2 : c = i
      · subst e2
        rw [if_pos rfl, if_neg (by omega)]
        exact h2 j h0 hj hp c0 cl
      · rw [if_neg e2]
        by_cases e3 : (c - 1) / 2 = i
        · rw [if_pos e3]; exact hmax c c0 ch e3
        · rw [if_neg e3]; exact h1 c c0 ch cl e3
  · rw [k2, k2, hp, if_neg (by omega), if_neg (by omega), if_neg (by omega), if_pos rfl]
    have := h1 c c0 ch (by omega) (by omega)
    rwa [ce] at this
theorem Dn2.leaf {lo hi : Nat} (h : Dn2 r a lo hi i L) (hl : hi ≤ 2 * i + 1) : Hp2 r a lo hi L := fun c c0 ch cl => h.1 c c0 ch cl (by omega)
theorem Dn2.done {lo hi : Nat} (h : Dn2 r a lo hi i L) (hmax : ∀ c, 0 < c → c < hi → (c - 1) / 2 = i → rk r L (a + c) ≤ rk r L (a + j)) (hge : rk r L (a + j) ≤ rk r L (a + i)) : Hp2 r a lo hi L := fun c c0 ch cl => by
  by_cases e : (c - 1) / 2 = i
  · have := hmax c c0 ch e
    rw [e]; omega
  · exact h.1 c c0 ch cl e
theorem Hp2.most {hi : Nat} (h : Hp2 r a 0 hi L) : ∀ c, c < hi → rk r L (a + c) ≤ rk r L a := by
  intro c
  induction c using Nat.strongRecOn with
  | ind c ih =>
    intro hc
    by_cases h0 : c = 0
    · subst h0; exact Int.le_refl _
    · have h1 := ih ((c - 1) / 2) (by omega) (by omega)
      have h2 := h c (by omega) hc (by omega)
      omega
/-- While the greatest ones are taken off: a heap of n elements, and the sorted ones behind it, which are greater. -/
structure Pop2 (r : α → Int) (a n b : Nat) (L : List α) : Prop where
  heap : Hp2 r a 0 n L
  so : SO r (a + n) b L
  gt : ∀ p q, a ≤ p → p < a + n → a + n ≤ q → q < b → rk r L p ≤ rk r L q
theorem Pop2.step {n : Nat} (h : Pop2 r a (n + 1) b L) (hb : a + (n + 1) ≤ b) (hl : b ≤ L.length) (hp : PR a (a + n) (sw L a (a + n)) L') (hh : Hp2 r a 0 n L') : Pop2 r a n b L' := by
  have key := fun c => sw_rk (r := r) (L := L) (i := a) (j := a + n) (by omega) (by omega) c
  have hmost : ∀ p, a ≤ p → p < a + n → rk r (sw L a (a + n)) p ≤ rk r L a := fun p h1 h2 => by
    rw [key, if_neg (by omega)]
    by_cases e : p = a
    · rw [if_pos e]
      have := h.heap.most n (by omega)
      omega
    · rw [if_neg e]
      have := h.heap.most (p - a) (by omega)
      rw [show a + (p - a) = p by omega] at this
      omega
  have hm2 := hp.all (r := r) (by rw [sw_len]; omega) (P := fun x => x ≤ rk r L a) hmost
  have hout : ∀ q, a + n ≤ q → rk r L' q = if q = a + n then rk r L a else rk r L q := fun q hq => by
    rw [rk_eq (hp.out q (by omega)), key]
    by_cases e : q = a + n
    · rw [if_pos e, if_pos e]
    · rw [if_neg e, if_neg e, if_neg (by omega)]
  refine ⟨hh, fun i j h1 h2 h3 => ?_, fun p q h1 h2 h3 h4 => ?_⟩
  · rw [hout i h1, hout j (by omega), if_neg (by omega : ¬ j = a + n)]
    split
    · exact h.gt a j (by omega) (by omega) (by omega) h3
    · exact h.so i j (by omega) h2 h3
  · rw [hout q h3]
    split
    · exact hm2 p h1 h2
    · rename_i e
      have hlt : ∀ p, a ≤ p → p < a + n → rk r (sw L a (a + n)) p ≤ rk r L q := fun p g1 g2 => by
        have := hmost p g1 g2
        have := h.gt a q (by omega) (by omega) (by omega) h4
        omega
      exact hp.all (r := r) (by rw [sw_len]; omega) (P := fun x => x ≤ rk r L q) hlt p h1 h2
/-- The first element and the last one of the heap have changed places: below the first one it is a heap still. -/
theorem Pop2.pre {n : Nat} (h : Pop2 r a (n + 1) b L) (hb : a + (n + 1) ≤ b) (hl : b ≤ L.length) : Hp2 r a (0 + 1) n (sw L a (a + n)) := fun c c0 ch cl => by
  have key := fun c => sw_rk (r := r) (L := L) (i := a) (j := a + n) (by omega) (by omega) c
  rw [key, key, if_neg (by omega), if_neg (by omega), if_neg (by omega), if_neg (by omega)]
  exact h.heap c c0 (by omega) (Nat.zero_le _)
theorem Pop2.zero (h : Pop2 r a 0 b L) : SO r a b L := h.so
/-! ### Partition -/
/-- Those before i are less than the pivot, which is at a; those behind j are greater. -/
structure Part (r : α → Int) (a b i j : Nat) (L : List α) : Prop where
  ij : i ≤ j + 1
  ai : a < i
  jb : j < b
  lo : ∀ p, a < p → p < i → rk r L p ≤ rk r L a
  hi : ∀ p, j < p → p < b → rk r L a ≤ rk r L p
theorem Part.start (h : a + 1 < b) : Part r a b (a + 1) (b - 1) L := ⟨by omega, by omega, by omega, fun p _ _ => by omega, fun p _ _ => by omega⟩
theorem Part.up (h : Part r a b i j L) (hij : i ≤ j) (hlt : rk r L i < rk r L a) : Part r a b (i + 1) j L := ⟨by omega, by have := h.ai; omega, h.jb, fun p h1 h2 => by
  by_cases e : p = i
  · rw [e]; exact Int.le_of_lt hlt
  · exact h.lo p h1 (by omega), h.hi⟩
theorem Part.down (h : Part r a b i j L) (hij : i ≤ j) (hb : b ≤ L.length) (hge : ¬ rk r L j < rk r L a) : Part r a b i (j - 1) L := by
  have := h.ai
  have := h.jb
  refine ⟨by omega, by omega, by omega, h.lo, fun p h1 h2 => ?_⟩
  by_cases e : p = j
  · rw [e]; omega
  · exact h.hi p (by omega) h2
theorem Part.swap (h : Part r a b i j L) (hij : i ≤ j) (hb : b ≤ L.length) (h1 : ¬ rk r L i < rk r L a) (h2 : rk r L j < rk r L a) : i < j ∧ Part r a b (i + 1) (j - 1) (sw L i j) := by
  have hai := h.ai
  have hjb := h.jb
  have hne : i ≠ j := fun e => by rw [e] at h1; exact h1 h2
  have key := fun c => sw_rk (r := r) (L := L) (i := i) (j := j) (by omega) (by omega) c
  refine ⟨by omega, by omega, by omega, by omega, fun p g1 g2 => ?_, fun p g1 g2 => ?_⟩
  · rw [key, key, if_neg (by omega), if_neg (by omega : ¬ a = j), if_neg (by omega : ¬ a = i)]
    by_cases e : p = i
    · rw [if_pos e]; exact Int.le_of_lt h2
    · rw [if_neg e]; exact h.lo p g1 (by omega)
  · rw [key, key, if_neg (by omega : ¬ a = j), if_neg (by omega : ¬ a = i)]
    by_cases e : p = j
    · rw [if_pos e]; omega
    · rw [if_neg e, if_neg (by omega)]; exact h.hi p (by omega) g2
/-- Those before m are less than the one at m, those behind it are greater. -/
structure Parted (r : α → Int) (a b m : Nat) (L : List α) : Prop where
  am : a ≤ m
  mb : m < b
  lo : ∀ p, a ≤ p → p < m → rk r L p ≤ rk r L m
  hi : ∀ p, m < p → p < b → rk r L m ≤ rk r L p
theorem Part.done (h : Part r a b i j L) (hij : ¬ i ≤ j) (hb : b ≤ L.length) : Parted r a b j (sw L j a) := by
  have hi := h.ij
  have hai := h.ai
  have hjb := h.jb
  have key := fun c => sw_rk (r := r) (L := L) (i := j) (j := a) (by omega) (by omega) c
  refine ⟨by omega, hjb, fun p g1 g2 => ?_, fun p g1 g2 => ?_⟩
  · rw [key, key]
    by_cases e : p = a
    · rw [if_pos e, if_neg (by omega), if_pos rfl]; exact h.lo j (by omega) (by omega)
    · rw [if_neg e, if_neg (by omega), if_neg (by omega), if_pos rfl]; exact h.lo p (by omega) (by omega)
  · rw [key, key, if_neg (by omega : ¬ p = a), if_neg (by omega : ¬ p = j)]
    by_cases e : j = a
    · rw [if_pos e, e]; exact h.hi p g1 g2
    · rw [if_neg e, if_pos rfl]; exact h.hi p g1 g2
/-! ### The whole sort -/
/-- Those before a are less than those from a to b. -/
def Lo (r : α → Int) (a b : Nat) (L : List α) : Prop := 0 < a → ∀ i, a ≤ i → i < b → rk r L (a - 1) ≤ rk r L i
theorem Lo.pr (h : Lo r a b L) (hb : b ≤ L.length) (hp : PR a b L L') : Lo r a b L' := fun h0 i h1 h2 => by
  rw [rk_eq (hp.out (a - 1) (by omega))]
  exact hp.all (r := r) hb (P := fun x => rk r L (a - 1) ≤ x) (h h0) i h1 h2
/-- The rest to be sorted is from c to d. -/
def Rest (r : α → Int) (a b : Nat) (L0 : List α) (c d : Nat) (L : List α) : Prop := ∀ L', PR c d L L' → SO r c d L' → PR a b L0 L' ∧ SO r a b L'
theorem Rest.start (L : List α) : Rest r a b L a b L := fun L' h1 h2 => ⟨h1, h2⟩
theorem Rest.pr {c d : Nat} {L0 : List α} (h : Rest r a b L0 c d L) (hp : PR c d L L') : Rest r a b L0 c d L' := fun L3 h1 h2 => h L3 (hp.trans h1) h2
theorem Parted.pr {m c d : Nat} (h : Parted r a b m L) (hb : b ≤ L.length) (hp : PR c d L L') (hcd : (c = a ∧ d = m) ∨ (c = m + 1 ∧ d = b)) : Parted r a b m L' := by
  have h1 := h.am
  have h2 := h.mb
  have em : rk r L' m = rk r L m := rk_eq (hp.out m (by omega))
  rcases hcd with ⟨rfl, rfl⟩ | ⟨rfl, rfl⟩
  · refine ⟨h1, h2, ?_, fun p g1 g2 => ?_⟩
    · rw [em]; exact hp.all (r := r) (by omega) (P := fun x => x ≤ rk r L d) h.lo
    · rw [em, rk_eq (hp.out p (by omega))]; exact h.hi p g1 g2
  · refine ⟨h1, h2, fun p g1 g2 => ?_, fun p g1 g2 => ?_⟩
    · rw [em, rk_eq (hp.out p (by omega))]; exact h.lo p g1 g2
    · rw [em]; exact hp.all (r := r) (by omega) (P := fun x => rk r L m ≤ x) (fun p k1 k2 => h.hi p (by omega) k2) p (by omega) g2
theorem Parted.join {m : Nat} (h : Parted r a b m L) (h1 : SO r a m L) (h2 : SO r (m + 1) b L) : SO r a b L := fun i j g1 g2 g3 => by
  have := h.am
  have := h.mb
  by_cases e1 : j < m
  · exact h1 i j g1 g2 e1
  by_cases e2 : i > m
  · exact h2 i j (by omega) g2 g3
  by_cases e3 : i = m
  · rw [e3]; exact h.hi j (by omega) g3
  by_cases e4 : j = m
  · rw [e4]; exact h.lo i g1 (by omega)
  · have := h.lo i g1 (by omega)
    have := h.hi j (by omega) g3
    omega
theorem Rest.right {c d m : Nat} {L0 : List α} (h : Rest r a b L0 c d L) (hm : Parted r c d m L) (hb : d ≤ L.length) (hp : PR c m L L') (hs : SO r c m L') : Rest r a b L0 (m + 1) d L' ∧ Lo r (m + 1) d L' := by
  have hm' := hm.pr hb hp (.inl ⟨rfl, rfl⟩)
  have h1 := hm.am
  have h2 := hm.mb
  refine ⟨fun L3 g1 g2 => h L3 ((hp.mono (Nat.le_refl _) (by omega)).trans (g1.mono (by omega) (Nat.le_refl _))) ?_, fun _ i g1 g2 => hm'.hi i (by omega) g2⟩
  exact (hm'.pr (by rw [hp.len]; exact hb) g1 (.inr ⟨rfl, rfl⟩)).join (hs.out g1 (by omega)) g2
theorem Rest.left {c d m : Nat} {L0 : List α} (h : Rest r a b L0 c d L) (hlo : Lo r c d L) (hm : Parted r c d m L) (hb : d ≤ L.length) (hp : PR (m + 1) d L L') (hs : SO r (m + 1) d L') : Rest r a b L0 c m L' ∧ Lo r c m L' := by
  have hm' := hm.pr hb hp (.inr ⟨rfl, rfl⟩)
  have h1 := hm.am
  have h2 := hm.mb
  refine ⟨fun L3 g1 g2 => h L3 ((hp.mono (by omega) (Nat.le_refl _)).trans (g1.mono (Nat.le_refl _) (by omega))) ?_, fun h0 i g1 g2 => ?_⟩
  · exact (hm'.pr (by rw [hp.len]; exact hb) g1 (.inl ⟨rfl, rfl⟩)).join g2 (hs.out g1 (by omega))
  · rw [rk_eq (hp.out (c - 1) (by omega)), rk_eq (hp.out i (by omega))]
    exact hlo h0 i g1 (by omega)
theorem Parted.lo1 {m : Nat} (h : Parted r a b m L) : Lo r (m + 1) b L := fun _ i g1 g2 => h.hi i (by omega) g2
theorem Lo.left {m : Nat} (h : Lo r a b L) (hm : m ≤ b) : Lo r a m L := fun h0 i g1 g2 => h h0 i g1 (by omega)
/-! ### Equal elements -/
/-- While the elements that equal the least one are gathered: those before i are not greater than it, those behind j are. -/
structure PartE (r : α → Int) (a b i j : Nat) (L : List α) : Prop where
  ij : i ≤ j + 1
  ai : a < i
  jb : j < b
  mn : ∀ p, a ≤ p → p < b → rk r L a ≤ rk r L p
  lo : ∀ p, a ≤ p → p < i → rk r L p ≤ rk r L a
  hi : ∀ p, j < p → p < b → rk r L a < rk r L p
theorem PartE.start (h : a + 1 < b) (hm : ∀ p, a ≤ p → p < b → rk r L a ≤ rk r L p) : PartE r a b (a + 1) (b - 1) L := ⟨by omega, by omega, by omega, hm, fun p h1 h2 => by rw [show p = a by omega]; exact Int.le_refl _, fun p _ _ => by omega⟩
theorem PartE.up (h : PartE r a b i j L) (hij : i ≤ j) (hge : ¬ rk r L a < rk r L i) : PartE r a b (i + 1) j L := ⟨by omega, by have := h.ai; omega, h.jb, h.mn, fun p h1 h2 => by
  by_cases e : p = i
  · rw [e]; omega
  · exact h.lo p h1 (by omega), h.hi⟩
theorem PartE.down (h : PartE r a b i j L) (hij : i ≤ j) (hlt : rk r L a < rk r L j) : PartE r a b i (j - 1) L := by
  have := h.ai
  have := h.jb
  refine ⟨by omega, by omega, by omega, h.mn, h.lo, fun p h1 h2 => ?_⟩
  by_cases e : p = j
  · rw [e]; exact hlt
  · exact h.hi p (by omega) h2
theorem PartE.swap (h : PartE r a b i j L) (hij : i ≤ j) (hb : b ≤ L.length) (h1 : rk r L a < rk r L i) (h2 : ¬ rk r L a < rk r L j) : i < j ∧ PartE r a b (i + 1) (j - 1) (sw L i j) := by
  have hai := h.ai
  have hjb := h.jb
  have hne : i ≠ j := fun e => by rw [e] at h1; exact h2 h1
  have key := fun c => sw_rk (r := r) (L := L) (i := i) (j := j) (by omega) (by omega) c
  have ka : rk r (sw L i j) a = rk r L a := by rw [key, if_neg (by omega), if_neg (by omega)]
  refine ⟨by omega, by omega, by omega, by omega, fun p g1 g2 => ?_, fun p g1 g2 => ?_, fun p g1 g2 => ?_⟩
  · rw [ka, key]
    split
    · exact h.mn i (by omega) (by omega)
    · split
      · exact h.mn j (by omega) (by omega)
      · exact h.mn p g1 g2
  · rw [ka, key, if_neg (by omega)]
    by_cases e : p = i
    · rw [if_pos e]; omega
    · rw [if_neg e]; exact h.lo p g1 (by omega)
  · rw [ka, key]
    by_cases e : p = j
    · rw [if_pos e]; exact h1
    · rw [if_neg e, if_neg (by omega)]; exact h.hi p (by omega) g2
/-- They are where they belong. -/
theorem Rest.equal {c d m : Nat} {L0 : List α} (h : Rest r a b L0 c d L) (hb : d ≤ L.length) (hcm : c < m) (hmd : m ≤ d) (hlo : ∀ p, c ≤ p → p < m → rk r L p = rk r L c) (hmn : ∀ p, c ≤ p → p < d → rk r L c ≤ rk r L p) : Rest r a b L0 m d L ∧ Lo r m d L := by
  refine ⟨fun L3 g1 g2 => h L3 (g1.mono (by omega) (Nat.le_refl _)) ?_, fun h0 i g1 g2 => by rw [hlo (m - 1) (by omega) (by omega)]; exact hmn i (by omega) g2⟩
  have hge := g1.all (r := r) hb (P := fun x => rk r L c ≤ x) (fun i k1 k2 => hmn i (by omega) k2)
  intro i j k1 k2 k3
  by_cases e : m ≤ i
  · exact g2 i j e k2 k3
  · rw [rk_eq (g1.out i (by omega)), hlo i k1 (by omega)]
    by_cases e2 : m ≤ j
    · exact hge j e2 k3
    · rw [rk_eq (g1.out j (by omega)), hlo j (by omega) (by omega)]
      exact Int.le_refl _
/-! ### There is one sorted order -/
theorem so_pair (h : SO r 0 L.length L) : (L.map r).Pairwise (· ≤ ·) := by
  rw [List.pairwise_iff_getElem]
  intro i j hi hj hij
  have := h i j (Nat.zero_le _) hij (by simpa using hj)
  rw [rk_of (List.getElem?_eq_getElem (by simpa using hi)), rk_of (List.getElem?_eq_getElem (by simpa using hj))] at this
  simpa using this
theorem srt_unique : ∀ {L M : List α}, L.Perm M → (∀ x ∈ L, ∀ y ∈ L, r x = r y → x = y) → (L.map r).Pairwise (· ≤ ·) → (M.map r).Pairwise (· ≤ ·) → L = M
  | [], M, h, _, _, _ => (List.nil_perm.1 h).symm
  | x :: L, [], h, _, _, _ => absurd h.length_eq (by simp)
  | x :: L, y :: M, h, hi, h1, h2 => by
    simp only [List.map_cons, List.pairwise_cons, List.mem_map, forall_exists_index, and_imp, forall_apply_eq_imp_iff₂] at h1 h2
    have hy' : y ∈ x :: L := h.mem_iff.2 (List.mem_cons_self ..)
    have e : x = y := by
      have hx : x ∈ y :: M := h.mem_iff.1 (List.mem_cons_self ..)
      have hy := hy'
      rcases List.mem_cons.1 hx with e | hx
      · exact e
      rcases List.mem_cons.1 hy with e | hy
      · exact e.symm
      have := h2.1 x hx
      have := h1.1 y hy
      exact hi x (List.mem_cons_self ..) y hy' (by omega)
    subst e
    rw [srt_unique ((List.perm_cons x).1 h) (fun a ha b hb => hi a (List.mem_cons_of_mem _ ha) b (List.mem_cons_of_mem _ hb)) h1.2 h2.2]
end
end Go.Proofs.Ythcohphflhkceaa.Abs
