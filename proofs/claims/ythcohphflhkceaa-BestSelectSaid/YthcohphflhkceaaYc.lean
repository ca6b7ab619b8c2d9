/- A stable order of a list: plain facts (no program). -/
import Derived.Test.YthcohphflhkceaaSort0
import Derived.Test.YthcohphflhkceaaYa
import Derived.Test.YthcohphflhkceaaYb
namespace Go.Proofs.Ythcohphflhkceaa.Abs
section
variable {α : Type} {key : α → Int}
/-- L holds the elements of L0, those of one key in the same order. -/
def Stb (key : α → Int) (L0 L : List α) : Prop := ∀ k, L.filter (fun x => decide (key x = k)) = L0.filter (fun x => decide (key x = k))
/-- The keys do not descend. -/
def Asc (key : α → Int) (L : List α) : Prop := L.Pairwise fun x y => key x ≤ key y
theorem Stb.refl (L : List α) : Stb key L L := fun _ => rfl
theorem Stb.trans {L0 L1 L2 : List α} (h : Stb key L0 L1) (g : Stb key L1 L2) : Stb key L0 L2 := fun k => (g k).trans (h k)
theorem Stb.symm {L0 L1 : List α} (h : Stb key L0 L1) : Stb key L1 L0 := fun k => (h k).symm
theorem Stb.app {A B A' B' : List α} (h : Stb key A A') (g : Stb key B B') : Stb key (A ++ B) (A' ++ B') := fun k => by rw [List.filter_append, List.filter_append, h k, g k]
theorem Stb.mem {L0 L : List α} (h : Stb key L0 L) {x : α} : x ∈ L ↔ x ∈ L0 := by
  have e := h (key x)
  have m : ∀ K : List α, x ∈ K ↔ x ∈ K.filter fun y => decide (key y = key x) := fun K => by rw [List.mem_filter]; simp
  rw [m L, e, ← m L0]
theorem Stb.length {L0 L : List α} (h : Stb key L0 L) : L.length = L0.length := by
  induction L0 generalizing L with
  | nil =>
    cases L with
    | nil => rfl
    | cons x l => exact absurd (h.mem.1 (List.mem_cons_self ..)) (by simp)
  | cons a l ih =>
    -- take the first element with a's key out of L
    have hm : a ∈ L := h.mem.2 (List.mem_cons_self ..)
    have key0 : ∃ P S, L = P ++ a :: S ∧ ∀ x ∈ P, key x ≠ key a := by
      have e := h (key a)
      rw [List.filter_cons, if_pos (by simp)] at e
      clear ih h hm
      induction L with
      | nil => simp at e
      | cons x K ihK =>
        by_cases hx : key x = key a
        · rw [List.filter_cons, if_pos (by simp [hx])] at e
          obtain ⟨rfl, _⟩ := List.cons.inj e
          exact ⟨[], K, rfl, fun y hy => (by cases hy)⟩
        · rw [List.filter_cons, if_neg (by simp [hx])] at e
          obtain ⟨P, S, rfl, hP⟩ := ihK e
          exact ⟨x :: P, S, rfl, fun y hy => by
            rcases List.mem_cons.1 hy with rfl | h
            · exact hx
            · exact hP y h⟩
    obtain ⟨P, S, rfl, hP⟩ := key0
    have h2 : Stb key l (P ++ S) := fun k => by
      have e := h k
      rw [List.filter_append, List.filter_cons, List.filter_cons] at e
      rw [List.filter_append]
      by_cases hk : key a = k
      · rw [if_pos (by simp [hk]), if_pos (by simp [hk])] at e
        have hn : P.filter (fun x => decide (key x = k)) = [] := List.filter_eq_nil_iff.2 fun x hx => by
          have := hP x hx
          simp only [decide_eq_true_eq]
          omega
        rw [hn] at e ⊢
        exact (List.cons.inj e).2
      · rw [if_neg (by simp [hk]), if_neg (by simp [hk])] at e
        exact e
    have := ih h2
    simp only [List.length_append, List.length_cons] at this ⊢
    omega
/-- Blocks without a common key change places. -/
theorem stb_blocks {U V : List α} (h : ∀ x ∈ U, ∀ y ∈ V, key y < key x) : Stb key (U ++ V) (V ++ U) := fun k => by
  rw [List.filter_append, List.filter_append]
  by_cases hu : ∃ x ∈ U, key x = k
  · obtain ⟨x, hx, hk⟩ := hu
    have hv : V.filter (fun x => decide (key x = k)) = [] := List.filter_eq_nil_iff.2 fun y hy => by
      have := h x hx y hy
      simp only [decide_eq_true_eq]
      omega
    rw [hv, List.nil_append, List.append_nil]
  · have hv : U.filter (fun x => decide (key x = k)) = [] := List.filter_eq_nil_iff.2 fun y hy => by
      simp only [decide_eq_true_eq]
      exact fun e => hu ⟨y, hy, e⟩
    rw [hv, List.nil_append, List.append_nil]
theorem stb_swap {P S : List α} {x y : α} (h : key y < key x) : Stb key (P ++ x :: y :: S) (P ++ y :: x :: S) :=
  (Stb.refl P).app ((stb_blocks (U := [x]) (V := [y]) fun a ha b hb => by rw [List.mem_singleton.1 ha, List.mem_singleton.1 hb]; exact h).app (Stb.refl S))
/-- Two parts in order, the one before the other. -/
theorem asc_app {A B : List α} (hA : Asc key A) (hB : Asc key B) (h : ∀ x ∈ A, ∀ y ∈ B, key x ≤ key y) : Asc key (A ++ B) := List.pairwise_append.2 ⟨hA, hB, h⟩
/-- One step of a merge by halves: what is merged of the lower parts, then of the upper parts. -/
theorem merge_parts {X1 X2 Y1 Y2 R1 R2 : List α} (h1 : Stb key (X1 ++ Y1) R1) (h2 : Stb key (X2 ++ Y2) R2) (a1 : Asc key R1) (a2 : Asc key R2)
    (hX : Asc key (X1 ++ X2)) (hY : Asc key (Y1 ++ Y2)) (hlo : ∀ x ∈ X2, ∀ y ∈ Y1, key y < key x) (hhi : ∀ x ∈ X1, ∀ y ∈ Y2, key x ≤ key y) :
    Stb key ((X1 ++ X2) ++ (Y1 ++ Y2)) (R1 ++ R2) ∧ Asc key (R1 ++ R2) := by
  refine ⟨Stb.trans ?_ (h1.app h2), asc_app a1 a2 fun x hx y hy => ?_⟩
  · have := (Stb.refl (key := key) X1).app ((stb_blocks hlo).app (Stb.refl Y2))
    simpa using this
  · have hx := h1.mem.1 hx
    have hy := h2.mem.1 hy
    obtain ⟨_, _, hXX⟩ := List.pairwise_append.1 hX
    obtain ⟨_, _, hYY⟩ := List.pairwise_append.1 hY
    rcases List.mem_append.1 hx with hx | hx <;> rcases List.mem_append.1 hy with hy | hy
    · exact hXX x hx y hy
    · exact hhi x hx y hy
    · exact Int.le_of_lt (hlo y hy x hx)
    · exact hYY x hx y hy
end
end Go.Proofs.Ythcohphflhkceaa.Abs

/- Parts of a list change places: plain facts for swapRange and rotate. -/
namespace Go.Proofs.Ythcohphflhkceaa.Abs
section
variable {α : Type}
theorem get_mid {P S : List α} {x : α} : (P ++ x :: S)[P.length]? = some x := by simp
theorem set_mid {P S : List α} {x y : α} : (P ++ x :: S).set P.length y = P ++ y :: S := by simp
theorem sw_parts {P Q S : List α} {x y : α} {i j : Nat} (hi : i = P.length) (hj : j = P.length + 1 + Q.length) : sw (P ++ x :: (Q ++ y :: S)) i j = P ++ y :: (Q ++ x :: S) := by
  subst hi
  have e : ∀ a b : α, P ++ a :: (Q ++ b :: S) = (P ++ a :: Q) ++ b :: S := fun a b => by simp
  have hl : ∀ a : α, (P ++ a :: Q).length = j := fun a => by rw [hj]; simp; omega
  have h1 : (P ++ x :: (Q ++ y :: S))[P.length]? = some x := get_mid
  have h2 : (P ++ x :: (Q ++ y :: S))[j]? = some y := by rw [e, ← hl x]; exact get_mid
  rw [sw_of h1 h2, set_mid, e, ← hl y, set_mid, ← e]
/-- What swapRange has done after i steps. -/
def swpR (P A Q B S : List α) (i : Nat) : List α := P ++ ((B.take i ++ A.drop i) ++ (Q ++ ((A.take i ++ B.drop i) ++ S)))
theorem swpR_0 (P A Q B S : List α) : swpR P A Q B S 0 = P ++ (A ++ (Q ++ (B ++ S))) := by simp [swpR]
theorem swpR_n {P A Q B S : List α} {n : Nat} (hA : A.length = n) (hB : B.length = n) : swpR P A Q B S n = P ++ (B ++ (Q ++ (A ++ S))) := by
  unfold swpR
  rw [List.take_of_length_le (by omega), List.drop_of_length_le (by omega), List.take_of_length_le (by omega), List.drop_of_length_le (by omega)]
  simp
theorem swpR_step {P A Q B S : List α} {n i : Nat} (hA : A.length = n) (hB : B.length = n) (hi : i < n) : sw (swpR P A Q B S i) (P.length + i) (P.length + n + Q.length + i) = swpR P A Q B S (i + 1) := by
  obtain ⟨a, ha⟩ : ∃ a, A[i]? = some a := ⟨_, List.getElem?_eq_getElem (by omega)⟩
  obtain ⟨b, hb⟩ : ∃ b, B[i]? = some b := ⟨_, List.getElem?_eq_getElem (by omega)⟩
  obtain ⟨h1, e1⟩ := List.getElem?_eq_some_iff.1 ha
  obtain ⟨h2, e2⟩ := List.getElem?_eq_some_iff.1 hb
  have dA : A.drop i = a :: A.drop (i + 1) := by rw [List.drop_eq_getElem_cons h1, e1]
  have dB : B.drop i = b :: B.drop (i + 1) := by rw [List.drop_eq_getElem_cons h2, e2]
  have tA : A.take (i + 1) = A.take i ++ [a] := by rw [List.take_add_one, ha]; rfl
  have tB : B.take (i + 1) = B.take i ++ [b] := by rw [List.take_add_one, hb]; rfl
  unfold swpR
  rw [dA, dB, tA, tB]
  have e : P ++ ((B.take i ++ a :: A.drop (i + 1)) ++ (Q ++ ((A.take i ++ b :: B.drop (i + 1)) ++ S))) = (P ++ B.take i) ++ a :: ((A.drop (i + 1) ++ (Q ++ A.take i)) ++ b :: (B.drop (i + 1) ++ S)) := by simp
  rw [e, sw_parts (by rw [List.length_append, List.length_take]; omega) (by simp only [List.length_append, List.length_take, List.length_drop]; omega)]
  simp
/-- One round of rotate: the left part is the longer one. -/
theorem rot_left {P U1 U2 V S : List α} : P ++ (V ++ (U2 ++ (U1 ++ S))) = (P ++ V) ++ (U2 ++ (U1 ++ S)) := by simp
theorem rot_left_goal {P U1 U2 V S : List α} : (P ++ V) ++ (U1 ++ (U2 ++ S)) = P ++ (V ++ ((U1 ++ U2) ++ S)) := by simp
/-- The right part is the longer one. -/
theorem rot_right_goal {P U V1 V2 S : List α} : P ++ (V1 ++ (V2 ++ (U ++ S))) = P ++ ((V1 ++ V2) ++ (U ++ S)) := by simp
end
end Go.Proofs.Ythcohphflhkceaa.Abs

/- Merging: what the search of symMerge gives. Plain. -/
namespace Go.Proofs.Ythcohphflhkceaa.Abs
section
variable {α : Type} {key : α → Int}
theorem Asc.get {L : List α} (h : Asc key L) {i j : Nat} {x y : α} (hi : L[i]? = some x) (hj : L[j]? = some y) (hij : i ≤ j) : key x ≤ key y := by
  obtain ⟨h1, rfl⟩ := List.getElem?_eq_some_iff.1 hi
  obtain ⟨h2, rfl⟩ := List.getElem?_eq_some_iff.1 hj
  rcases Nat.lt_or_eq_of_le hij with hlt | rfl
  · exact List.pairwise_iff_getElem.1 h i j h1 h2 hlt
  · exact Int.le_refl _
theorem Asc.sub {L K : List α} (h : Asc key L) (hs : K.Sublist L) : Asc key K := List.Pairwise.sublist hs h
theorem merge_cut {X Y : List α} {s e : Nat} (hX : Asc key X) (hY : Asc key Y) (hs : s ≤ X.length) (he : e ≤ Y.length)
    (hlo : ∀ x y, X[s]? = some x → 0 < e → Y[e - 1]? = some y → key y < key x) (hhi : ∀ x y, 0 < s → X[s - 1]? = some x → Y[e]? = some y → key x ≤ key y) :
    (∀ x ∈ X.drop s, ∀ y ∈ Y.take e, key y < key x) ∧ (∀ x ∈ X.take s, ∀ y ∈ Y.drop e, key x ≤ key y) := by
  constructor
  · intro x hx y hy
    obtain ⟨i, hi⟩ := List.getElem?_of_mem hx
    rw [List.getElem?_drop] at hi
    obtain ⟨j, hj⟩ := List.getElem?_of_mem hy
    rw [List.getElem?_take] at hj
    split at hj
    · rename_i hlt
      obtain ⟨x0, h0⟩ : ∃ x0, X[s]? = some x0 := ⟨_, List.getElem?_eq_getElem (by have := (List.getElem?_eq_some_iff.1 hi).1; omega)⟩
      have hjl := (List.getElem?_eq_some_iff.1 hj).1
      by_cases hyl : e - 1 < Y.length
      · obtain ⟨y0, g0⟩ : ∃ y0, Y[e - 1]? = some y0 := ⟨_, List.getElem?_eq_getElem hyl⟩
        have a1 := hlo x0 y0 h0 (by omega) g0
        have a2 := hX.get h0 hi (by omega)
        have a3 := hY.get hj g0 (by omega)
        omega
      · -- e is beyond Y: the law is asked only for e within Y
        exfalso
        exact hyl (by omega)
    · cases hj
  · intro x hx y hy
    obtain ⟨i, hi⟩ := List.getElem?_of_mem hx
    rw [List.getElem?_take] at hi
    obtain ⟨j, hj⟩ := List.getElem?_of_mem hy
    rw [List.getElem?_drop] at hj
    split at hi
    · rename_i hlt
      obtain ⟨y0, g0⟩ : ∃ y0, Y[e]? = some y0 := ⟨_, List.getElem?_eq_getElem (by have := (List.getElem?_eq_some_iff.1 hj).1; omega)⟩
      have a3 := hY.get g0 hj (by omega)
      by_cases hxl : s - 1 < X.length
      · obtain ⟨x0, h0⟩ : ∃ x0, X[s - 1]? = some x0 := ⟨_, List.getElem?_eq_getElem hxl⟩
        have a1 := hhi x0 y0 (by omega) h0 g0
        have a2 := hX.get hi h0 (by omega)
        omega
      · exfalso
        exact hxl (by omega)
    · cases hi
end
end Go.Proofs.Ythcohphflhkceaa.Abs

/- Insertion: plain. -/
namespace Go.Proofs.Ythcohphflhkceaa.Abs
section
variable {α : Type} {key : α → Int}
/-- The element x on its way: A below, B above. -/
structure InsS (key : α → Int) (X : List α) (x : α) (A B : List α) : Prop where
  asc : Asc key (A ++ B)
  up : ∀ y ∈ B, key x < key y
  stb : Stb key (X ++ [x]) (A ++ x :: B)
theorem InsS.start {X : List α} {x : α} (h : Asc key X) : InsS key X x X [] := ⟨by rw [List.append_nil]; exact h, fun y hy => (by cases hy), Stb.refl _⟩
theorem InsS.step {X A B : List α} {x z : α} (h : InsS key X x (A ++ [z]) B) (hz : key x < key z) : InsS key X x A (z :: B) := by
  obtain ⟨h1, h2, h3⟩ := h
  refine ⟨by simpa using h1, fun y hy => ?_, h3.trans ?_⟩
  · rcases List.mem_cons.1 hy with rfl | hy
    · exact hz
    · exact h2 y hy
  · have := stb_swap (P := A) (S := B) hz
    simpa using this
theorem InsS.done {X A B : List α} {x : α} (h : InsS key X x A B) (hz : ∀ z, A.getLast? = some z → key z ≤ key x) : Asc key (A ++ x :: B) ∧ Stb key (X ++ [x]) (A ++ x :: B) := by
  obtain ⟨h1, h2, h3⟩ := h
  refine ⟨?_, h3⟩
  obtain ⟨a1, a2, a3⟩ := List.pairwise_append.1 h1
  refine List.pairwise_append.2 ⟨a1, List.pairwise_cons.2 ⟨fun y hy => Int.le_of_lt (h2 y hy), a2⟩, fun w hw y hy => ?_⟩
  rcases List.mem_cons.1 hy with rfl | hy
  · rcases List.eq_nil_or_concat A with rfl | ⟨A0, z, rfl⟩
    · cases hw
    · have hzx := hz z (by simp)
      rw [List.concat_eq_append] at hw a1
      rcases List.mem_append.1 hw with hw | hw
      · have := (List.pairwise_append.1 a1).2.2 w hw z (List.mem_singleton.2 rfl)
        omega
      · rw [List.mem_singleton.1 hw]; exact hzx
  · exact a3 w hw y hy
end
end Go.Proofs.Ythcohphflhkceaa.Abs

/- Merging with one element. Plain. -/
namespace Go.Proofs.Ythcohphflhkceaa.Abs
section
variable {α : Type} {key : α → Int}
theorem asc_take_last {Y : List α} {s : Nat} {k : Int} (hY : Asc key Y) (hlo : ∀ y, 0 < s → Y[s - 1]? = some y → key y < k) (hs : s ≤ Y.length) : ∀ y ∈ Y.take s, key y < k := fun y hy => by
  obtain ⟨j, hj⟩ := List.getElem?_of_mem hy
  rw [List.getElem?_take] at hj
  split at hj
  · rename_i hlt
    obtain ⟨y0, h0⟩ : ∃ y0, Y[s - 1]? = some y0 := ⟨_, List.getElem?_eq_getElem (by omega)⟩
    have h1 := hlo y0 (by omega) h0
    have h2 := hY.get hj h0 (by omega)
    omega
  · cases hj
theorem asc_take_last' {Y : List α} {s : Nat} {k : Int} (hY : Asc key Y) (hlo : ∀ y, 0 < s → Y[s - 1]? = some y → key y ≤ k) (hs : s ≤ Y.length) : ∀ y ∈ Y.take s, key y ≤ k := fun y hy => by
  have := asc_take_last (k := k + 1) hY (fun y h0 h => by have := hlo y h0 h; omega) hs y hy
  omega
theorem asc_drop_first {Y : List α} {s : Nat} {k : Int} (hY : Asc key Y) (hhi : ∀ y, Y[s]? = some y → k ≤ key y) : ∀ y ∈ Y.drop s, k ≤ key y := fun y hy => by
  obtain ⟨j, hj⟩ := List.getElem?_of_mem hy
  rw [List.getElem?_drop] at hj
  obtain ⟨y0, h0⟩ : ∃ y0, Y[s]? = some y0 := ⟨_, List.getElem?_eq_getElem (by have := (List.getElem?_eq_some_iff.1 hj).1; omega)⟩
  have h1 := hhi y0 h0
  have h2 := hY.get h0 hj (by omega)
  omega
theorem merge_left {Y : List α} {x : α} {s : Nat} (hY : Asc key Y) (hs : s ≤ Y.length) (hlo : ∀ y, 0 < s → Y[s - 1]? = some y → key y < key x) (hhi : ∀ y, Y[s]? = some y → key x ≤ key y) :
    Stb key ([x] ++ Y) (Y.take s ++ x :: Y.drop s) ∧ Asc key (Y.take s ++ x :: Y.drop s) := by
  have h1 := asc_take_last hY hlo hs
  have h2 := asc_drop_first hY hhi
  refine ⟨?_, asc_app (hY.sub (List.take_sublist _ _)) (List.pairwise_cons.2 ⟨h2, hY.sub (List.drop_sublist _ _)⟩) fun a ha b hb => ?_⟩
  · have := (stb_blocks (key := key) (U := [x]) (V := Y.take s) fun a ha b hb => by rw [List.mem_singleton.1 ha]; exact h1 b hb).app (Stb.refl (Y.drop s))
    rw [List.append_assoc, List.take_append_drop] at this
    simpa using this
  · rcases List.mem_cons.1 hb with rfl | hb
    · exact Int.le_of_lt (h1 a ha)
    · have := h1 a ha
      have := h2 b hb
      omega
theorem merge_right {X : List α} {y : α} {s : Nat} (hX : Asc key X) (hs : s ≤ X.length) (hlo : ∀ x, 0 < s → X[s - 1]? = some x → key x ≤ key y) (hhi : ∀ x, X[s]? = some x → key y < key x) :
    Stb key (X ++ [y]) (X.take s ++ y :: X.drop s) ∧ Asc key (X.take s ++ y :: X.drop s) := by
  have h1 := asc_take_last' hX hlo hs
  have h2 := asc_drop_first (k := key y + 1) hX (fun x h => by have := hhi x h; omega)
  refine ⟨?_, asc_app (hX.sub (List.take_sublist _ _)) (List.pairwise_cons.2 ⟨fun a ha => by have := h2 a ha; omega, hX.sub (List.drop_sublist _ _)⟩) fun a ha b hb => ?_⟩
  · have := (Stb.refl (key := key) (X.take s)).app (stb_blocks (key := key) (U := X.drop s) (V := [y]) fun a ha b hb => by rw [List.mem_singleton.1 hb]; have := h2 a ha; omega)
    rw [← List.append_assoc, List.take_append_drop] at this
    simpa using this
  · rcases List.mem_cons.1 hb with rfl | hb
    · exact h1 a ha
    · have := h1 a ha
      have := h2 b hb
      omega
end
end Go.Proofs.Ythcohphflhkceaa.Abs

/- The library's stable sort: insertion sort, swapRange, rotate. -/
namespace Go.Proofs.Ythcohphflhkceaa.Abs
open Go
set_option linter.unusedVariables false
theorem sw_adj {α : Type} {P S : List α} {z x : α} {i j : Nat} (hi : i = P.length + 1) (hj : j = P.length) : sw (P ++ z :: x :: S) i j = P ++ x :: z :: S := by
  subst hi; subst hj
  have h1 : (P ++ z :: x :: S)[P.length]? = some z := get_mid
  have e : ∀ a : α, P ++ a :: x :: S = (P ++ [a]) ++ x :: S := fun a => by simp
  have h2 : (P ++ z :: x :: S)[P.length + 1]? = some x := by rw [e]; have := get_mid (P := P ++ [z]) (x := x) (S := S); simp
  rw [sw_of h2 h1]
  have e2 : (P ++ z :: x :: S).set (P.length + 1) z = P ++ z :: z :: S := by simp
  rw [e2, set_mid]
theorem get_mid' {α : Type} {P S : List α} {x : α} {i : Nat} (h : i = P.length) : (P ++ x :: S)[i]? = some x := by rw [h]; exact get_mid
section
variable {B0 : Nat} {old : Nat → Option (List Value)} {n : Nat} {H Hs : Hp} {Q : Value → Hp → Prop} {b c N : Nat} {f : Value} {r : Rw → Int} {Pr : Rw → Prop}
set_option maxRecDepth 10000
set_option maxHeartbeats 4000000
theorem swapR_ct {P A M B S : List Rw} {a b' k : Nat} (ho : Own enW 38 (P ++ (A ++ (M ++ (B ++ S)))) (.slice (some ⟨b, 0, none⟩) N c) Hs) (hLN : (P ++ (A ++ (M ++ (B ++ S)))).length = N) (hN : N ≤ 100000)
    (ha : a = P.length) (hA : A.length = k) (hB : B.length = k) (hb : b' = P.length + k + M.length)
    (hQ : ∀ w Hs', Own enW 38 (P ++ (B ++ (M ++ (A ++ S)))) (.slice (some ⟨b, 0, none⟩) N c) Hs' → Q w (Hs' ++ H)) :
    CallT (cx B0 old) (acall (cx B0 old) ansP (n + 1)) 83 [.slice (some ⟨b, 0, none⟩) N c, .int .i64 a, .int .i64 b', .int .i64 k, f] (Hs ++ H) Q := by
  refine call_in 38 rfl Try.func83 rfl rfl ?_
  simp only [List.length_append] at hLN
  repeat (refine ZX ?_; try with_reducible intro _)
  refine loop_ind (ι := Nat × Hp) (0, Hs) (fun i => k - i.1) (fun i => i.1 ≤ k ∧ Own enW 38 (swpR P A M B S i.1) (.slice (some ⟨b, 0, none⟩) N c) i.2)
    (fun i => [(10, .int .i64 (i.1 : Int)), (0, .slice (some ⟨b, 0, none⟩) N c), (1, .int .i64 (a : Int)), (2, .int .i64 (b' : Int)), (3, .int .i64 (k : Int))]) (fun i => i.2 ++ H) ⟨Nat.zero_le _, by rw [swpR_0]; exact ho⟩ (by repeat (first | exact SubL.nil | refine SubL.cons rfl ?_)) (List.Sublist.refl _) ?_
  rintro ⟨i, G⟩ ⟨hi, oJ⟩
  dsimp only at hi oJ ⊢
  repeat (refine ZX ?_; try with_reducible intro _)
  refine ct_condT te_d rfl (fun hlt => ?_) (fun hlt => ?_)
  rotate_left
  · repeat (refine ZX ?_; try with_reducible intro _)
    obtain rfl : i = k := by omega
    rw [swpR_n hA hB] at oJ
    exact re_0 rfl (List.Sublist.refl _) (fun w => hQ w G oJ)
  have hst := swpR_step (P := P) (Q := M) (S := S) hA hB (i := i) (by omega)
  rw [← hb, ← ha] at hst
  obtain ⟨x, hx, mx, hL0⟩ := oJ.ldE (C := cx B0 old) (et := 40) enW_len rfl (sz rfl) (i := a + i) (by omega) H
  obtain ⟨y, hy, my, hL1⟩ := oJ.ldE (C := cx B0 old) (et := 40) enW_len rfl (sz rfl) (i := b' + i) (by omega) H
  obtain ⟨H1, H2, o2, s1, s2⟩ := oJ.swp (C := cx B0 old) (et := 40) enW_len enW_one (sz rfl) hx hy
  rw [hst] at o2
  repeat (refine ZX ?_; try with_reducible intro _)
  refine ct_draw (masks := [0, 0, 0, 6, 0, 0, 0, 96, 0, 0, 0, 1536, 3840, 7936, 0, 0, 0, 98304, 245760, 507904, 1048335, 2096911, 4194303, 8388607]) (plan := [0, 1, 2, 3, 4, 5, 6, 7, 8, 9, 10, 11, 12, 13, 14, 15, 16, 17, 18, 19, 20, 21, 22, 23]) (E := []) (by kernel_rfl) (by kernel_rfl) (by kernel_rfl) (by kernel_rfl) ?_
  repeat (refine YX ?_)
  apply pl_st rfl rfl rfl rfl rfl rfl rfl rfl
  case hp => exact s1 [] H
  case hr => exact rec_auto
  repeat (refine YX ?_)
  apply pl_st rfl rfl rfl rfl rfl rfl rfl rfl
  case hp => exact s2 [] H
  case hr => exact rec_auto
  repeat (refine YX ?_)
  repeat (refine ZX ?_; try with_reducible intro _)
  exact ⟨(i + 1, H2), ⟨by omega, o2⟩, by dsimp only; omega, by repeat (first | exact SubL.nil | refine SubL.cons rfl ?_), List.Sublist.refl _⟩
theorem rotate_ct {A U V S : List Rw} {a m e : Nat} (ho : Own enW 38 (A ++ (U ++ (V ++ S))) (.slice (some ⟨b, 0, none⟩) N c) Hs) (hLN : (A ++ (U ++ (V ++ S))).length = N) (hN : N ≤ 100000)
    (ha : a = A.length) (hm : m = A.length + U.length) (he : e = A.length + U.length + V.length) (hU : 0 < U.length) (hV : 0 < V.length)
    (hQ : ∀ w Hs', Own enW 38 (A ++ (V ++ (U ++ S))) (.slice (some ⟨b, 0, none⟩) N c) Hs' → Q w (Hs' ++ H)) :
    CallT (cx B0 old) (acall (cx B0 old) ansP (n + 2)) 80 [.slice (some ⟨b, 0, none⟩) N c, .int .i64 a, .int .i64 m, .int .i64 e, f] (Hs ++ H) Q := by
  refine call_in 58 rfl Try.func80 rfl rfl ?_
  simp only [List.length_append] at hLN
  repeat (refine ZX ?_; try with_reducible intro _)
  refine loop_ind (ι := List Rw × List Rw × List Rw × List Rw × Hp) (A, U, V, S, Hs) (fun i => i.2.1.length + i.2.2.1.length)
    (fun i => 0 < i.2.1.length ∧ 0 < i.2.2.1.length ∧ i.1.length + i.2.1.length = m ∧ (i.1 ++ (i.2.1 ++ (i.2.2.1 ++ i.2.2.2.1))).length = N ∧ i.1 ++ (i.2.2.1 ++ (i.2.1 ++ i.2.2.2.1)) = A ++ (V ++ (U ++ S)) ∧ Own enW 38 (i.1 ++ (i.2.1 ++ (i.2.2.1 ++ i.2.2.2.1))) (.slice (some ⟨b, 0, none⟩) N c) i.2.2.2.2)
    (fun i => [(10, .int .i64 (i.2.1.length : Int)), (11, .int .i64 (i.2.2.1.length : Int)), (0, .slice (some ⟨b, 0, none⟩) N c), (2, .int .i64 (m : Int)), (4, f)]) (fun i => i.2.2.2.2 ++ H) ⟨hU, hV, hm.symm, by simp only [List.length_append]; exact hLN, rfl, ho⟩ (by
      refine SubL.consI (q := (m : Int) - (a : Int)) rfl (by dsimp only; omega) ?_
      refine SubL.consI (q := (e : Int) - (m : Int)) rfl (by dsimp only; omega) ?_
      repeat (first | exact SubL.nil | refine SubL.cons rfl ?_)) (List.Sublist.refl _) ?_
  rintro ⟨A1, U1, V1, S1, G⟩ ⟨hU1, hV1, hm1, hl1, hg1, oJ⟩
  dsimp only at hU1 hV1 hm1 hl1 hg1 oJ ⊢
  simp only [List.length_append] at hl1
  repeat (refine ZX ?_; try with_reducible intro _)
  refine ct_condT te_ne rfl (fun hne => ?_) (fun hne => ?_)
  rotate_left
  · repeat (refine ZX ?_; try with_reducible intro _)
    have hs : (m : Int) - (U1.length : Int) = (A1.length : Int) := by omega
    rw [hs]
    refine rt_step rfl rfl rfl (st_call rfl rfl rfl rfl (swapR_ct (P := A1) (A := U1) (M := []) (B := V1) (S := S1) oJ (by simp only [List.length_append, List.length_nil]; omega) hN rfl rfl (by omega) (by simp only [List.length_nil]; omega) fun w G2 o2 => ?_))
    repeat (refine ZX ?_; try with_reducible intro _)
    rw [List.nil_append, hg1] at o2
    exact re_0 rfl (List.Sublist.refl _) (fun w => hQ w G2 o2)
  repeat (refine ZX ?_; try with_reducible intro _)
  refine ct_condT te_d rfl (fun hgt => ?_) (fun hgt => ?_)
  · repeat (refine ZX ?_; try with_reducible intro _)
    have hs : (m : Int) - (U1.length : Int) = (A1.length : Int) := by omega
    rw [hs]
    have hsp := List.take_append_drop V1.length U1
    have ht : (U1.take V1.length).length = V1.length := by rw [List.length_take]; omega
    have hd : (U1.drop V1.length).length = U1.length - V1.length := by rw [List.length_drop]
    generalize U1.take V1.length = X1 at *
    generalize U1.drop V1.length = X2 at *
    subst hsp
    simp only [List.length_append] at *
    refine rt_step rfl rfl rfl (st_call rfl rfl rfl rfl (swapR_ct (P := A1) (A := X1) (M := X2) (B := V1) (S := S1) (by simpa using oJ) (by simp only [List.length_append]; omega) hN rfl ht rfl (by omega) fun w G2 o2 => ?_))
    repeat (refine ZX ?_; try with_reducible intro _)
    exact ⟨(A1 ++ V1, X2, X1, S1, G2), ⟨by dsimp only; omega, by dsimp only; omega, by simp only [List.length_append]; omega, by simp only [List.length_append]; omega, by rw [← hg1]; simp, by simpa using o2⟩, by dsimp only; omega, by
      refine SubL.consI (q := ((X1.length + X2.length : Nat) : Int) - (V1.length : Int)) rfl (by dsimp only; omega) ?_
      refine SubL.consI (q := (V1.length : Int)) rfl (by dsimp only; omega) ?_
      repeat (first | exact SubL.nil | refine SubL.cons rfl ?_), List.Sublist.refl _⟩
  · repeat (refine ZX ?_; try with_reducible intro _)
    have hs : (m : Int) - (U1.length : Int) = (A1.length : Int) := by omega
    rw [hs]
    have hsp := List.take_append_drop (V1.length - U1.length) V1
    have ht : (V1.take (V1.length - U1.length)).length = V1.length - U1.length := by rw [List.length_take]; omega
    have hd : (V1.drop (V1.length - U1.length)).length = U1.length := by rw [List.length_drop]; omega
    generalize V1.take (V1.length - U1.length) = X1 at *
    generalize V1.drop (V1.length - U1.length) = X2 at *
    subst hsp
    simp only [List.length_append] at *
    have hs2 : (m : Int) + ((X1.length + X2.length : Nat) : Int) - (U1.length : Int) = ((A1.length + U1.length + X1.length : Nat) : Int) := by omega
    rw [hs2]
    refine rt_step rfl rfl rfl (st_call rfl rfl rfl rfl (swapR_ct (P := A1) (A := U1) (M := X1) (B := X2) (S := S1) (by simpa using oJ) (by simp only [List.length_append]; omega) hN rfl rfl hd rfl fun w G2 o2 => ?_))
    repeat (refine ZX ?_; try with_reducible intro _)
    exact ⟨(A1, X2, X1, U1 ++ S1, G2), ⟨by dsimp only; omega, by dsimp only; omega, by dsimp only; omega, by simp only [List.length_append]; omega, by rw [← hg1]; simp, by simpa using o2⟩, by dsimp only; omega, by
      refine SubL.consI (q := (U1.length : Int)) rfl (by dsimp only; omega) ?_
      refine SubL.consI (q := ((X1.length + X2.length : Nat) : Int) - (U1.length : Int)) rfl (by dsimp only; omega) ?_
      repeat (first | exact SubL.nil | refine SubL.cons rfl ?_), List.Sublist.refl _⟩
theorem ins70_ct {A X S : List Rw} {a e : Nat} (hc : CmpT (cx B0 old) enW r Pr f) (ho : Own enW 38 (A ++ (X ++ S)) (.slice (some ⟨b, 0, none⟩) N c) Hs) (hp : ∀ x ∈ X, Pr x) (hLN : (A ++ (X ++ S)).length = N) (hN : N ≤ 100000) (ha : a = A.length) (he : e = A.length + X.length)
    (hQ : ∀ w X' Hs', Own enW 38 (A ++ (X' ++ S)) (.slice (some ⟨b, 0, none⟩) N c) Hs' → Stb r X X' → Asc r X' → Q w (Hs' ++ H)) :
    CallT (cx B0 old) (acall (cx B0 old) ansP (n + 11)) 70 [.slice (some ⟨b, 0, none⟩) N c, .int .i64 a, .int .i64 e, f] (Hs ++ H) Q := by
  obtain ⟨g, first, cap, rfl, hcal, hcmp⟩ := hc
  refine call_in4 53 rfl Try.func70 rfl rfl ?_
  simp only [List.length_append] at hLN
  repeat (refine ZX ?_; try with_reducible intro _)
  refine loop_ind (ι := Nat × List Rw × Hp) (1, X.take 1, Hs) (fun i => X.length + 1 - i.1) (fun i => 1 ≤ i.1 ∧ i.1 ≤ max X.length 1 ∧ Stb r (X.take i.1) i.2.1 ∧ Asc r i.2.1 ∧ Own enW 38 (A ++ (i.2.1 ++ (X.drop i.1 ++ S))) (.slice (some ⟨b, 0, none⟩) N c) i.2.2)
    (fun i => [(8, .int .i64 ((a + i.1 : Nat) : Int)), (0, .slice (some ⟨b, 0, none⟩) N c), (1, .int .i64 (a : Int)), (2, .int .i64 (e : Int)), (3, .func (.func g) first cap)]) (fun i => i.2.2 ++ H)
    ⟨Nat.le_refl _, by omega, Stb.refl _, by
      cases X with
      | nil => exact List.Pairwise.nil
      | cons x X => exact List.pairwise_singleton _ _, by rw [← List.append_assoc (X.take 1), List.take_append_drop]; exact ho⟩ (by
      refine SubL.consI (q := (a : Int) + 1) rfl (by dsimp only; omega) ?_
      repeat (first | exact SubL.nil | refine SubL.cons rfl ?_)) (List.Sublist.refl _) ?_
  rintro ⟨k, Y, G⟩ ⟨hk1, hkx, hst, has, oJ⟩
  dsimp only at hk1 hkx hst has oJ ⊢
  repeat (refine ZX ?_; try with_reducible intro _)
  refine ct_condT te_d rfl (fun hlt => ?_) (fun hlt => ?_)
  rotate_left
  · repeat (refine ZX ?_; try with_reducible intro _)
    have hXk : X.length ≤ k := by omega
    rw [List.take_of_length_le hXk] at hst
    rw [List.drop_of_length_le hXk, List.nil_append] at oJ
    exact re_0 rfl (List.Sublist.refl _) (fun w => hQ w Y G oJ hst has)
  have hkl : k < X.length := by omega
  obtain ⟨x, hx⟩ : ∃ x, X[k]? = some x := ⟨_, List.getElem?_eq_getElem hkl⟩
  have hdx : X.drop k = x :: X.drop (k + 1) := by
    obtain ⟨h1, e1⟩ := List.getElem?_eq_some_iff.1 hx
    rw [List.drop_eq_getElem_cons h1, e1]
  have htx : X.take (k + 1) = X.take k ++ [x] := by rw [List.take_add_one, hx]; rfl
  have hYl : Y.length = k := by rw [hst.length, List.length_take]; omega
  rw [hdx] at oJ
  repeat (refine ZX ?_; try with_reducible intro _)
  refine loop_ind (ι := List Rw × List Rw × Hp) (Y, [], G) (fun j => j.1.length) (fun j => j.1.length ≤ k ∧ InsS r Y x j.1 j.2.1 ∧ j.1.length + j.2.1.length = k ∧ Own enW 38 (A ++ (j.1 ++ x :: (j.2.1 ++ (X.drop (k + 1) ++ S)))) (.slice (some ⟨b, 0, none⟩) N c) j.2.2)
    (fun j => [(9, .int .i64 ((a + j.1.length : Nat) : Int)), (8, .int .i64 ((a + k : Nat) : Int)), (0, .slice (some ⟨b, 0, none⟩) N c), (1, .int .i64 (a : Int)), (2, .int .i64 (e : Int)), (3, .func (.func g) first cap)]) (fun j => j.2.2 ++ H) ⟨by dsimp only; omega, InsS.start has, by simp [hYl], by simpa using oJ⟩ (by
      refine SubL.consI (q := ((a + k : Nat) : Int)) rfl (by dsimp only; omega) ?_
      repeat (first | exact SubL.nil | refine SubL.cons rfl ?_)) (List.Sublist.refl _) ?_
  rintro ⟨P1, P2, G2⟩ ⟨hj1, hI, hj2, oM⟩
  dsimp only at hj1 hI hj2 oM ⊢
  clear oJ
  repeat (refine ZX ?_; try with_reducible intro _)
  refine ct_draw (masks := [0, 0, 3, 7, 15, 15, 15, 111, 239, 15, 15, 1039, 3599, 7695, 16383, 32767, 65535]) (plan := [0, 1, 2, 3, 4, 5, 6, 7, 8, 9, 10, 11, 12, 13, 14, 15, 16]) (E := []) (by kernel_rfl) (by kernel_rfl) (by kernel_rfl) (by kernel_rfl) ?_
  repeat (refine YX ?_)
  refine isPlan ?_
  refine z3 (fun hja => ?_) (fun hja => ?_)
  rotate_left
  · repeat (refine YX ?_)
    repeat (refine ZX ?_; try with_reducible intro _)
    obtain rfl : P1 = [] := List.eq_nil_of_length_eq_zero (by omega)
    obtain ⟨d1, d2⟩ := hI.done (fun z hz => (by cases hz))
    exact ⟨(k + 1, [] ++ x :: P2, G2), ⟨by omega, by omega, by rw [htx]; exact (hst.app (Stb.refl [x])).trans d2, d1, by simpa using oM⟩, by dsimp only; omega, by
      refine SubL.consI (q := ((a + k : Nat) : Int) + 1) rfl (by dsimp only; omega) ?_
      repeat (first | exact SubL.nil | refine SubL.cons rfl ?_), List.Sublist.refl _⟩
  rcases List.eq_nil_or_concat P1 with rfl | ⟨P0, z, rfl⟩
  · exact absurd hja (by simp)
  rw [List.concat_eq_append] at *
  rw [List.length_append, List.length_singleton] at *
  obtain ⟨x', hx', mx, hL0⟩ := oM.ldE (C := cx B0 old) (et := 40) enW_len rfl (sz rfl) (i := a + (P0.length + 1)) (by omega) H
  obtain ⟨y', hy', my, hL1⟩ := oM.ldE (C := cx B0 old) (et := 40) enW_len rfl (sz rfl) (i := (((a + (P0.length + 1) : Nat) : Int) - 1).toNat) (by omega) H
  have eL : A ++ (P0 ++ [z] ++ x :: (P2 ++ (X.drop (k + 1) ++ S))) = (A ++ P0) ++ z :: x :: (P2 ++ (X.drop (k + 1) ++ S)) := by simp
  have ex : x' = x := by
    have h2 : (A ++ (P0 ++ [z] ++ x :: (P2 ++ (X.drop (k + 1) ++ S))))[a + (P0.length + 1)]? = some x := by
      rw [show A ++ (P0 ++ [z] ++ x :: (P2 ++ (X.drop (k + 1) ++ S))) = (A ++ P0 ++ [z]) ++ x :: (P2 ++ (X.drop (k + 1) ++ S)) by simp]
      exact get_mid' (by simp; omega)
    exact Option.some.inj (hx'.symm.trans h2)
  have ez : y' = z := by
    have h2 : (A ++ (P0 ++ [z] ++ x :: (P2 ++ (X.drop (k + 1) ++ S))))[(((a + (P0.length + 1) : Nat) : Int) - 1).toNat]? = some z := by
      rw [eL]
      exact get_mid' (by simp; omega)
    exact Option.some.inj (hy'.symm.trans h2)
  subst ex; subst ez
  have px : Pr x' := hp _ (List.mem_of_getElem? hx)
  have pz : Pr y' := by
    have : y' ∈ Y ++ [x'] := hI.stb.mem.1 (by simp)
    rcases List.mem_append.1 this with h | h
    · exact hp _ (List.mem_of_mem_take (hst.mem.1 h))
    · rw [List.mem_singleton.1 h]; exact px
  repeat (refine YX ?_)
  refine pl_S rfl rfl rfl rfl rfl rfl (st_call rfl rfl hcal rfl (hcmp _ x' y' _ _ px pz fun q hz => ⟨by exact rec_auto, ?_⟩))
  repeat (refine YX ?_)
  repeat (refine ZX ?_; try with_reducible intro _)
  refine ct_condT te_d rfl (fun hlt2 => ?_) (fun hlt2 => ?_)
  rotate_left
  · repeat (refine ZX ?_; try with_reducible intro _)
    obtain ⟨d1, d2⟩ := hI.done (fun z hz' => by
      have : y' = z := by simpa using hz'
      subst this
      exact Int.not_lt.1 fun h => hlt2 (hz.2 h))
    exact ⟨(k + 1, P0 ++ [y'] ++ x' :: P2, G2), ⟨by omega, by omega, by rw [htx]; exact (hst.app (Stb.refl [x'])).trans d2, d1, by simpa using oM⟩, by dsimp only; omega, by
      refine SubL.consI (q := ((a + k : Nat) : Int) + 1) rfl (by dsimp only; omega) ?_
      repeat (first | exact SubL.nil | refine SubL.cons rfl ?_), List.Sublist.refl _⟩
  obtain ⟨H1, H2, o2, s1, s2⟩ := oM.swp (C := cx B0 old) (et := 40) enW_len enW_one (sz rfl) hx' hy'
  rw [eL, sw_adj (by rw [List.length_append]; omega) (by rw [List.length_append]; omega)] at o2
  repeat (refine ZX ?_; try with_reducible intro _)
  refine ct_draw (masks := [0, 0, 0, 0, 8, 0, 0, 64, 224, 480, 0, 0, 3072, 7168, 16355, 32739, 65535, 131071]) (plan := [0, 1, 2, 3, 4, 5, 6, 7, 8, 9, 10, 11, 12, 13, 14, 15, 16, 17]) (E := []) (by kernel_rfl) (by kernel_rfl) (by kernel_rfl) (by kernel_rfl) ?_
  repeat (refine YX ?_)
  apply pl_st rfl rfl rfl rfl rfl rfl rfl rfl
  case hp => exact s1 [] H
  case hr => exact rec_auto
  repeat (refine YX ?_)
  apply pl_st rfl rfl rfl rfl rfl rfl rfl rfl
  case hp => exact s2 [] H
  case hr => exact rec_auto
  repeat (refine YX ?_)
  repeat (refine ZX ?_; try with_reducible intro _)
  exact ⟨(P0, y' :: P2, H2), ⟨by dsimp only; omega, hI.step (hz.1 hlt2), by simp only [List.length_cons]; omega, by simpa using o2⟩, by dsimp only; omega, by
    refine SubL.consI (q := ((a + (P0.length + 1) : Nat) : Int) - 1) rfl (by dsimp only; omega) ?_
    repeat (first | exact SubL.nil | refine SubL.cons rfl ?_), List.Sublist.refl _⟩
end
end Go.Proofs.Ythcohphflhkceaa.Abs

/- The library's stable sort: symMerge. -/
namespace Go.Proofs.Ythcohphflhkceaa.Abs
open Go
set_option linter.unusedVariables false
theorem CallT.fuel {C : Ctx} {n m g : Nat} {args : List Value} {H : Hp} {Q : Value → Hp → Prop} (h : CallT C (acall C ansP n) g args H Q) (e : n = m) : CallT C (acall C ansP m) g args H Q := e ▸ h
theorem at_X {α : Type} {A X T : List α} {i k : Nat} (h : i < X.length) (hk : k = A.length + i) : (A ++ (X ++ T))[k]? = X[i]? := by
  rw [hk, List.getElem?_append_right (by omega), List.getElem?_append_left (by omega)]
  congr 1; omega
theorem at_Y {α : Type} {A X Y S : List α} {i k : Nat} (h : i < Y.length) (hk : k = A.length + X.length + i) : (A ++ (X ++ (Y ++ S)))[k]? = Y[i]? := by
  rw [hk, List.getElem?_append_right (by omega), List.getElem?_append_right (by omega), List.getElem?_append_left (by omega)]
  congr 1; omega
theorem half {i j : Nat} (h : i + j ≤ 1000000) : IntKind.i64.wrap ((IntKind.u64.wrap ((i : Int) + (j : Int))).fdiv (2 ^ (min (1 : Int).toNat IntKind.u64.bits))) = (((i + j) / 2 : Nat) : Int) := by
  have e : IntKind.u64.wrap ((i : Int) + (j : Int)) = (i : Int) + (j : Int) := by
    have e : IntKind.u64.wrap ((i : Int) + (j : Int)) = ((i : Int) + (j : Int)) % 18446744073709551616 := by simp [IntKind.wrap, IntKind.bits, IntKind.signed]
    omega
  rw [e, show min (1 : Int).toNat IntKind.u64.bits = 1 from rfl, show ((2 : Int) ^ 1) = 2 from rfl, Int.fdiv_eq_ediv_of_nonneg _ (by decide), IntWalk.i64_in _ (by omega)]
  omega
section
variable {B0 : Nat} {old : Nat → Option (List Value)} {b c N : Nat} {f : Value} {r : Rw → Int} {Pr : Rw → Prop}
set_option maxRecDepth 10000
set_option maxHeartbeats 16000000
theorem sym71a_ct {n : Nat} {A Y S : List Rw} {x : Rw} {a m e : Nat} {H Hs : Hp} {Q : Value → Hp → Prop} (hc : CmpT (cx B0 old) enW r Pr f) (hN : N ≤ 100000)
    (ho : Own enW 38 (A ++ ([x] ++ (Y ++ S))) (.slice (some ⟨b, 0, none⟩) N c) Hs) (hp : ∀ z ∈ [x] ++ Y, Pr z) (hLN : (A ++ ([x] ++ (Y ++ S))).length = N) (ha : a = A.length) (hm : m = A.length + 1) (he : e = A.length + 1 + Y.length) (hY : Asc r Y)
    (hQ : ∀ w Z Hs', Own enW 38 (A ++ (Z ++ S)) (.slice (some ⟨b, 0, none⟩) N c) Hs' → Stb r ([x] ++ Y) Z → Asc r Z → Q w (Hs' ++ H)) :
    CallT (cx B0 old) (acall (cx B0 old) ansP (n + 11)) 71 [.slice (some ⟨b, 0, none⟩) N c, .int .i64 a, .int .i64 m, .int .i64 e, f] (Hs ++ H) Q := by
  obtain ⟨g, first, cap, rfl, hcal, hcmp⟩ := hc
  refine call_in 220 rfl Try.func71 rfl rfl ?_
  simp only [List.length_append, List.length_singleton] at hLN
  repeat (refine ZX ?_; try with_reducible intro _)
  refine ct_condT te_e rfl (fun h1 => ?_) (fun h1 => absurd h1 (by omega))
  repeat (refine ZX ?_; try with_reducible intro _)
  refine loop_ind (ι := Nat × Nat) (0, Y.length) (fun i => i.2 - i.1) (fun i => i.1 ≤ i.2 ∧ i.2 ≤ Y.length ∧ (∀ y, 0 < i.1 → Y[i.1 - 1]? = some y → r y < r x) ∧ (∀ y, Y[i.2]? = some y → r x ≤ r y))
    (fun i => [(10, .int .i64 ((m + i.1 : Nat) : Int)), (11, .int .i64 ((m + i.2 : Nat) : Int)), (0, .slice (some ⟨b, 0, none⟩) N c), (1, .int .i64 (a : Int)), (4, .func (.func g) first cap)]) (fun _ => Hs ++ H)
    ⟨Nat.zero_le _, Nat.le_refl _, fun y h => absurd h (Nat.lt_irrefl _), fun y h => by rw [List.getElem?_eq_none (Nat.le_refl _)] at h; cases h⟩ (by
      refine SubL.consI (q := (m : Int)) rfl (by dsimp only; omega) ?_
      refine SubL.consI (q := (e : Int)) rfl (by dsimp only; omega) ?_
      repeat (first | exact SubL.nil | refine SubL.cons rfl ?_)) (List.Sublist.refl _) ?_
  rintro ⟨s, t⟩ ⟨hst, htl, hlo, hhi⟩
  dsimp only at hst htl hlo hhi ⊢
  repeat (refine ZX ?_; try with_reducible intro _)
  refine ct_condT te_d rfl (fun hlt => ?_) (fun hlt => ?_)
  · -- one step of the search
    repeat (refine ZX ?_; try with_reducible intro _)
    rw [half (by omega)]
    obtain ⟨q, hq, hq1, hq2⟩ : ∃ q, (m + s + (m + t)) / 2 = m + q ∧ s ≤ q ∧ q < t := ⟨(m + s + (m + t)) / 2 - m, by omega, by omega, by omega⟩
    rw [hq]
    obtain ⟨y, hy, my, hL0⟩ := ho.ldE (C := cx B0 old) (et := 40) enW_len rfl (sz rfl) (i := m + q) (by omega) H
    obtain ⟨x', hx, mx, hL1⟩ := ho.ldE (C := cx B0 old) (et := 40) enW_len rfl (sz rfl) (i := a) (by omega) H
    rw [at_Y (i := q) (by omega) (by simp only [List.length_singleton]; omega)] at hy
    rw [at_X (i := 0) (by simp) (by omega)] at hx
    obtain rfl : x = x' := Option.some.inj hx
    repeat (refine ZX ?_; try with_reducible intro _)
    refine ct_draw (masks := [0, 0, 0, 6, 14, 0, 0, 96, 224, 511, 1023]) (plan := [0, 1, 2, 3, 4, 5, 6, 7, 8, 9, 10]) (E := []) (by kernel_rfl) (by kernel_rfl) (by kernel_rfl) (by kernel_rfl) ?_
    repeat (refine YX ?_)
    refine pl_S rfl rfl rfl rfl rfl rfl (st_call rfl rfl hcal rfl (hcmp _ y x _ _ (hp _ (List.mem_append_right _ (List.mem_of_getElem? hy))) (hp _ (List.mem_append_left _ (List.mem_singleton.2 rfl))) fun z hz => ⟨by exact rec_auto, ?_⟩))
    repeat (refine YX ?_)
    repeat (refine ZX ?_; try with_reducible intro _)
    refine ct_condT te_d rfl (fun hlt2 => ?_) (fun hlt2 => ?_)
    · repeat (refine ZX ?_; try with_reducible intro _)
      exact ⟨(q + 1, t), ⟨by dsimp only; omega, htl, fun y' _ hy' => by
        rw [Nat.add_sub_cancel] at hy'
        rw [hy] at hy'; cases hy'; exact hz.1 hlt2, hhi⟩, by dsimp only; omega, by
        refine SubL.consI (q := ((m + q : Nat) : Int) + 1) rfl (by dsimp only; omega) ?_
        repeat (first | exact SubL.nil | refine SubL.cons rfl ?_), List.Sublist.refl _⟩
    · repeat (refine ZX ?_; try with_reducible intro _)
      exact ⟨(s, q), ⟨by dsimp only; omega, by dsimp only; omega, hlo, fun y' hy' => by
        dsimp only at hy'
        rw [hy] at hy'; cases hy'; exact Int.not_lt.1 fun h => hlt2 (hz.2 h)⟩, by dsimp only; omega, by repeat (first | exact SubL.nil | refine SubL.cons rfl ?_), List.Sublist.refl _⟩
  obtain rfl : s = t := by omega
  obtain ⟨g1, g2⟩ := merge_left hY htl hlo hhi
  repeat (refine ZX ?_; try with_reducible intro _)
  refine loop_ind (ι := Nat × Hp) (0, Hs) (fun i => s - i.1) (fun i => i.1 ≤ s ∧ Own enW 38 (A ++ (Y.take i.1 ++ x :: (Y.drop i.1 ++ S))) (.slice (some ⟨b, 0, none⟩) N c) i.2)
    (fun i => [(13, .int .i64 ((a + i.1 : Nat) : Int)), (10, .int .i64 ((m + s : Nat) : Int)), (0, .slice (some ⟨b, 0, none⟩) N c)]) (fun i => i.2 ++ H) ⟨Nat.zero_le _, ho⟩ (by repeat (first | exact SubL.nil | refine SubL.cons rfl ?_)) (List.Sublist.refl _) ?_
  rintro ⟨k, G⟩ ⟨hk, oJ⟩
  dsimp only at hk oJ ⊢
  repeat (refine ZX ?_; try with_reducible intro _)
  refine ct_condT te_d rfl (fun hlt => ?_) (fun hlt => ?_)
  rotate_left
  · repeat (refine ZX ?_; try with_reducible intro _)
    obtain rfl : k = s := by omega
    exact re_0r rfl (List.Sublist.refl _) (fun w => hQ w _ G (by simpa using oJ) g1 g2)
  obtain ⟨y, hy⟩ : ∃ y, Y[k]? = some y := ⟨_, List.getElem?_eq_getElem (by omega)⟩
  have hdy : Y.drop k = y :: Y.drop (k + 1) := by
    obtain ⟨h1, e1⟩ := List.getElem?_eq_some_iff.1 hy
    rw [List.drop_eq_getElem_cons h1, e1]
  have hty : Y.take (k + 1) = Y.take k ++ [y] := by rw [List.take_add_one, hy]; rfl
  have htl2 : (Y.take k).length = k := by rw [List.length_take]; omega
  have eL : A ++ (Y.take k ++ x :: (Y.drop k ++ S)) = (A ++ Y.take k) ++ x :: ([] ++ y :: (Y.drop (k + 1) ++ S)) := by rw [hdy]; simp
  obtain ⟨xa, hx1, mx1, hL0⟩ := oJ.ldE (C := cx B0 old) (et := 40) enW_len rfl (sz rfl) (i := a + k) (by omega) H
  obtain ⟨ya, hy1, my1, hL1⟩ := oJ.ldE (C := cx B0 old) (et := 40) enW_len rfl (sz rfl) (i := a + k + 1) (by omega) H
  obtain ⟨H1, H2, o2, s1, s2⟩ := oJ.swp (C := cx B0 old) (et := 40) enW_len enW_one (sz rfl) hx1 hy1
  rw [eL, sw_parts (by rw [List.length_append]; omega) (by rw [List.length_append, List.length_nil]; omega)] at o2
  repeat (refine ZX ?_; try with_reducible intro _)
  refine ct_draw (masks := [0, 0, 0, 0, 8, 0, 0, 64, 224, 480, 0, 0, 3072, 7168, 16355, 32739, 65535, 131071]) (plan := [0, 1, 2, 3, 4, 5, 6, 7, 8, 9, 10, 11, 12, 13, 14, 15, 16, 17]) (E := []) (by kernel_rfl) (by kernel_rfl) (by kernel_rfl) (by kernel_rfl) ?_
  repeat (refine YX ?_)
  apply pl_st rfl rfl rfl rfl rfl rfl rfl rfl
  case hp => exact s1 [] H
  case hr => exact rec_auto
  repeat (refine YX ?_)
  apply pl_st rfl rfl rfl rfl rfl rfl rfl rfl
  case hp => exact s2 [] H
  case hr => exact rec_auto
  repeat (refine YX ?_)
  repeat (refine ZX ?_; try with_reducible intro _)
  exact ⟨(k + 1, H2), ⟨by dsimp only; omega, by dsimp only; rw [hty]; simpa using o2⟩, by dsimp only; omega, by
    refine SubL.consI (q := ((a + k : Nat) : Int) + 1) rfl (by dsimp only; omega) ?_
    repeat (first | exact SubL.nil | refine SubL.cons rfl ?_), List.Sublist.refl _⟩
theorem sym71b_ct {n : Nat} {A X S : List Rw} {y : Rw} {a m e : Nat} {H Hs : Hp} {Q : Value → Hp → Prop} (hc : CmpT (cx B0 old) enW r Pr f) (hN : N ≤ 100000) (hx2 : X.length ≠ 1)
    (ho : Own enW 38 (A ++ (X ++ ([y] ++ S))) (.slice (some ⟨b, 0, none⟩) N c) Hs) (hp : ∀ z ∈ X ++ [y], Pr z) (hLN : (A ++ (X ++ ([y] ++ S))).length = N) (ha : a = A.length) (hm : m = A.length + X.length) (he : e = A.length + X.length + 1) (hX : Asc r X)
    (hQ : ∀ w Z Hs', Own enW 38 (A ++ (Z ++ S)) (.slice (some ⟨b, 0, none⟩) N c) Hs' → Stb r (X ++ [y]) Z → Asc r Z → Q w (Hs' ++ H)) :
    CallT (cx B0 old) (acall (cx B0 old) ansP (n + 11)) 71 [.slice (some ⟨b, 0, none⟩) N c, .int .i64 a, .int .i64 m, .int .i64 e, f] (Hs ++ H) Q := by
  obtain ⟨g, first, cap, rfl, hcal, hcmp⟩ := hc
  refine call_in 220 rfl Try.func71 rfl rfl ?_
  simp only [List.length_append, List.length_singleton] at hLN
  repeat (refine ZX ?_; try with_reducible intro _)
  refine ct_condT te_e rfl (fun h1 => absurd h1 (by omega)) (fun h1 => ?_)
  repeat (refine ZX ?_; try with_reducible intro _)
  refine ct_condT te_e rfl (fun h1 => ?_) (fun h1 => absurd h1 (by omega))
  repeat (refine ZX ?_; try with_reducible intro _)
  refine loop_ind (ι := Nat × Nat) (0, X.length) (fun i => i.2 - i.1) (fun i => i.1 ≤ i.2 ∧ i.2 ≤ X.length ∧ (∀ x, 0 < i.1 → X[i.1 - 1]? = some x → r x ≤ r y) ∧ (∀ x, X[i.2]? = some x → r y < r x))
    (fun i => [(14, .int .i64 ((a + i.1 : Nat) : Int)), (15, .int .i64 ((a + i.2 : Nat) : Int)), (0, .slice (some ⟨b, 0, none⟩) N c), (2, .int .i64 (m : Int)), (4, .func (.func g) first cap)]) (fun _ => Hs ++ H)
    ⟨Nat.zero_le _, Nat.le_refl _, fun y h => absurd h (Nat.lt_irrefl _), fun y h => by rw [List.getElem?_eq_none (Nat.le_refl _)] at h; cases h⟩ (by
      refine SubL.consI (q := (a : Int)) rfl (by dsimp only; omega) ?_
      refine SubL.consI (q := (m : Int)) rfl (by dsimp only; omega) ?_
      repeat (first | exact SubL.nil | refine SubL.cons rfl ?_)) (List.Sublist.refl _) ?_
  rintro ⟨s, t⟩ ⟨hst, htl, hlo, hhi⟩
  dsimp only at hst htl hlo hhi ⊢
  repeat (refine ZX ?_; try with_reducible intro _)
  refine ct_condT te_d rfl (fun hlt => ?_) (fun hlt => ?_)
  · -- one step of the search
    repeat (refine ZX ?_; try with_reducible intro _)
    rw [half (by omega)]
    obtain ⟨q, hq, hq1, hq2⟩ : ∃ q, (a + s + (a + t)) / 2 = a + q ∧ s ≤ q ∧ q < t := ⟨(a + s + (a + t)) / 2 - a, by omega, by omega, by omega⟩
    rw [hq]
    obtain ⟨y', hy, my, hL0⟩ := ho.ldE (C := cx B0 old) (et := 40) enW_len rfl (sz rfl) (i := m) (by omega) H
    obtain ⟨x, hx, mx, hL1⟩ := ho.ldE (C := cx B0 old) (et := 40) enW_len rfl (sz rfl) (i := a + q) (by omega) H
    rw [at_Y (i := 0) (by simp) (by omega)] at hy
    rw [at_X (i := q) (by omega) (by omega)] at hx
    obtain rfl : y = y' := Option.some.inj hy
    repeat (refine ZX ?_; try with_reducible intro _)
    refine ct_draw (masks := [0, 0, 0, 6, 14, 0, 0, 96, 224, 511, 1023, 2047]) (plan := [0, 1, 2, 3, 4, 5, 6, 7, 8, 9, 10, 11]) (E := []) (by kernel_rfl) (by kernel_rfl) (by kernel_rfl) (by kernel_rfl) ?_
    repeat (refine YX ?_)
    refine pl_S rfl rfl rfl rfl rfl rfl (st_call rfl rfl hcal rfl (hcmp _ y x _ _ (hp _ (List.mem_append_right _ (List.mem_singleton.2 rfl))) (hp _ (List.mem_append_left _ (List.mem_of_getElem? hx))) fun z hz => ⟨by exact rec_auto, ?_⟩))
    repeat (refine YX ?_)
    repeat (refine ZX ?_; try with_reducible intro _)
    refine ct_condT (te_n te_d) rfl (fun hlt2 => ?_) (fun hlt2 => ?_)
    · repeat (refine ZX ?_; try with_reducible intro _)
      exact ⟨(q + 1, t), ⟨by dsimp only; omega, htl, fun y' _ hy' => by
        rw [Nat.add_sub_cancel] at hy'
        rw [hx] at hy'; cases hy'; exact Int.not_lt.1 fun h => hlt2 (hz.2 h), hhi⟩, by dsimp only; omega, by
        refine SubL.consI (q := ((a + q : Nat) : Int) + 1) rfl (by dsimp only; omega) ?_
        repeat (first | exact SubL.nil | refine SubL.cons rfl ?_), List.Sublist.refl _⟩
    · repeat (refine ZX ?_; try with_reducible intro _)
      exact ⟨(s, q), ⟨by dsimp only; omega, by dsimp only; omega, hlo, fun y' hy' => by
        dsimp only at hy'
        rw [hx] at hy'; cases hy'; exact hz.1 hlt2⟩, by dsimp only; omega, by repeat (first | exact SubL.nil | refine SubL.cons rfl ?_), List.Sublist.refl _⟩
  obtain rfl : s = t := by omega
  obtain ⟨g1, g2⟩ := merge_right hX htl hlo hhi
  repeat (refine ZX ?_; try with_reducible intro _)
  refine loop_ind (ι := Nat × Hp) (X.length, Hs) (fun i => i.1) (fun i => s ≤ i.1 ∧ i.1 ≤ X.length ∧ Own enW 38 (A ++ (X.take i.1 ++ y :: (X.drop i.1 ++ S))) (.slice (some ⟨b, 0, none⟩) N c) i.2)
    (fun i => [(17, .int .i64 ((a + i.1 : Nat) : Int)), (14, .int .i64 ((a + s : Nat) : Int)), (0, .slice (some ⟨b, 0, none⟩) N c)]) (fun i => i.2 ++ H) ⟨htl, Nat.le_refl _, by dsimp only; rw [List.take_length, List.drop_length]; exact ho⟩ (by
      refine SubL.consI (q := (m : Int)) rfl (by dsimp only; omega) ?_
      repeat (first | exact SubL.nil | refine SubL.cons rfl ?_)) (List.Sublist.refl _) ?_
  rintro ⟨k, G⟩ ⟨hk, hkl, oJ⟩
  dsimp only at hk hkl oJ ⊢
  repeat (refine ZX ?_; try with_reducible intro _)
  refine ct_condT te_d rfl (fun hlt => ?_) (fun hlt => ?_)
  rotate_left
  · repeat (refine ZX ?_; try with_reducible intro _)
    obtain rfl : k = s := by omega
    exact re_0r rfl (List.Sublist.refl _) (fun w => hQ w _ G (by simpa using oJ) g1 g2)
  obtain ⟨k, rfl⟩ : ∃ k', k = k' + 1 := ⟨k - 1, by omega⟩
  obtain ⟨x, hx⟩ : ∃ x, X[k]? = some x := ⟨_, List.getElem?_eq_getElem (by omega)⟩
  have hdx : X.drop k = x :: X.drop (k + 1) := by
    obtain ⟨h1, e1⟩ := List.getElem?_eq_some_iff.1 hx
    rw [List.drop_eq_getElem_cons h1, e1]
  have htx : X.take (k + 1) = X.take k ++ [x] := by rw [List.take_add_one, hx]; rfl
  have htl2 : (X.take k).length = k := by rw [List.length_take]; omega
  have eL : A ++ (X.take (k + 1) ++ y :: (X.drop (k + 1) ++ S)) = (A ++ X.take k) ++ x :: y :: (X.drop (k + 1) ++ S) := by rw [htx]; simp
  obtain ⟨xa, hx1, mx1, hL0⟩ := oJ.ldE (C := cx B0 old) (et := 40) enW_len rfl (sz rfl) (i := a + (k + 1)) (by omega) H
  obtain ⟨ya, hy1, my1, hL1⟩ := oJ.ldE (C := cx B0 old) (et := 40) enW_len rfl (sz rfl) (i := (((a + (k + 1) : Nat) : Int) - 1).toNat) (by omega) H
  obtain ⟨H1, H2, o2, s1, s2⟩ := oJ.swp (C := cx B0 old) (et := 40) enW_len enW_one (sz rfl) hx1 hy1
  rw [eL, sw_adj (by rw [List.length_append]; omega) (by rw [List.length_append]; omega)] at o2
  repeat (refine ZX ?_; try with_reducible intro _)
  refine ct_draw (masks := [0, 0, 0, 0, 8, 0, 0, 64, 224, 480, 0, 0, 3072, 7168, 16355, 32739, 65535, 131071]) (plan := [0, 1, 2, 3, 4, 5, 6, 7, 8, 9, 10, 11, 12, 13, 14, 15, 16, 17]) (E := []) (by kernel_rfl) (by kernel_rfl) (by kernel_rfl) (by kernel_rfl) ?_
  repeat (refine YX ?_)
  apply pl_st rfl rfl rfl rfl rfl rfl rfl rfl
  case hp => exact s1 [] H
  case hr => exact rec_auto
  repeat (refine YX ?_)
  apply pl_st rfl rfl rfl rfl rfl rfl rfl rfl
  case hp => exact s2 [] H
  case hr => exact rec_auto
  repeat (refine YX ?_)
  repeat (refine ZX ?_; try with_reducible intro _)
  exact ⟨(k, H2), ⟨by dsimp only; omega, by dsimp only; omega, by dsimp only; rw [hdx]; simpa using o2⟩, by dsimp only; omega, by
    refine SubL.consI (q := ((a + (k + 1) : Nat) : Int) - 1) rfl (by dsimp only; omega) ?_
    repeat (first | exact SubL.nil | refine SubL.cons rfl ?_), List.Sublist.refl _⟩
end
end Go.Proofs.Ythcohphflhkceaa.Abs

/- The library's stable sort: symMerge in general, by induction. -/
namespace Go.Proofs.Ythcohphflhkceaa.Abs
open Go
set_option linter.unusedVariables false
theorem asc_nil_or {α : Type} {key : α → Int} {X Y : List α} (hX : Asc key X) (hY : Asc key Y) (h : X.length = 0 ∨ Y.length = 0) : Asc key (X ++ Y) := by
  rcases h with h | h
  · rw [List.eq_nil_of_length_eq_zero h]; exact hY
  · rw [List.eq_nil_of_length_eq_zero h, List.append_nil]; exact hX
section
variable {B0 : Nat} {old : Nat → Option (List Value)} {b c N : Nat} {f : Value} {r : Rw → Int} {Pr : Rw → Prop}
set_option maxRecDepth 10000
set_option maxHeartbeats 16000000
theorem sym71_ct (hc : CmpT (cx B0 old) enW r Pr f) (hN : N ≤ 100000) : ∀ (d : Nat) {n : Nat} {A X Y S : List Rw} {a m e : Nat} {H Hs : Hp} {Q : Value → Hp → Prop}, X.length + Y.length ≤ d →
    Own enW 38 (A ++ (X ++ (Y ++ S))) (.slice (some ⟨b, 0, none⟩) N c) Hs → (∀ z ∈ X ++ Y, Pr z) → (A ++ (X ++ (Y ++ S))).length = N → a = A.length → m = A.length + X.length → e = A.length + X.length + Y.length → 0 < X.length → 0 < Y.length → Asc r X → Asc r Y →
    (∀ w Z Hs', Own enW 38 (A ++ (Z ++ S)) (.slice (some ⟨b, 0, none⟩) N c) Hs' → Stb r (X ++ Y) Z → Asc r Z → Q w (Hs' ++ H)) →
    CallT (cx B0 old) (acall (cx B0 old) ansP (n + d + 11)) 71 [.slice (some ⟨b, 0, none⟩) N c, .int .i64 a, .int .i64 m, .int .i64 e, f] (Hs ++ H) Q := by
  intro d
  induction d with
  | zero => intro n A X Y S a m e H Hs Q hd _ _ _ _ _ _ h1 _ _ _ _; exact absurd hd (by omega)
  | succ d ih =>
  intro n A X Y S a m e H Hs Q hd ho hp hLN ha hm he hX0 hY0 hX hY hQ
  by_cases hx1 : X.length = 1
  · obtain ⟨x, rfl⟩ := List.length_eq_one_iff.1 hx1
    exact sym71a_ct (n := n + (d + 1)) hc hN ho hp hLN ha (by simpa using hm) (by simpa using he) hY hQ
  by_cases hy1 : Y.length = 1
  · obtain ⟨y, rfl⟩ := List.length_eq_one_iff.1 hy1
    exact sym71b_ct (n := n + (d + 1)) hc hN hx1 ho hp hLN ha hm (by simpa using he) hX hQ
  have hfc := hc
  obtain ⟨g, first, cap, rfl, hcal, hcmp⟩ := hc
  refine call_in 220 rfl Try.func71 rfl rfl ?_
  simp only [List.length_append] at hLN
  repeat (refine ZX ?_; try with_reducible intro _)
  refine ct_condT te_e rfl (fun h1 => absurd h1 (by omega)) (fun h1 => ?_)
  repeat (refine ZX ?_; try with_reducible intro _)
  refine ct_condT te_e rfl (fun h1 => absurd h1 (by omega)) (fun h1 => ?_)
  obtain ⟨h, hh⟩ : ∃ h, (X.length + Y.length) / 2 = h := ⟨_, rfl⟩
  have hw := half (i := a) (j := e) (by omega)
  rw [show (a + e) / 2 = a + h by omega] at hw
  repeat (refine ZX ?_; try with_reducible intro _)
  rw [hw]
  clear hw
  refine ct_midE (ι := Nat × Nat) (fun i => i.1 ≤ i.2 ∧ i.2 ≤ h ∧ i.2 ≤ X.length ∧ h ≤ i.1 + Y.length ∧ (∀ x y, 0 < i.1 → X[i.1 - 1]? = some x → Y[h - i.1]? = some y → r x ≤ r y) ∧ (∀ x y, X[i.2]? = some x → i.2 < h → Y[h - i.2 - 1]? = some y → r y < r x))
    (fun i => [(20, .int .i64 ((a + i.1 : Nat) : Int)), (21, .int .i64 ((a + i.2 : Nat) : Int)), (18, .int .i64 ((a + h : Nat) : Int)), (19, .int .i64 ((a + h : Nat) + (m : Nat) : Int)), (0, .slice (some ⟨b, 0, none⟩) N c), (1, .int .i64 (a : Int)), (2, .int .i64 (m : Int)), (3, .int .i64 (e : Int)), (4, .func (.func g) first cap)]) (fun _ => Hs ++ H) ?_ ?_
  · refine ct_condT te_d rfl (fun hgt => ?_) (fun hgt => ?_)
    · repeat (refine ZX ?_; try with_reducible intro _)
      refine ⟨(h - Y.length, h), ⟨by dsimp only; omega, Nat.le_refl _, by dsimp only; omega, by dsimp only; omega, fun x y h0 _ hy => ?_, fun x y _ h0 => absurd h0 (Nat.lt_irrefl _)⟩, by
        refine SubL.consI (q := ((a + h : Nat) : Int) + (m : Int) - (e : Int)) rfl (by dsimp only; omega) ?_
        repeat (first | exact SubL.nil | refine SubL.cons rfl ?_), List.Sublist.refl _⟩
      dsimp only at h0 hy
      rw [List.getElem?_eq_none (by omega)] at hy; cases hy
    · repeat (refine ZX ?_; try with_reducible intro _)
      refine ⟨(0, X.length), ⟨by dsimp only; omega, by dsimp only; omega, Nat.le_refl _, by dsimp only; omega, fun x y h0 => absurd h0 (Nat.lt_irrefl _), fun x y hx => ?_⟩, by
        refine SubL.consI (q := (a : Int)) rfl (by dsimp only; omega) ?_
        refine SubL.consI (q := (m : Int)) rfl (by dsimp only; omega) ?_
        repeat (first | exact SubL.nil | refine SubL.cons rfl ?_), List.Sublist.refl _⟩
      dsimp only at hx
      rw [List.getElem?_eq_none (Nat.le_refl _)] at hx; cases hx
  rintro ⟨s0, r0⟩ ⟨hs1, hs2, hs3, hs4, I1, I2⟩
  dsimp only at hs1 hs2 hs3 hs4 I1 I2 ⊢
  repeat (refine ZX ?_; try with_reducible intro _)
  refine loop_ind (ι := Nat × Nat) (s0, r0) (fun i => i.2 - i.1) (fun i => i.1 ≤ i.2 ∧ i.2 ≤ h ∧ i.2 ≤ X.length ∧ h ≤ i.1 + Y.length ∧ (∀ x y, 0 < i.1 → X[i.1 - 1]? = some x → Y[h - i.1]? = some y → r x ≤ r y) ∧ (∀ x y, X[i.2]? = some x → i.2 < h → Y[h - i.2 - 1]? = some y → r y < r x))
    (fun i => [(20, .int .i64 ((a + i.1 : Nat) : Int)), (21, .int .i64 ((a + i.2 : Nat) : Int)), (22, .int .i64 ((a + h : Nat) + (m : Nat) - 1 : Int)), (18, .int .i64 ((a + h : Nat) : Int)), (19, .int .i64 ((a + h : Nat) + (m : Nat) : Int)), (0, .slice (some ⟨b, 0, none⟩) N c), (1, .int .i64 (a : Int)), (2, .int .i64 (m : Int)), (3, .int .i64 (e : Int)), (4, .func (.func g) first cap)]) (fun _ => Hs ++ H)
    ⟨hs1, hs2, hs3, hs4, I1, I2⟩ (by repeat (first | exact SubL.nil | refine SubL.cons rfl ?_)) (List.Sublist.refl _) ?_
  clear hs1 hs2 hs3 hs4 I1 I2
  rintro ⟨s, t⟩ ⟨hs1, hs2, hs3, hs4, I1, I2⟩
  dsimp only at hs1 hs2 hs3 hs4 I1 I2 ⊢
  repeat (refine ZX ?_; try with_reducible intro _)
  refine ct_condT te_d rfl (fun hlt => ?_) (fun hlt => ?_)
  · -- one step of the search
    repeat (refine ZX ?_; try with_reducible intro _)
    rw [half (by omega)]
    obtain ⟨q, hq, hq1, hq2⟩ : ∃ q, (a + s + (a + t)) / 2 = a + q ∧ s ≤ q ∧ q < t := ⟨(a + s + (a + t)) / 2 - a, by omega, by omega, by omega⟩
    rw [hq]
    obtain ⟨y, hy, my, hL0⟩ := ho.ldE (C := cx B0 old) (et := 40) enW_len rfl (sz rfl) (i := (((a + h : Nat) : Int) + (m : Int) - 1 - ((a + q : Nat) : Int)).toNat) (by omega) H
    obtain ⟨x, hx, mx, hL1⟩ := ho.ldE (C := cx B0 old) (et := 40) enW_len rfl (sz rfl) (i := a + q) (by omega) H
    rw [at_Y (i := h - q - 1) (by omega) (by omega)] at hy
    rw [at_X (i := q) (by omega) (by omega)] at hx
    repeat (refine ZX ?_; try with_reducible intro _)
    refine ct_draw (masks := [0, 0, 0, 0, 12, 30, 62, 0, 0, 384, 896, 2047, 4095, 8191]) (plan := [0, 1, 2, 3, 4, 5, 6, 7, 8, 9, 10, 11, 12, 13]) (E := []) (by kernel_rfl) (by kernel_rfl) (by kernel_rfl) (by kernel_rfl) ?_
    repeat (refine YX ?_)
    refine pl_S rfl rfl rfl rfl rfl rfl (st_call rfl rfl hcal rfl (hcmp _ y x _ _ (hp _ (List.mem_append_right _ (List.mem_of_getElem? hy))) (hp _ (List.mem_append_left _ (List.mem_of_getElem? hx))) fun z hz => ⟨by exact rec_auto, ?_⟩))
    repeat (refine YX ?_)
    repeat (refine ZX ?_; try with_reducible intro _)
    refine ct_condT (te_n te_d) rfl (fun hlt2 => ?_) (fun hlt2 => ?_)
    · repeat (refine ZX ?_; try with_reducible intro _)
      exact ⟨(q + 1, t), ⟨by dsimp only; omega, hs2, hs3, by dsimp only; omega, fun x' y' _ hx' hy' => by
        rw [Nat.add_sub_cancel, hx] at hx'
        rw [show h - (q + 1) = h - q - 1 by omega, hy] at hy'
        cases hx'; cases hy'
        exact Int.not_lt.1 fun h => hlt2 (hz.2 h), I2⟩, by dsimp only; omega, by
        refine SubL.consI (q := ((a + q : Nat) : Int) + 1) rfl (by dsimp only; omega) ?_
        repeat (first | exact SubL.nil | refine SubL.cons rfl ?_), List.Sublist.refl _⟩
    · repeat (refine ZX ?_; try with_reducible intro _)
      exact ⟨(s, q), ⟨by dsimp only; omega, by dsimp only; omega, by dsimp only; omega, hs4, I1, fun x' y' hx' _ hy' => by
        dsimp only at hx' hy'
        rw [hx] at hx'
        rw [hy] at hy'
        cases hx'; cases hy'
        exact hz.1 hlt2⟩, by dsimp only; omega, by repeat (first | exact SubL.nil | refine SubL.cons rfl ?_), List.Sublist.refl _⟩
  obtain rfl : s = t := by omega
  obtain ⟨m1, m2⟩ := merge_cut (s := s) (e := h - s) hX hY hs3 (by omega) (fun x y hx h0 hy => I2 x y hx (by omega) hy) (fun x y h0 hx hy => I1 x y h0 hx hy)
  have eX := List.take_append_drop s X
  have eY := List.take_append_drop (h - s) Y
  have l1 : (X.take s).length = s := by rw [List.length_take]; omega
  have l2 : (X.drop s).length = X.length - s := by rw [List.length_drop]
  have l3 : (Y.take (h - s)).length = h - s := by rw [List.length_take]; omega
  have l4 : (Y.drop (h - s)).length = Y.length - (h - s) := by rw [List.length_drop]
  have pX1 : ∀ z ∈ X.take s, Pr z := fun z hz => hp z (List.mem_append_left _ (List.mem_of_mem_take hz))
  have pX2 : ∀ z ∈ X.drop s, Pr z := fun z hz => hp z (List.mem_append_left _ (List.mem_of_mem_drop hz))
  have pY1 : ∀ z ∈ Y.take (h - s), Pr z := fun z hz => hp z (List.mem_append_right _ (List.mem_of_mem_take hz))
  have pY2 : ∀ z ∈ Y.drop (h - s), Pr z := fun z hz => hp z (List.mem_append_right _ (List.mem_of_mem_drop hz))
  have aX1 := hX.sub (List.take_sublist s X)
  have aX2 := hX.sub (List.drop_sublist s X)
  have aY1 := hY.sub (List.take_sublist (h - s) Y)
  have aY2 := hY.sub (List.drop_sublist (h - s) Y)
  have ho' : Own enW 38 (A ++ (X.take s ++ (X.drop s ++ (Y.take (h - s) ++ (Y.drop (h - s) ++ S))))) (.slice (some ⟨b, 0, none⟩) N c) Hs := by
    rw [← List.append_assoc (X.take s), eX, ← List.append_assoc (Y.take (h - s)), eY]; exact ho
  clear I1 I2 hlt ho
  generalize X.take s = X1 at *
  generalize X.drop s = X2 at *
  generalize Y.take (h - s) = Y1 at *
  generalize Y.drop (h - s) = Y2 at *
  have hfin : ∀ R1 R2, Stb r (X1 ++ Y1) R1 → Asc r R1 → Stb r (X2 ++ Y2) R2 → Asc r R2 → Stb r (X ++ Y) (R1 ++ R2) ∧ Asc r (R1 ++ R2) := fun R1 R2 s1 a1 s2 a2 => by
    rw [← eX, ← eY]
    exact merge_parts s1 s2 a1 a2 (by rw [eX]; exact hX) (by rw [eY]; exact hY) m1 m2
  repeat (refine ZX ?_; try with_reducible intro _)
  refine rt_midE (ι := Bool) (fun q => q = true ↔ (s < X.length ∧ 0 < h - s))
    (fun q => [(185, .bool q), (20, .int .i64 ((a + s : Nat) : Int)), (24, .int .i64 ((m + (h - s) : Nat) : Int)), (18, .int .i64 ((a + h : Nat) : Int)), (0, .slice (some ⟨b, 0, none⟩) N c), (1, .int .i64 (a : Int)), (2, .int .i64 (m : Int)), (3, .int .i64 (e : Int)), (4, .func (.func g) first cap)]) (fun _ => Hs ++ H) ?_ ?_
  · refine isRun ?_
    refine z1 (fun h2 => ?_) (fun h2 => ?_)
    · repeat (refine ZX ?_; try with_reducible intro _)
      exact ⟨decide ((m : Int) < ((a + h : Nat) : Int) + (m : Int) - ((a + s : Nat) : Int)), by simp only [decide_eq_true_eq]; omega, by
        refine SubL.cons rfl ?_
        refine SubL.cons rfl ?_
        refine SubL.consI (q := ((a + h : Nat) : Int) + (m : Int) - ((a + s : Nat) : Int)) rfl (by omega) ?_
        repeat (first | exact SubL.nil | refine SubL.cons rfl ?_), List.Sublist.refl _⟩
    · repeat (refine ZX ?_; try with_reducible intro _)
      exact ⟨false, ⟨fun h => (by cases h), fun h => absurd h.1 (by omega)⟩, by
        refine SubL.cons rfl ?_
        refine SubL.cons rfl ?_
        refine SubL.consI (q := ((a + h : Nat) : Int) + (m : Int) - ((a + s : Nat) : Int)) rfl (by omega) ?_
        repeat (first | exact SubL.nil | refine SubL.cons rfl ?_), List.Sublist.refl _⟩
  rintro q1 hq1
  repeat (refine ZX ?_; try with_reducible intro _)
  refine ct_midE (ι := Hp) (fun G => Own enW 38 (A ++ (X1 ++ (Y1 ++ (X2 ++ (Y2 ++ S))))) (.slice (some ⟨b, 0, none⟩) N c) G)
    (fun G => [(20, .int .i64 ((a + s : Nat) : Int)), (24, .int .i64 ((m + (h - s) : Nat) : Int)), (18, .int .i64 ((a + h : Nat) : Int)), (0, .slice (some ⟨b, 0, none⟩) N c), (1, .int .i64 (a : Int)), (3, .int .i64 (e : Int)), (4, .func (.func g) first cap)]) (fun G => G ++ H) ?_ ?_
  · cases q1 with
    | true =>
      have h3 := hq1.1 rfl
      repeat (refine ZX ?_; try with_reducible intro _)
      refine rt_step rfl rfl rfl (st_call rfl rfl rfl rfl (CallT.fuel (n := n + d + 9 + 2) (rotate_ct (A := A ++ X1) (U := X2) (V := Y1) (S := Y2 ++ S) (by simpa using ho') (by simp only [List.length_append]; omega) hN (by simp only [List.length_append]; omega) (by simp only [List.length_append]; omega) (by simp only [List.length_append]; omega) (by omega) (by omega) fun w G o2 => ?_) (by omega)))
      repeat (refine ZX ?_; try with_reducible intro _)
      exact ⟨G, by simpa using o2, by repeat (first | exact SubL.nil | refine SubL.cons rfl ?_), List.Sublist.refl _⟩
    | false =>
      have h3 : ¬ (s < X.length ∧ 0 < h - s) := fun h => by have := hq1.2 h; cases this
      repeat (refine ZX ?_; try with_reducible intro _)
      refine ⟨Hs, ?_, by repeat (first | exact SubL.nil | refine SubL.cons rfl ?_), List.Sublist.refl _⟩
      rcases (show X2.length = 0 ∨ Y1.length = 0 by omega) with h4 | h4
      · rw [List.eq_nil_of_length_eq_zero h4] at ho' ⊢; exact ho'
      · rw [List.eq_nil_of_length_eq_zero h4] at ho' ⊢; exact ho'
  rintro G1 o1
  clear ho' hq1
  repeat (refine ZX ?_; try with_reducible intro _)
  refine rt_midE (ι := Bool) (fun q => q = true ↔ (0 < s ∧ s < h))
    (fun q => [(199, .bool q), (20, .int .i64 ((a + s : Nat) : Int)), (24, .int .i64 ((m + (h - s) : Nat) : Int)), (18, .int .i64 ((a + h : Nat) : Int)), (0, .slice (some ⟨b, 0, none⟩) N c), (1, .int .i64 (a : Int)), (3, .int .i64 (e : Int)), (4, .func (.func g) first cap)]) (fun _ => G1 ++ H) ?_ ?_
  · refine isRun ?_
    refine z1 (fun h2 => ?_) (fun h2 => ?_)
    · repeat (refine ZX ?_; try with_reducible intro _)
      exact ⟨decide (((a + s : Nat) : Int) < ((a + h : Nat) : Int)), by simp only [decide_eq_true_eq]; omega, by repeat (first | exact SubL.nil | refine SubL.cons rfl ?_), List.Sublist.refl _⟩
    · repeat (refine ZX ?_; try with_reducible intro _)
      exact ⟨false, ⟨fun h => (by cases h), fun h => absurd h.1 (by omega)⟩, by repeat (first | exact SubL.nil | refine SubL.cons rfl ?_), List.Sublist.refl _⟩
  rintro q1 hq1
  repeat (refine ZX ?_; try with_reducible intro _)
  refine ct_midE (ι := List Rw × Hp) (fun i => Stb r (X1 ++ Y1) i.1 ∧ Asc r i.1 ∧ Own enW 38 (A ++ (i.1 ++ (X2 ++ (Y2 ++ S)))) (.slice (some ⟨b, 0, none⟩) N c) i.2)
    (fun i => [(24, .int .i64 ((m + (h - s) : Nat) : Int)), (18, .int .i64 ((a + h : Nat) : Int)), (0, .slice (some ⟨b, 0, none⟩) N c), (3, .int .i64 (e : Int)), (4, .func (.func g) first cap)]) (fun i => i.2 ++ H) ?_ ?_
  · cases q1 with
    | true =>
      have h3 := hq1.1 rfl
      repeat (refine ZX ?_; try with_reducible intro _)
      refine rt_step rfl rfl rfl (st_call rfl rfl rfl rfl (CallT.fuel (n := n + d + 11) (ih (n := n) (A := A) (X := X1) (Y := Y1) (S := X2 ++ (Y2 ++ S)) (by omega) o1 (fun z hz => (List.mem_append.1 hz).elim (pX1 z) (pY1 z)) (by simp only [List.length_append]; omega) ha (by omega) (by omega) (by omega) (by omega) aX1 aY1 fun w Z G o2 t1 t2 => ?_) (by omega)))
      repeat (refine ZX ?_; try with_reducible intro _)
      exact ⟨(Z, G), ⟨t1, t2, o2⟩, by repeat (first | exact SubL.nil | refine SubL.cons rfl ?_), List.Sublist.refl _⟩
    | false =>
      have h3 : ¬ (0 < s ∧ s < h) := fun h => by have := hq1.2 h; cases this
      repeat (refine ZX ?_; try with_reducible intro _)
      exact ⟨(X1 ++ Y1, G1), ⟨Stb.refl _, asc_nil_or aX1 aY1 (by omega), by simpa using o1⟩, by repeat (first | exact SubL.nil | refine SubL.cons rfl ?_), List.Sublist.refl _⟩
  rintro ⟨R1, G2⟩ ⟨t1, t2, o2⟩
  dsimp only at t1 t2 o2 ⊢
  clear o1 hq1
  have lR1 : R1.length = h := by rw [t1.length, List.length_append]; omega
  repeat (refine ZX ?_; try with_reducible intro _)
  refine rt_midE (ι := Bool) (fun q => q = true ↔ (0 < X2.length ∧ 0 < Y2.length))
    (fun q => [(213, .bool q), (24, .int .i64 ((m + (h - s) : Nat) : Int)), (18, .int .i64 ((a + h : Nat) : Int)), (0, .slice (some ⟨b, 0, none⟩) N c), (3, .int .i64 (e : Int)), (4, .func (.func g) first cap)]) (fun _ => G2 ++ H) ?_ ?_
  · refine isRun ?_
    refine z1 (fun h2 => ?_) (fun h2 => ?_)
    · repeat (refine ZX ?_; try with_reducible intro _)
      exact ⟨decide (((m + (h - s) : Nat) : Int) < (e : Int)), by simp only [decide_eq_true_eq]; omega, by repeat (first | exact SubL.nil | refine SubL.cons rfl ?_), List.Sublist.refl _⟩
    · repeat (refine ZX ?_; try with_reducible intro _)
      exact ⟨false, ⟨fun h => (by cases h), fun h => absurd h.1 (by omega)⟩, by repeat (first | exact SubL.nil | refine SubL.cons rfl ?_), List.Sublist.refl _⟩
  rintro q1 hq1
  repeat (refine ZX ?_; try with_reducible intro _)
  cases q1 with
  | true =>
    have h3 := hq1.1 rfl
    repeat (refine ZX ?_; try with_reducible intro _)
    refine rt_step rfl rfl rfl (st_call rfl rfl rfl rfl (CallT.fuel (n := n + d + 11) (ih (n := n) (A := A ++ R1) (X := X2) (Y := Y2) (S := S) (by omega) (by simpa using o2) (fun z hz => (List.mem_append.1 hz).elim (pX2 z) (pY2 z)) (by simp only [List.length_append]; omega) (by simp only [List.length_append]; omega) (by simp only [List.length_append]; omega) (by simp only [List.length_append]; omega) (by omega) (by omega) aX2 aY2 fun w Z G o3 t3 t4 => ?_) (by omega)))
    repeat (refine ZX ?_; try with_reducible intro _)
    obtain ⟨f1, f2⟩ := hfin R1 Z t1 t2 t3 t4
    exact re_0 rfl (List.Sublist.refl _) (fun w => hQ w _ G (by simpa using o3) f1 f2)
  | false =>
    have h3 : ¬ (0 < X2.length ∧ 0 < Y2.length) := fun h => by have := hq1.2 h; cases this
    repeat (refine ZX ?_; try with_reducible intro _)
    obtain ⟨f1, f2⟩ := hfin R1 (X2 ++ Y2) t1 t2 (Stb.refl _) (asc_nil_or aX2 aY2 (by omega))
    exact re_0 rfl (List.Sublist.refl _) (fun w => hQ w _ G2 (by simpa using o2) f1 f2)
end
end Go.Proofs.Ythcohphflhkceaa.Abs

/- The library's stable sort of routes by their keys; a slice's clone. -/
namespace Go.Proofs.Ythcohphflhkceaa.Abs
open Go
set_option linter.unusedVariables false
/-- The rank of a route's key. -/
def rkW (x : Rw) : Int := rkS (keyS x.r.n)
def okW (x : Rw) : Prop := x.r.n.wf
theorem okS_key {x : S60} (h : x.wf) : okS (keyS x) := ⟨keyS_wf h, keyS_key x⟩
theorem nlC_keyS (x y : S60) : nlC (keyS x) (keyS y) = nlC x y := by unfold nlC; rw [keyS_key, keyS_key]
theorem nlC_rk {x y : S60} (hx : x.wf) (hy : y.wf) : nlC x y < 0 ↔ rkS (keyS x) < rkS (keyS y) := by rw [← nlC_keyS]; exact rkS_lt (okS_key hx) (okS_key hy)
theorem nlC_rk0 {x y : S60} (hx : x.wf) (hy : y.wf) : nlC x y = 0 ↔ rkS (keyS x) = rkS (keyS y) := by
  rw [nlC_zero]
  exact ⟨fun e => by rw [e], fun e => rkS_inj (okS_key hx) (okS_key hy) e⟩
section
variable {B0 : Nat} {old : Nat → Option (List Value)} {n : Nat} {H Hs : Hp} {Q : Value → Hp → Prop} {b c N : Nat} {f v : Value} {r : Rw → Int} {Pr : Rw → Prop} {L : List Rw}
set_option maxRecDepth 10000
set_option maxHeartbeats 16000000
theorem selCmp : CmpT (cx B0 old) enW rkW okW (.func (.func 38) #[] #[]) := ⟨38, #[], #[], rfl, rfl, fun n x y H Q hx hy h => by
  have hcp : ∀ {H1 : Hp} {Θ : Value → Hp → Prop}, Θ (.int .i64 (nlC x.r.n y.r.n)) H1 → CallT (cx B0 old) (acall (cx B0 old) ansP (n + 9)) 39 [.agg ⟨en60 x.r.n⟩, .agg ⟨en60 y.r.n⟩] H1 Θ := fun h => compare39_ct (n := n + 3) x.r.n y.r.n h
  have hq := h _ (nlC_rk hx hy)
  refine call_in2 10 rfl Try.func38 rfl rfl ?_
  unfold enW enR
  repeat (refine ZX ?_; try with_reducible intro _)
  refine rt_step rfl rfl rfl (st_call rfl rfl rfl rfl (hcp ?_))
  repeat (refine ZX ?_; try with_reducible intro _)
  exact re_1 rfl rfl (by exact drop_auto) hq⟩
theorem ins70z_ct (hQ : ∀ w, Q w H) : CallT (cx B0 old) (acall (cx B0 old) ansP (n + 11)) 70 [v, .int .i64 0, .int .i64 0, f] H Q := by
  refine call_in4 53 rfl Try.func70 rfl rfl ?_
  repeat (refine ZX ?_; try with_reducible intro _)
  refine ct_loop 1 ?_
  repeat (refine ZX ?_; try with_reducible intro _)
  exact re_0 rfl (List.Sublist.refl _) hQ
theorem stable54_ct (hc : CmpT (cx B0 old) enW r Pr f) (ho : Own enW 38 L (.slice (some ⟨b, 0, none⟩) N c) Hs) (hp : ∀ x ∈ L, Pr x) (hLN : L.length = N) (hN : N ≤ 30)
    (hQ : ∀ w L' Hs', Own enW 38 L' (.slice (some ⟨b, 0, none⟩) N c) Hs' → Stb r L L' → Asc r L' → Q w (Hs' ++ H)) :
    CallT (cx B0 old) (acall (cx B0 old) ansP (n + 42)) 54 [.slice (some ⟨b, 0, none⟩) N c, .int .i64 N, f] (Hs ++ H) Q := by
  have hfc := hc
  obtain ⟨g, first, cap, rfl, hcal, hcmp⟩ := hc
  refine call_in3 63 rfl Try.func54 rfl rfl ?_
  repeat (refine ZX ?_; try with_reducible intro _)
  refine ct_loop 2 ?_
  repeat (refine ZX ?_; try with_reducible intro _)
  refine ct_condT te_d rfl (fun h20 => ?_) (fun h20 => ?_)
  rotate_left
  · repeat (refine ZX ?_; try with_reducible intro _)
    refine rt_step rfl rfl rfl (st_call rfl rfl rfl rfl (CallT.fuel (n := n + 30 + 11) (ins70_ct (A := []) (X := L) (S := []) (a := 0) (e := N) hfc (by simpa using ho) hp (by simpa using hLN) (by omega) rfl (by simp; omega) fun w X' G o2 s2 a2 => ?_) (by omega)))
    repeat (refine ZX ?_; try with_reducible intro _)
    refine ct_loop 1 ?_
    repeat (refine ZX ?_; try with_reducible intro _)
    refine ct_condT te_d rfl (fun h3 => absurd h3 (by omega)) (fun h3 => ?_)
    repeat (refine ZX ?_; try with_reducible intro _)
    exact re_0 rfl (List.Sublist.refl _) (fun w => hQ w X' G (by simpa using o2) s2 a2)
  have hsp := List.take_append_drop 20 L
  have l1 : (L.take 20).length = 20 := by rw [List.length_take]; omega
  have l2 : (L.drop 20).length = N - 20 := by rw [List.length_drop]; omega
  generalize L.take 20 = X at *
  generalize L.drop 20 = Y at *
  subst hsp
  repeat (refine ZX ?_; try with_reducible intro _)
  refine rt_step rfl rfl rfl (st_call rfl rfl rfl rfl (CallT.fuel (n := n + 30 + 11) (ins70_ct (A := []) (X := X) (S := Y) (a := 0) (e := 20) hfc (by simpa using ho) (fun z hz => hp z (List.mem_append_left _ hz)) (by simpa using hLN) (by omega) rfl (by simp; omega) fun w X' G o2 s2 a2 => ?_) (by omega)))
  have lX := s2.length
  repeat (refine ZX ?_; try with_reducible intro _)
  refine ct_condT te_d rfl (fun h3 => absurd h3 (by omega)) (fun h3 => ?_)
  repeat (refine ZX ?_; try with_reducible intro _)
  refine rt_step rfl rfl rfl (st_call rfl rfl rfl rfl (CallT.fuel (n := n + 30 + 11) (ins70_ct (A := X') (X := Y) (S := []) (a := 20) (e := N) hfc (by simpa using o2) (fun z hz => hp z (List.mem_append_right _ hz)) (by simp only [List.length_append, List.length_nil] at hLN ⊢; omega) (by omega) (by omega) (by omega) fun w Y' G2 o3 s3 a3 => ?_) (by omega)))
  have lY := s3.length
  repeat (refine ZX ?_; try with_reducible intro _)
  refine ct_loop 2 ?_
  repeat (refine ZX ?_; try with_reducible intro _)
  refine ct_condT te_d rfl (fun h4 => ?_) (fun h4 => ?_)
  rotate_left
  · repeat (refine ZX ?_; try with_reducible intro _)
    have hYn : Y' = [] := List.eq_nil_of_length_eq_zero (by omega)
    refine re_0 rfl (List.Sublist.refl _) (fun w => hQ w (X' ++ Y') G2 (by simpa using o3) (s2.app s3) ?_)
    rw [hYn, List.append_nil]; exact a2
  repeat (refine ZX ?_; try with_reducible intro _)
  refine ct_loop 1 ?_
  repeat (refine ZX ?_; try with_reducible intro _)
  refine ct_condT te_d rfl (fun h5 => absurd h5 (by omega)) (fun h5 => ?_)
  repeat (refine ZX ?_; try with_reducible intro _)
  refine ct_condT te_d rfl (fun h6 => ?_) (fun h6 => absurd h6 (by omega))
  repeat (refine ZX ?_; try with_reducible intro _)
  refine rt_step rfl rfl rfl (st_call rfl rfl rfl rfl (CallT.fuel (n := n + 30 + 11) (sym71_ct (A := []) (X := X') (Y := Y') (S := []) (a := 0) (m := 20) (e := N) hfc (by omega) 30 (n := n) (by omega) (by simpa using o3) (fun z hz => hp z (((s2.app s3).mem).1 hz)) (by simp only [List.nil_append, List.append_nil, List.length_append] at hLN ⊢; omega) rfl (by simp; omega) (by simp; omega) (by omega) (by omega) a2 a3 fun w Z G3 o4 s4 a4 => ?_) (by omega)))
  repeat (refine ZX ?_; try with_reducible intro _)
  refine ct_condT te_d rfl (fun h7 => absurd h7 (by omega)) (fun h7 => ?_)
  repeat (refine ZX ?_; try with_reducible intro _)
  exact re_0 rfl (List.Sublist.refl _) (fun w => hQ w Z G3 (by simpa using o4) ((s2.app s3).trans s4) a4)
theorem stable54z_ct (hQ : ∀ w, Q w H) : CallT (cx B0 old) (acall (cx B0 old) ansP (n + 42)) 54 [v, .int .i64 0, f] H Q := by
  refine call_in3 63 rfl Try.func54 rfl rfl ?_
  repeat (refine ZX ?_; try with_reducible intro _)
  refine ct_loop 1 ?_
  repeat (refine ZX ?_; try with_reducible intro _)
  refine rt_step rfl rfl rfl (st_call rfl rfl rfl rfl (CallT.fuel (n := n + 30 + 11) (ins70z_ct (n := n + 30) fun w => ?_) (by omega)))
  repeat (refine ZX ?_; try with_reducible intro _)
  refine ct_loop 1 ?_
  repeat (refine ZX ?_; try with_reducible intro _)
  exact re_0 rfl (List.Sublist.refl _) hQ
theorem sort37_ct (hc : CmpT (cx B0 old) enW r Pr f) (ho : Own enW 38 L v Hs) (hp : ∀ x ∈ L, Pr x) (hN : L.length ≤ 30)
    (hQ : ∀ w L' Hs', Own enW 38 L' v Hs' → Stb r L L' → Asc r L' → Q w (Hs' ++ H)) :
    CallT (cx B0 old) (acall (cx B0 old) ansP (n + 43)) 37 [v, f] (Hs ++ H) Q := by
  obtain ⟨ad, c, rfl, hw⟩ := ho.arrW (C := cx B0 old) enW_len
  refine call_in2 9 rfl Try.func37 rfl rfl ?_
  repeat (refine ZX ?_; try with_reducible intro _)
  by_cases h0 : L = []
  · subst h0
    refine rt_step rfl rfl rfl (st_call rfl rfl rfl rfl (stable54z_ct fun w => ?_))
    repeat (refine ZX ?_; try with_reducible intro _)
    exact re_0 rfl (List.Sublist.refl _) (fun w => hQ w [] Hs ho (Stb.refl _) List.Pairwise.nil)
  · obtain ⟨b, hb⟩ : ∃ b, ad = some ⟨b, 0, none⟩ := by
      generalize hv : Value.slice ad L.length c = v at ho
      cases ho with
      | nil => exact absurd rfl h0
      | emp b o => exact absurd rfl h0
      | el _ b es junk => cases hv; exact ⟨b, rfl⟩
      | fix _ b es hL => cases hv; exact ⟨b, rfl⟩
    subst hb
    refine rt_step rfl rfl rfl (st_call rfl rfl rfl rfl (stable54_ct hc ho hp rfl hN fun w L' G o2 s2 a2 => ?_))
    repeat (refine ZX ?_; try with_reducible intro _)
    exact re_0 rfl (List.Sublist.refl _) (fun w => hQ w L' G o2 s2 a2)
theorem clone36_ct {ad : Option Addr} {c : Nat} {L : List Rw} (hA : ArrW (cx B0 old) H ad 38 enW L) (hl : L.length ≤ 2000) (hQ : ∀ v G, Own enW 38 L v G → Q v (G ++ H)) : CallT (cx B0 old) (acall (cx B0 old) ansP (n + 1)) 36 [.slice ad L.length c] H Q := by
  refine call_in1 8 rfl Try.func36 rfl rfl ?_
  cases ad with
  | none =>
    cases L with
    | cons x L1 =>
      obtain ⟨b, o, cs, e, _⟩ := hA.els (by simp)
      cases e
    | nil =>
      repeat (refine ZX ?_; try with_reducible intro _)
      exact re_1 rfl rfl (List.Sublist.refl _) (hQ _ [] .nil)
  | some a =>
    repeat (refine ZX ?_; try with_reducible intro _)
    refine rt_step rfl rfl rfl (st_appO (M := L) (c := c) (pre := []) (Hs := [_]) (Own.emp _ _) enW_len enW_one rfl rfl (ap rfl) (hA.weak (List.sublist_cons_self _ _)) (Nat.le_trans (Nat.mul_le_mul_right _ (show 2 * (([] : List Rw).length + L.length) + 192 ≤ 6000 by rw [List.length_nil]; omega)) (by decide)) fun v3 H3 ho3 => ?_)
    repeat (refine ZX ?_; try with_reducible intro _)
    exact re_1 rfl rfl (List.Sublist.refl _) (hQ _ _ ho3)
end
end Go.Proofs.Ythcohphflhkceaa.Abs
