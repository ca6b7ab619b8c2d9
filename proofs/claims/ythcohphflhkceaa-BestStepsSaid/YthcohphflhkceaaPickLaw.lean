/- What picking finds: a usable route, the first one of the best. Picking from the reversed list, or without another route, finds a route of the same rank, or the same route. -/
import Derived.Test.YthcohphflhkceaaBestTop
import Derived.Test.YthcohphflhkceaaSame1
namespace Go.Proofs.Ythcohphflhkceaa.Abs
open Go
set_option linter.unusedVariables false

theorem lexc_trans_ge {x y z : List Int} (h1 : x.length = y.length) (h2 : y.length = z.length) (h3 : 0 ≤ lexc x y) (h4 : 0 ≤ lexc y z) : 0 ≤ lexc x z := by
  rw [lexc_ge x y z h1 h2 h3 h4]; split <;> omega
theorem lexc_pos {x y z : List Int} (h1 : x.length = y.length) (h2 : y.length = z.length) (h3 : 0 ≤ lexc x y) (h4 : 0 < lexc y z) : 0 < lexc x z := by
  rw [lexc_ge x y z h1 h2 h3 (by omega)]; split <;> omega
/-- The route at an index is usable, none that is usable is better, earlier ones are worse. -/
structure Best (ps : List (Int × Int)) (L : List Rt) (n at_ : Nat) (r : Rt) : Prop where
  lt : at_ < n
  get : L[at_]? = some r
  use : usableR r ps = true
  min : ∀ j q, j < n → L[j]? = some q → usableR q ps = true → 0 ≤ lexc (rankL q ps) (rankL r ps)
  first : ∀ j q, j < at_ → L[j]? = some q → usableR q ps = true → 0 < lexc (rankL q ps) (rankL r ps)
theorem pst_spec (ps : List (Int × Int)) (L : List Rt) : ∀ i, i ≤ L.length →
    ((pst ps L i).found = false ∧ (pst ps L i).best = 0 ∧ ∀ j q, j < i → L[j]? = some q → usableR q ps = false) ∨
    ((pst ps L i).found = true ∧ ∃ r, (pst ps L i).least = rankL r ps ∧ Best ps L i (pst ps L i).best r)
  | 0, _ => .inl ⟨rfl, rfl, fun j q h => by omega⟩
  | i + 1, hi => by
    have ih := pst_spec ps L i (by omega)
    have hget := List.getElem?_eq_getElem (show i < L.length by omega)
    generalize L[i] = r at hget
    have e : pst ps L (i + 1) = pstep ps (pst ps L i) i r := by rw [pst, hget]
    rw [e]
    unfold pstep
    cases hu : usableR r ps with
    | false =>
      rw [if_neg (by simp)]
      rcases ih with ⟨h1, h2, h3⟩ | ⟨h1, q, h2, hb⟩
      · refine .inl ⟨h1, h2, fun j q hj hq => ?_⟩
        by_cases hji : j = i
        · subst hji; rw [hget] at hq; cases hq; exact hu
        · exact h3 j q (by omega) hq
      · refine .inr ⟨h1, q, h2, ⟨Nat.lt_succ_of_lt hb.lt, hb.get, hb.use, fun j p hj hp hpu => ?_, hb.first⟩⟩
        by_cases hji : j = i
        · subst hji; rw [hget] at hp; cases hp; rw [hu] at hpu; cases hpu
        · exact hb.min j p (by omega) hp hpu
    | true =>
      rcases ih with ⟨h1, h2, h3⟩ | ⟨h1, q, h2, hb⟩
      · rw [if_pos ⟨rfl, .inl h1⟩]
        refine .inr ⟨rfl, r, rfl, ⟨Nat.lt_succ_self _, hget, hu, fun j p hj hp hpu => ?_, fun j p hj hp hpu => ?_⟩⟩
        · by_cases hji : j = i
          · subst hji; rw [hget] at hp; cases hp; rw [lexc_refl]; exact Int.le_refl _
          · have := h3 j p (by omega) hp; rw [this] at hpu; cases hpu
        · have := h3 j p hj hp; rw [this] at hpu; cases hpu
      · by_cases hlt : lexc (rankL r ps) (pst ps L i).least < 0
        · rw [if_pos ⟨rfl, .inr hlt⟩]
          rw [h2] at hlt
          have h0 : 0 < lexc (rankL q ps) (rankL r ps) := by rw [lexc_anti (rankL r ps) (rankL q ps)]; omega
          have old : ∀ j p, j < i → L[j]? = some p → usableR p ps = true → 0 < lexc (rankL p ps) (rankL r ps) := fun j p hj hp hpu => lexc_pos (y := rankL q ps) rfl rfl (hb.min j p hj hp hpu) h0
          refine .inr ⟨rfl, r, rfl, ⟨Nat.lt_succ_self _, hget, hu, fun j p hj hp hpu => ?_, old⟩⟩
          by_cases hji : j = i
          · subst hji; rw [hget] at hp; cases hp; rw [lexc_refl]; exact Int.le_refl _
          · exact Int.le_of_lt (old j p (by omega) hp hpu)
        · rw [if_neg (by intro ⟨_, h5⟩; rcases h5 with h5 | h5; rw [h1] at h5; cases h5; exact hlt h5)]
          rw [h2] at hlt
          refine .inr ⟨h1, q, h2, ⟨Nat.lt_succ_of_lt hb.lt, hb.get, hb.use, fun j p hj hp hpu => ?_, hb.first⟩⟩
          by_cases hji : j = i
          · subst hji; rw [hget] at hp; cases hp; omega
          · exact hb.min j p (by omega) hp hpu

/-- The list without the route at k, unless k is the index that was picked. -/
def lessTo (L : List Rt) (k at_ : Nat) : Nat → List Rt
  | 0 => []
  | i + 1 => match L[i]? with
    | some r => if i ≠ k ∨ k = at_ then lessTo L k at_ i ++ [r] else lessTo L k at_ i
    | none => lessTo L k at_ i
theorem lessTo_len (L : List Rt) (k at_ : Nat) : ∀ i, (lessTo L k at_ i).length ≤ i
  | 0 => Nat.le_refl _
  | i + 1 => by
    have := lessTo_len L k at_ i
    unfold lessTo
    split
    · split
      · simp; omega
      · omega
    · omega
theorem lessTo_mem (L : List Rt) (k at_ : Nat) : ∀ (i n : Nat) (r : Rt), (lessTo L k at_ i)[n]? = some r → ∃ j, j < i ∧ L[j]? = some r
  | 0, n, r, h => by simp [lessTo] at h
  | i + 1, n, r, h => by
    unfold lessTo at h
    split at h
    · rename_i q hq
      split at h
      · by_cases hn : n < (lessTo L k at_ i).length
        · rw [List.getElem?_append_left hn] at h
          obtain ⟨j, h1, h2⟩ := lessTo_mem L k at_ i n r h
          exact ⟨j, by omega, h2⟩
        · rw [List.getElem?_append_right (by omega)] at h
          have h0 : n - (lessTo L k at_ i).length = 0 := by
            have := (List.getElem?_eq_some_iff.1 h).1; simp at this; omega
          rw [h0] at h
          cases h
          exact ⟨i, by omega, hq⟩
      · obtain ⟨j, h1, h2⟩ := lessTo_mem L k at_ i n r h
        exact ⟨j, by omega, h2⟩
    · obtain ⟨j, h1, h2⟩ := lessTo_mem L k at_ i n r h
      exact ⟨j, by omega, h2⟩
theorem lessTo_at (L : List Rt) (k at_ : Nat) (r : Rt) (ha : L[at_]? = some r) : ∀ (i : Nat), at_ < i → ∃ p : Nat, (lessTo L k at_ i)[p]? = some r ∧ ∀ (n : Nat) (q : Rt), n < p → (lessTo L k at_ i)[n]? = some q → ∃ j, j < at_ ∧ L[j]? = some q
  | 0, h => by omega
  | i + 1, h => by
    by_cases hi : at_ = i
    · subst hi
      have e : lessTo L k at_ (at_ + 1) = lessTo L k at_ at_ ++ [r] := by rw [lessTo, ha]; simp only; rw [if_pos (by omega)]
      rw [e]
      refine ⟨(lessTo L k at_ at_).length, by simp, fun n q hn hq => ?_⟩
      rw [List.getElem?_append_left hn] at hq
      exact lessTo_mem L k at_ at_ n q hq
    · obtain ⟨p, h1, h2⟩ := lessTo_at L k at_ r ha i (by omega)
      have hpl := (List.getElem?_eq_some_iff.1 h1).1
      unfold lessTo
      split
      · split
        · refine ⟨p, by rw [List.getElem?_append_left hpl]; exact h1, fun n q hn hq => h2 n q hn ?_⟩
          rw [List.getElem?_append_left (by omega)] at hq; exact hq
        · exact ⟨p, h1, h2⟩
      · exact ⟨p, h1, h2⟩
theorem pick_found {ps : List (Int × Int)} {L : List Rt} {j : Nat} {q : Rt} (hj : L[j]? = some q) (hu : usableR q ps = true) : (pst ps L L.length).found = true ∧ ∃ r, Best ps L L.length (pst ps L L.length).best r := by
  rcases pst_spec ps L L.length (Nat.le_refl _) with ⟨_, _, h3⟩ | ⟨h1, r, _, hb⟩
  · have := h3 j q (List.getElem?_eq_some_iff.1 hj).1 hj; rw [hu] at this; cases this
  · exact ⟨h1, r, hb⟩
theorem back_best {ps : List (Int × Int)} {L : List Rt} {at_ m : Nat} {r q : Rt} (h : Best ps L L.length at_ r) (hb : Best ps L.reverse L.reverse.length m q) : lexc (rankL q ps) (rankL r ps) = 0 := by
  have h1 : 0 ≤ lexc (rankL q ps) (rankL r ps) := by
    have hq : q ∈ L := by have := List.mem_of_getElem? hb.get; simpa using this
    obtain ⟨j, hj⟩ := List.getElem?_of_mem hq
    exact h.min j q (List.getElem?_eq_some_iff.1 hj).1 hj hb.use
  have h2 : 0 ≤ lexc (rankL r ps) (rankL q ps) := by
    have hr : r ∈ L.reverse := by have := List.mem_of_getElem? h.get; simpa using this
    obtain ⟨j, hj⟩ := List.getElem?_of_mem hr
    exact hb.min j r (List.getElem?_eq_some_iff.1 hj).1 hj h.use
  rw [lexc_anti (rankL q ps) (rankL r ps)] at h2
  omega
theorem less_best {ps : List (Int × Int)} {L : List Rt} {at_ k n : Nat} {r q : Rt} (h : Best ps L L.length at_ r) (hb : Best ps (lessTo L k at_ L.length) (lessTo L k at_ L.length).length n q) : q = r := by
  obtain ⟨p, hp, hbef⟩ := lessTo_at L k at_ r h.get L.length h.lt
  have hpl := (List.getElem?_eq_some_iff.1 hp).1
  have h1 : 0 ≤ lexc (rankL q ps) (rankL r ps) := by
    obtain ⟨j, hj, hg⟩ := lessTo_mem L k at_ L.length n q hb.get
    exact h.min j q hj hg hb.use
  have h2 : 0 ≤ lexc (rankL r ps) (rankL q ps) := hb.min p r hpl hp h.use
  rw [lexc_anti (rankL q ps) (rankL r ps)] at h2
  have hnp : n = p := by
    rcases Nat.lt_trichotomy n p with hlt | heq | hgt
    · obtain ⟨j, hj, hg⟩ := hbef n q hlt hb.get
      have := h.first j q hj hg hb.use
      omega
    · exact heq
    · have := hb.first p r hgt hp h.use
      rw [lexc_anti (rankL q ps) (rankL r ps)] at this
      omega
  subst hnp
  have := hb.get
  rw [hp] at this
  cases this; rfl
end Go.Proofs.Ythcohphflhkceaa.Abs
