/- Sorting: what a comparison is, and how two elements of a slice change places. -/
import Derived.Test.YtphadapcafibpaaGreatAuto
import Derived.Test.YtphadapcafibpaaGreatSep8
import Derived.Test.YtphadapcafibpaaGreatSep13
import Derived.Test.YtphadapcafibpaaGreatSort0
import Derived.Test.YtphadapcafibpaaGreatSep9
import Derived.Test.YtphadapcafibpaaGreatSep11
namespace Go.Proofs.YtphadapcafibpaaGreat.Abs
open Go
set_option linter.unusedVariables false
/-- A function value that compares elements by their ranks. -/
def CmpT {α : Type} (C : Ctx) (en : α → List Value) (r : α → Int) (P : α → Prop) (f : Value) : Prop :=
  ∃ g first cap, f = .func (.func g) first cap ∧ callable C g = true ∧ ∀ (n : Nat) (x y : α) (H : Hp) (Q : Value → Hp → Prop), P x → P y → (∀ z : Int, (z < 0 ↔ r x < r y) → Q (.int .i64 z) H) →
    CallT C (acall C ansP (n + 10)) g (first.toList ++ ([.agg ⟨en x⟩, .agg ⟨en y⟩] ++ cap.toList)) H Q
section
variable {α : Type} {C : Ctx} {H : Hp} {et w : Nat} {en : α → List Value} {L : List α} {b c N i j : Nat} {Hs : Hp} {r : α → Int}
theorem Own.ldE (ho : Own en w L (.slice (some ⟨b, 0, none⟩) N c) Hs) (hl : ∀ x, (en x).length = w) (hg : aggAt C et = some true) (hn : sizeAt C et = some w) (hi : i < N) (H : Hp) :
    ∃ x, L[i]? = some x ∧ x ∈ L ∧ ∀ H', (Hs ++ H).Sublist H' → ∀ {off : Nat} (h : off = 0 + i * w := by omega), LdT C et H' b off (.agg ⟨en x⟩) := by
  obtain ⟨ad, c', e, ha⟩ := ho.arrW (C := C) hl
  have hN := (Value.slice.inj e).2.1
  have hi' : i < L.length := by omega
  refine ⟨L[i], List.getElem?_eq_getElem hi', List.getElem_mem hi', ?_⟩
  obtain ⟨b1, o1, e1, h1⟩ := ((ha [] H).arr hl).ldW et (List.getElem?_eq_getElem hi') hg hn
  rw [e1] at e
  obtain ⟨e, _⟩ := Value.slice.inj e
  cases e
  exact fun H' hs off h => by rw [h]; exact h1 H' hs
theorem Own.swp (ho : Own en w L (.slice (some ⟨b, 0, none⟩) N c) Hs) (hl : ∀ x, (en x).length = w) (hone : ∀ x, (en x).all Value.oneCell' = true) (hn : sizeAt C et = some w) {x y : α} (hx : L[i]? = some x) (hy : L[j]? = some y) :
    ∃ H1 H2, Own en w (sw L i j) (.slice (some ⟨b, 0, none⟩) N c) H2 ∧ (∀ pre H0, StP C et b (0 + i * w) (.agg ⟨en y⟩) (pre ++ (Hs ++ H0)) (pre ++ (H1 ++ H0))) ∧ (∀ pre H0, StP C et b (0 + j * w) (.agg ⟨en x⟩) (pre ++ (H1 ++ H0)) (pre ++ (H2 ++ H0))) := by
  have hst : ∀ a a' : α, storeRow (en a) 0 (en a') = some (en a') := fun a a' => by
    unfold storeRow
    rw [hone a', Nat.zero_add, hl, hl, Nat.ble_eq_true_of_le (Nat.le_refl _)]
    simp [List.drop_of_length_le, hl]
  have hz : ∀ a : α, Nat.beq (Value.agg ⟨en a⟩).cells.size w = true := fun a => beq_of (show (en a).length = w from hl a)
  obtain ⟨H1, o1, b1, c1, e1, s1⟩ := ho.set (C := C) (t := et) (f := 0) (a' := y) (u := .agg ⟨en y⟩) hl hx hn (hz y) (hst x y)
  obtain ⟨e1, _, _⟩ := Value.slice.inj e1
  cases e1
  have hj : j < (L.set i y).length := by rw [List.length_set]; exact (List.getElem?_eq_some_iff.1 hy).1
  obtain ⟨H2, o2, b2, c2, e2, s2⟩ := o1.set (C := C) (t := et) (f := 0) (a' := x) (u := .agg ⟨en x⟩) hl (List.getElem?_eq_getElem hj) hn (hz x) (hst _ x)
  obtain ⟨e2, _, _⟩ := Value.slice.inj e2
  cases e2
  rw [← sw_of hx hy] at o2
  exact ⟨H1, H2, o2, s1, s2⟩
theorem rk_at {x : α} (h : L[i]? = some x) : r x = rk r L i := (rk_of h).symm
end
end Go.Proofs.YtphadapcafibpaaGreat.Abs

/- Ranges over maps. -/
namespace Go.Proofs.YtphadapcafibpaaGreat.Abs
open Go
set_option linter.unusedVariables false
section
variable {C : Ctx} {hd : HH Prop} {l : Sl} {H H1 : Hp} {v : Value} {x y z : Operand} {t : TypeId} {K V : Type} {Θ : Value → Hp → Prop} {ek : K → Value} {ev : V → Value} {ms : List (K × V × Nat)} {b c it : Nat} {vs : List Nat}
/-- Births are told apart, and lie before the clock. -/
structure Born (ms : List (K × V × Nat)) (c : Nat) : Prop where
  nd : (ms.map (·.2.2)).Nodup
  lt : ∀ p ∈ ms, p.2.2 < c
theorem Born.nil (c : Nat) : Born ([] : List (K × V × Nat)) c := ⟨List.nodup_nil, fun p h => by cases h⟩
theorem Born.new {k : K} {m : V} (h : Born ms c) : Born (ms ++ [(k, m, c)]) (c + 1) := by
  refine ⟨?_, fun p hp => ?_⟩
  · rw [List.map_append, List.map_cons, List.map_nil]
    refine List.nodup_append.2 ⟨h.nd, by simp, fun a ha b hb e => ?_⟩
    obtain ⟨p, hp, rfl⟩ := List.mem_map.1 ha
    have hb := List.mem_singleton.1 hb
    have := h.lt p hp
    dsimp only at hb
    omega
  · rcases List.mem_append.1 hp with hp | hp
    · have := h.lt p hp; omega
    · rw [List.mem_singleton.1 hp]; exact Nat.lt_succ_self _
theorem Born.sub {ms' : List (K × V × Nat)} (h : Born ms c) (hs : ms'.Sublist ms) : Born ms' c := ⟨h.nd.sublist (hs.map _), fun p hp => h.lt p (hs.subset hp)⟩
theorem setNth_births (f : K × V × Nat → K × V × Nat) (hf : ∀ p, (f p).2.2 = p.2.2) : ∀ (ms : List (K × V × Nat)) (i : Nat), (setNth f ms i).map (·.2.2) = ms.map (·.2.2)
  | [], _ => rfl
  | p :: ms, 0 => by simp only [setNth, List.map_cons, hf]
  | p :: ms, i + 1 => by simp only [setNth, List.map_cons, setNth_births f hf ms i]
theorem Born.set {f : K × V × Nat → K × V × Nat} {i : Nat} (h : Born ms c) (hf : ∀ p, (f p).2.2 = p.2.2) : Born (setNth f ms i) c := by
  have e := setNth_births f hf ms i
  refine ⟨by rw [e]; exact h.nd, fun p hp => ?_⟩
  have : p.2.2 ∈ ms.map (·.2.2) := by rw [← e]; exact List.mem_map_of_mem hp
  obtain ⟨q, hq, e2⟩ := List.mem_map.1 this
  rw [← e2]; exact h.lt q hq
theorem st_range {kt et : TypeId} {es : List MEnt} (hx : evalL l x = some (.map (some b))) (hm : (b, .map es c) ∈ H) (hu : C.P.underlying t = some (.map kt et)) (h : ∀ it, Θ (.pointer (some ⟨it, 0, none⟩)) ((it, .iter (some b) c [] c) :: H)) :
    StepT C hd (.range t x) l H Θ := by
  unfold StepT
  have hcov : covL l (Op.range t x).operands.toList = true := cov1 hx
  refine ⟨hcov, fun s k hs hk => ?_⟩
  unfold aop aE
  have e : aW C s (.range t x) (rhoL l) = some (.pointer (some ⟨s.next, 0, none⟩), s.alloc (.iter (some b) c [] c)) := by
    simp only [aW, hu, rhoL_eq hx, mapOf_is hs hm]
  simp only [covL_ok hcov, aP, aR, aA, e]
  exact hk _ _ _ (h s.next) (hs.alloc _)
theorem cand_H (h : Born ms c) (vs : List Nat) : ∀ o ∈ cands c vs (mkH ek ev ms), (o = none ∧ ∀ p ∈ ms, p.2.2 ∈ vs) ∨ ∃ p ∈ ms, p.2.2 ∉ vs ∧ o = some { key := ek p.1, val := ev p.2.1, born := p.2.2 } := by
  intro o ho
  unfold cands at ho
  simp only [List.mem_append, List.mem_map] at ho
  rcases ho with ho | ⟨e, he, rfl⟩
  · split at ho
    · rename_i hempty
      rw [List.mem_singleton.1 ho]
      refine .inl ⟨rfl, fun p hp => Classical.byContradiction fun hn => ?_⟩
      rw [List.isEmpty_iff] at hempty
      have : ({ key := ek p.1, val := ev p.2.1, born := p.2.2 } : MEnt) ∈ ((mkH ek ev ms).filter fun e => !vs.contains e.born).filter fun e => Nat.blt e.born c := by
        refine List.mem_filter.2 ⟨List.mem_filter.2 ⟨List.mem_map.2 ⟨p, hp, rfl⟩, by simpa using hn⟩, ?_⟩
        exact Nat.ble_eq_true_of_le (h.lt p hp)
      rw [hempty] at this
      cases this
    · cases ho
  · have hm : e ∈ mkH ek ev ms ∧ e.born ∉ vs := by
      rcases he with he | he
      · have h1 := List.mem_filter.1 (List.mem_filter.1 he).1
        exact ⟨h1.1, by simpa using h1.2⟩
      · have h1 := List.mem_filter.1 (List.mem_filter.1 he).1
        exact ⟨h1.1, by simpa using h1.2⟩
    obtain ⟨p, hp, rfl⟩ := List.mem_map.1 hm.1
    exact .inr ⟨p, hp, hm.2, rfl⟩
theorem st_nextH (hx : evalL l x = some (.pointer (some ⟨it, 0, none⟩))) (hm : (b, .map (mkH ek ev ms) c) ∈ H1) (hb : Born ms c)
    (hend : (∀ p ∈ ms, p.2.2 ∈ vs) → Θ (.tuple #[.bool false]) ((it, .iter (some b) c vs c) :: H1))
    (hgo : ∀ p ∈ ms, p.2.2 ∉ vs → Θ (.tuple #[.bool true, ek p.1, ev p.2.1]) ((it, .iter (some b) c (vs ++ [p.2.2]) c) :: H1)) :
    StepT C hd (.next x false) l ((it, .iter (some b) c vs c) :: H1) Θ := by
  unfold StepT
  have hcov : covL l (Op.next x false).operands.toList = true := cov1 hx
  refine ⟨hcov, fun s k hs hk => ?_⟩
  obtain ⟨g1, g2, g3⟩ := hs.has _ _ (List.Mem.head _)
  obtain ⟨k1, k2, k3⟩ := hs.has _ _ (List.Mem.tail _ hm)
  have hnot : (!vs.isEmpty && !(mkH ek ev ms).isEmpty && (mkH ek ev ms).all fun e => Nat.ble c e.born) = false := by
    cases ms with
    | nil => simp [mkH]
    | cons p ms =>
      have := hb.lt p (List.mem_cons_self ..)
      have h2 : Nat.ble c p.2.2 = false := by
        cases e : Nat.ble c p.2.2 with
        | false => rfl
        | true => have := Nat.le_of_ble_eq_true e; omega
      simp [mkH, h2]
  unfold aop aE
  simp only [covL_ok hcov, aP, aR, aA, aW]
  unfold anext
  simp only [rhoL_eq hx, Nat.ble_eq_true_of_le g1, g3, Nat.ble_eq_true_of_le k1, k3, hnot]
  show ∀ p, p ∈ _ → p
  intro p hp
  obtain ⟨o, ho, rfl⟩ := List.mem_map.1 hp
  rcases cand_H hb vs o ho with ⟨rfl, h1⟩ | ⟨q, hq, h1, rfl⟩
  · exact hk _ _ _ (hend h1) hs
  · exact hk _ _ _ (hgo q hq h1) (hs.swap (.here _ _ _ _))
theorem find_born : ∀ {ms : List (K × V × Nat)} {p : K × V × Nat}, (ms.map (·.2.2)).Nodup → p ∈ ms → (mkH ek ev ms).find? (fun e => Nat.beq e.born p.2.2) = some { key := ek p.1, val := ev p.2.1, born := p.2.2 }
  | [], p, _, h => by cases h
  | q :: ms, p, hn, h => by
    rw [List.map_cons, List.nodup_cons] at hn
    unfold mkH
    rw [List.map_cons, List.find?_cons]
    by_cases e : q.2.2 = p.2.2
    · have : q = p := by
        rcases List.mem_cons.1 h with h | h
        · exact h.symm
        · exact absurd (e ▸ List.mem_map_of_mem (f := fun p : K × V × Nat => p.2.2) h) hn.1
      subst this
      simp
    · have : Nat.beq q.2.2 p.2.2 = false := by
        cases e2 : Nat.beq q.2.2 p.2.2 with
        | false => rfl
        | true => exact absurd (Nat.eq_of_beq_eq_true e2) e
      simp only [this]
      rcases List.mem_cons.1 h with h | h
      · exact absurd (by rw [h]) e
      · exact find_born hn.2 h
theorem rd_entryH {p : K × V × Nat} (hx : evalL l x = some (.pointer (some ⟨it, 0, none⟩))) (hi : (it, .iter (some b) c (vs ++ [p.2.2]) c) ∈ H) (hm : (b, .map (mkH ek ev ms) c) ∈ H) (hb : Born ms c) (hp : p ∈ ms) :
    ReadT C (.entry x) l H (.tuple #[ek p.1, ev p.2.1]) := by
  unfold ReadT
  refine ⟨cov1 hx, rfl, fun s hs => ?_⟩
  obtain ⟨g1, g2, g3⟩ := hs.has _ _ hi
  obtain ⟨k1, k2, k3⟩ := hs.has _ _ hm
  have hl : (vs ++ [p.2.2]).getLast? = some p.2.2 := by simp
  have hf := find_born (ek := ek) (ev := ev) hb.nd hp
  simp only [aR, rhoL_eq hx, Nat.ble_eq_true_of_le g1, g3, hl, Nat.ble_eq_true_of_le k1, k3, Nat.beq_refl, hf]
end
end Go.Proofs.YtphadapcafibpaaGreat.Abs

/- Maps as lists of entries: lookups, updates, deletions by keys. -/
namespace Go.Proofs.YtphadapcafibpaaGreat.Abs
open Go
set_option linter.unusedVariables false
section
variable {K V : Type} [DecidableEq K] {ms : List (K × V × Nat)} {c : Nat} {k k' : K} {v v' : V}
def Uq (ms : List (K × V × Nat)) : Prop := (ms.map (·.1)).Nodup
def lkH (ms : List (K × V × Nat)) (k : K) : Option V := (fH ms k).map (·.2)
def updH (ms : List (K × V × Nat)) (c : Nat) (k : K) (v : V) : List (K × V × Nat) := match fH ms k with
  | some (i, _) => setNth (fun p => (p.1, v, p.2.2)) ms i
  | none => ms ++ [(k, v, c)]
def updC (ms : List (K × V × Nat)) (c : Nat) (k : K) : Nat := match fH ms k with
  | some _ => c
  | none => c + 1
def delH (ms : List (K × V × Nat)) (k : K) : List (K × V × Nat) := match fH ms k with
  | some p => ms.eraseIdx p.1
  | none => ms
theorem fH_map (k : K) (ms : List (K × V × Nat)) : fH ms k = none ↔ lkH ms k = none := by unfold lkH; cases fH ms k <;> simp
theorem lkH_mem : lkH ms k = some v → ∃ n, (k, v, n) ∈ ms := fun h => by
  unfold lkH at h
  obtain ⟨⟨i, w⟩, h1, h2⟩ := Option.map_eq_some_iff.1 h
  cases h2
  obtain ⟨n, hn⟩ := fH_some h1
  exact ⟨n, List.mem_of_getElem? hn⟩
theorem lkH_none : lkH ms k = none ↔ ∀ p ∈ ms, p.1 ≠ k := (fH_map k ms).symm.trans fH_none
theorem Uq.lkH (h : Uq ms) {n : Nat} (hm : (k, v, n) ∈ ms) : lkH ms k = some v := by
  cases e : Abs.lkH ms k with
  | none => exact absurd rfl (lkH_none.1 e _ hm)
  | some w =>
    obtain ⟨n', hn⟩ := lkH_mem e
    unfold Uq at h
    induction ms with
    | nil => cases hm
    | cons p ms ih =>
      rw [List.map_cons, List.nodup_cons] at h
      rcases List.mem_cons.1 hm with h1 | h1 <;> rcases List.mem_cons.1 hn with h2 | h2
      · rw [← h1] at h2; cases h2; rfl
      · exact absurd (List.mem_map_of_mem (f := fun p : K × V × Nat => p.1) h2) (by rw [← h1] at h; exact h.1)
      · exact absurd (List.mem_map_of_mem (f := fun p : K × V × Nat => p.1) h1) (by rw [← h2] at h; exact h.1)
      · have hne : p.1 ≠ k := fun e => h.1 (e ▸ List.mem_map_of_mem (f := fun p : K × V × Nat => p.1) h1)
        refine ih h.2 h1 ?_ h2
        unfold Abs.lkH fH at e
        obtain ⟨a, m, q⟩ := p
        rw [if_neg (fun g => hne g.symm)] at e
        unfold Abs.lkH
        cases hf : fH ms k with
        | none => rw [hf] at e; cases e
        | some q => rw [hf] at e; exact e
theorem Uq.iff (h : Uq ms) : Abs.lkH ms k = some v ↔ ∃ n, (k, v, n) ∈ ms := ⟨lkH_mem, fun ⟨_, hm⟩ => h.lkH hm⟩
/-- Nothing but the entry of a key is changed. -/
theorem upd_perm (h : Uq ms) : ∃ n, (updH ms c k v).Perm ((k, v, n) :: ms.filter fun p => decide (p.1 ≠ k)) := by
  unfold updH
  cases e : fH ms k with
  | none =>
    have h1 := fH_none.1 e
    refine ⟨c, ?_⟩
    have h2 : ms.filter (fun p => decide (p.1 ≠ k)) = ms := List.filter_eq_self.2 fun p hp => decide_eq_true (h1 p hp)
    rw [h2]
    exact (List.perm_append_comm).trans (List.Perm.refl _)
  | some q =>
    obtain ⟨i, w⟩ := q
    dsimp only
    induction ms generalizing i with
    | nil => cases e
    | cons p ms ih =>
      obtain ⟨a, m, q⟩ := p
      unfold Uq at h
      rw [List.map_cons, List.nodup_cons] at h
      unfold fH at e
      by_cases hk : k = a
      · subst hk
        rw [if_pos rfl] at e
        cases e
        refine ⟨q, ?_⟩
        have h2 : ms.filter (fun p => decide (p.1 ≠ k)) = ms := List.filter_eq_self.2 fun p hp => decide_eq_true fun g => h.1 (by show k ∈ _; rw [← g]; exact List.mem_map_of_mem (f := fun p : K × V × Nat => p.1) hp)
        rw [List.filter_cons_of_neg (by simp), h2]
        exact List.Perm.refl _
      · rw [if_neg hk] at e
        obtain ⟨⟨j, w2⟩, e1, e2⟩ := Option.map_eq_some_iff.1 e
        cases e2
        obtain ⟨n, hn⟩ := ih (h := h.2) (i := j) e1
        refine ⟨n, ?_⟩
        rw [List.filter_cons_of_pos (by simpa using fun g => hk g.symm)]
        exact (List.Perm.cons _ hn).trans (List.Perm.swap _ _ _)
theorem del_eq (h : Uq ms) : delH ms k = ms.filter fun p => decide (p.1 ≠ k) := by
  unfold delH
  cases e : fH ms k with
  | none =>
    have h1 := fH_none.1 e
    exact (List.filter_eq_self.2 fun p hp => decide_eq_true (h1 p hp)).symm
  | some q =>
    obtain ⟨i, w⟩ := q
    dsimp only
    induction ms generalizing i with
    | nil => cases e
    | cons p ms ih =>
      obtain ⟨a, m, q⟩ := p
      unfold Uq at h
      rw [List.map_cons, List.nodup_cons] at h
      unfold fH at e
      by_cases hk : k = a
      · subst hk
        rw [if_pos rfl] at e
        cases e
        have h2 : ms.filter (fun p => decide (p.1 ≠ k)) = ms := List.filter_eq_self.2 fun p hp => decide_eq_true fun g => h.1 (by show k ∈ _; rw [← g]; exact List.mem_map_of_mem (f := fun p : K × V × Nat => p.1) hp)
        rw [List.filter_cons_of_neg (by simp), h2]
        rfl
      · rw [if_neg hk] at e
        obtain ⟨⟨j, w2⟩, e1, e2⟩ := Option.map_eq_some_iff.1 e
        cases e2
        have hn := ih (h := h.2) (i := j) e1
        rw [List.filter_cons_of_pos (by simpa using fun g => hk g.symm), ← hn]
        rfl
theorem Uq.upd (h : Uq ms) : Uq (updH ms c k v) := by
  obtain ⟨n, hn⟩ := upd_perm (c := c) (k := k) (v := v) h
  unfold Uq
  rw [(hn.map _).nodup_iff, List.map_cons, List.nodup_cons]
  refine ⟨fun hm => ?_, h.sublist (List.filter_sublist.map _)⟩
  obtain ⟨p, hp, e⟩ := List.mem_map.1 hm
  have := (List.mem_filter.1 hp).2
  simp at this
  exact this e
theorem Uq.del (h : Uq ms) : Uq (delH ms k) := by
  rw [del_eq h]
  exact h.sublist (List.filter_sublist.map _)
theorem Born.upd (h : Born ms c) : Born (updH ms c k v) (updC ms c k) := by
  unfold updH updC
  cases fH ms k with
  | none => exact h.new
  | some q => exact h.set fun p => rfl
theorem Born.del (h : Born ms c) : Born (delH ms k) c := by
  unfold delH
  cases fH ms k with
  | none => exact h
  | some q => exact h.sub (List.eraseIdx_sublist _ _)
theorem lkH_upd (h : Uq ms) : Abs.lkH (updH ms c k v) k' = if k' = k then some v else Abs.lkH ms k' := by
  obtain ⟨n, hn⟩ := upd_perm (c := c) (k := k) (v := v) h
  have hu := h.upd (c := c) (k := k) (v := v)
  apply Option.ext
  intro w
  rw [hu.iff]
  by_cases e : k' = k
  · subst e
    rw [if_pos rfl]
    constructor
    · rintro ⟨m, hm⟩
      have := hu.lkH hm
      have h2 := hu.lkH (hn.mem_iff.2 (List.mem_cons_self ..))
      rw [this] at h2
      exact h2.symm
    · intro e; cases e
      exact ⟨n, hn.mem_iff.2 (List.mem_cons_self ..)⟩
  · rw [if_neg e, h.iff]
    constructor
    · rintro ⟨m, hm⟩
      rcases List.mem_cons.1 (hn.mem_iff.1 hm) with h1 | h1
      · cases h1; exact absurd rfl e
      · exact ⟨m, (List.mem_filter.1 h1).1⟩
    · rintro ⟨m, hm⟩
      exact ⟨m, hn.mem_iff.2 (List.mem_cons_of_mem _ (List.mem_filter.2 ⟨hm, by simpa using e⟩))⟩
theorem lkH_del (h : Uq ms) : Abs.lkH (delH ms k) k' = if k' = k then none else Abs.lkH ms k' := by
  have hu := h.del (k := k)
  apply Option.ext
  intro w
  rw [hu.iff, del_eq h]
  by_cases e : k' = k
  · subst e
    rw [if_pos rfl]
    constructor
    · rintro ⟨m, hm⟩
      have := (List.mem_filter.1 hm).2
      simp at this
    · intro e; cases e
  · rw [if_neg e, h.iff]
    constructor
    · rintro ⟨m, hm⟩; exact ⟨m, (List.mem_filter.1 hm).1⟩
    · rintro ⟨m, hm⟩; exact ⟨m, List.mem_filter.2 ⟨hm, by simpa using e⟩⟩
theorem updH_len (ms : List (K × V × Nat)) (c : Nat) (k : K) (v : V) : (updH ms c k v).length = if (Abs.lkH ms k).isSome then ms.length else ms.length + 1 := by
  unfold updH Abs.lkH
  cases fH ms k with
  | none => simp
  | some q =>
    obtain ⟨i, w⟩ := q
    simp only [Option.map_some, Option.isSome_some, if_true]
    have : ∀ (ms : List (K × V × Nat)) (i : Nat), (setNth (fun p => (p.1, v, p.2.2)) ms i).length = ms.length := by
      intro ms
      induction ms with
      | nil => intro i; rfl
      | cons p ms ih => intro i; cases i with
        | zero => rfl
        | succ i => simp [setNth, ih]
    exact this ms i
variable {C : Ctx} {t : TypeId} {ek : K → Value} {ev : V → Value} {zv : Value}
theorem lookE_K (ht : KeyMap C t ek zv) (ms : List (K × V × Nat)) (k : K) (ok : Bool) :
    lookE C t (mkH ek ev ms) (ek k) ok = some (match Abs.lkH ms k with | some v => if ok then .tuple #[ev v, .bool true] else ev v | none => if ok then .tuple #[zv, .bool false] else zv) := by
  rw [lookE_H ht]
  unfold Abs.lkH
  cases fH ms k <;> rfl
theorem updE_K (ht : KeyMap C t ek zv) (ms : List (K × V × Nat)) (c : Nat) (k : K) (m : V) : updE C t (mkH ek ev ms) c (ek k) (ev m) = some (mkH ek ev (updH ms c k m), updC ms c k) := by
  unfold updH updC
  cases e : fH ms k with
  | none => exact updE_Hnew ht ms c k m e
  | some q => exact updE_Hold ht ms c q.1 k m q.2 e
theorem delE_K (ht : KeyMap C t ek zv) (ms : List (K × V × Nat)) (k : K) : delE C t (mkH ek ev ms) (ek k) = some (mkH ek ev (delH ms k)) := by
  rw [delE_H ht]
  unfold delH
  cases fH ms k <;> rfl
end
end Go.Proofs.YtphadapcafibpaaGreat.Abs
