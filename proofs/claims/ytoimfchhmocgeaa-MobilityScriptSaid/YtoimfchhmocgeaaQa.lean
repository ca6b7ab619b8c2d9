/- Ranges over maps. -/
import Derived.Test.YtoimfchhmocgeaaSep9
import Derived.Test.YtoimfchhmocgeaaSep11
namespace Go.Proofs.Ytoimfchhmocgeaa.Abs
open Go
set_option linter.unusedVariables false
section
variable {C : Ctx} {hd : HH Prop} {l : Sl} {H H1 : Hp} {v : Value} {x y z : Operand} {t : TypeId} {K V : Type} {Θ : Value → Hp → Prop} {ek : K → Value} {ev : V → Value} {ms : List (K × V × Nat)} {b c it : Nat} {vs : List Nat}
/-- Births are told apart, and lie before the clock. -/
structure Born (ms : List (K × V × Nat)) (c : Nat) : Prop where
  nd : (ms.map (·.2.2)).Nodup
  lt : ∀ p ∈ ms, p.2.2 < c
theorem Born.nil (c : Nat) : Born ([] : List (K × V × Nat)) c := ⟨List.nodup_nil, fun p h => by cases h⟩
theorem Born.new {k : K} {m : V} (h : Born ms c) : Born (ms ++ [(k, m, c)]) (c + 1) := by
  refine ⟨?_, fun p hp => ?_⟩
  · rw [List.map_append, List.map_cons, List.map_nil]
    refine List.nodup_append.2 ⟨h.nd, by simp, fun a ha b hb e => ?_⟩
    obtain ⟨p, hp, rfl⟩ := List.mem_map.1 ha
    have hb := List.mem_singleton.1 hb
    have := h.lt p hp
    dsimp only at hb
    omega
  · rcases List.mem_append.1 hp with hp | hp
    · have := h.lt p hp; omega
    · rw [List.mem_singleton.1 hp]; exact Nat.lt_succ_self _
theorem Born.sub {ms' : List (K × V × Nat)} (h : Born ms c) (hs : ms'.Sublist ms) : Born ms' c := ⟨h.nd.sublist (hs.map _), fun p hp => h.lt p (hs.subset hp)⟩
theorem setNth_births (f : K × V × Nat → K × V × Nat) (hf : ∀ p, (f p).2.2 = p.2.2) : ∀ (ms : List (K × V × Nat)) (i : Nat), (setNth f ms i).map (·.2.2) = ms.map (·.2.2)
  | [], _ => rfl
  | p :: ms, 0 => by simp only [setNth, List.map_cons, hf]
  | p :: ms, i + 1 => by simp only [setNth, List.map_cons, setNth_births f hf ms i]
theorem Born.set {f : K × V × Nat → K × V × Nat} {i : Nat} (h : Born ms c) (hf : ∀ p, (f p).2.2 = p.2.2) : Born (setNth f ms i) c := by
  have e := setNth_births f hf ms i
  refine ⟨by rw [e]; exact h.nd, fun p hp => ?_⟩
  have : p.2.2 ∈ ms.map (·.2.2) := by rw [← e]; exact List.mem_map_of_mem hp
  obtain ⟨q, hq, e2⟩ := List.mem_map.1 this
  rw [← e2]; exact h.lt q hq
theorem st_range {kt et : TypeId} {es : List MEnt} (hx : evalL l x = some (.map (some b))) (hm : (b, .map es c) ∈ H) (hu : C.P.underlying t = some (.map kt et)) (h : ∀ it, Θ (.pointer (some ⟨it, 0, none⟩)) ((it, .iter (some b) c [] c) :: H)) :
    StepT C hd (.range t x) l H Θ := by
  unfold StepT
  have hcov : covL l (Op.range t x).operands.toList = true := cov1 hx
  refine ⟨hcov, fun s k hs hk => ?_⟩
  unfold aop aE
  have e : aW C s (.range t x) (rhoL l) = some (.pointer (some ⟨s.next, 0, none⟩), s.alloc (.iter (some b) c [] c)) := by
    simp only [aW, hu, rhoL_eq hx, mapOf_is hs hm]
  simp only [covL_ok hcov, aP, aR, aA, e]
  exact hk _ _ _ (h s.next) (hs.alloc _)
theorem cand_H (h : Born ms c) (vs : List Nat) : ∀ o ∈ cands c vs (mkH ek ev ms), (o = none ∧ ∀ p ∈ ms, p.2.2 ∈ vs) ∨ ∃ p ∈ ms, p.2.2 ∉ vs ∧ o = some { key := ek p.1, val := ev p.2.1, born := p.2.2 } := by
  intro o ho
  unfold cands at ho
  simp only [List.mem_append, List.mem_map] at ho
  rcases ho with ho | ⟨e, he, rfl⟩
  · split at ho
    · rename_i hempty
      rw [List.mem_singleton.1 ho]
      refine .inl ⟨rfl, fun p hp => Classical.byContradiction fun hn => ?_⟩
      rw [List.isEmpty_iff] at hempty
      have : ({ key := ek p.1, val := ev p.2.1, born := p.2.2 } : MEnt) ∈ ((mkH ek ev ms).filter fun e => !vs.contains e.born).filter fun e => Nat.blt e.born c := by
        refine List.mem_filter.2 ⟨List.mem_filter.2 ⟨List.mem_map.2 ⟨p, hp, rfl⟩, by simpa using hn⟩, ?_⟩
        exact Nat.ble_eq_true_of_le (h.lt p hp)
      rw [hempty] at this
      cases this
    · cases ho
  · have hm : e ∈ mkH ek ev ms ∧ e.born ∉ vs := by
      rcases he with he | he
      · have h1 := List.mem_filter.1 (List.mem_filter.1 he).1
        exact ⟨h1.1, by simpa using h1.2⟩
      · have h1 := List.mem_filter.1 (List.mem_filter.1 he).1
        exact ⟨h1.1, by simpa using h1.2⟩
    obtain ⟨p, hp, rfl⟩ := List.mem_map.1 hm.1
    exact .inr ⟨p, hp, hm.2, rfl⟩
theorem st_nextH (hx : evalL l x = some (.pointer (some ⟨it, 0, none⟩))) (hm : (b, .map (mkH ek ev ms) c) ∈ H1) (hb : Born ms c)
    (hend : (∀ p ∈ ms, p.2.2 ∈ vs) → Θ (.tuple #[.bool false]) ((it, .iter (some b) c vs c) :: H1))
    (hgo : ∀ p ∈ ms, p.2.2 ∉ vs → Θ (.tuple #[.bool true, ek p.1, ev p.2.1]) ((it, .iter (some b) c (vs ++ [p.2.2]) c) :: H1)) :
    StepT C hd (.next x false) l ((it, .iter (some b) c vs c) :: H1) Θ := by
  unfold StepT
  have hcov : covL l (Op.next x false).operands.toList = true := cov1 hx
  refine ⟨hcov, fun s k hs hk => ?_⟩
  obtain ⟨g1, g2, g3⟩ := hs.has _ _ (List.Mem.head _)
  obtain ⟨k1, k2, k3⟩ := hs.has _ _ (List.Mem.tail _ hm)
  have hnot : (!vs.isEmpty && !(mkH ek ev ms).isEmpty && (mkH ek ev ms).all fun e => Nat.ble c e.born) = false := by
    cases ms with
    | nil => simp [mkH]
    | cons p ms =>
      have := hb.lt p (List.mem_cons_self ..)
      have h2 : Nat.ble c p.2.2 = false := by
        cases e : Nat.ble c p.2.2 with
        | false => rfl
        | true => have := Nat.le_of_ble_eq_true e; omega
      simp [mkH, h2]
  unfold aop aE
  simp only [covL_ok hcov, aP, aR, aA, aW]
  unfold anext
  simp only [rhoL_eq hx, Nat.ble_eq_true_of_le g1, g3, Nat.ble_eq_true_of_le k1, k3, hnot]
  show ∀ p, p ∈ _ → p
  intro p hp
  obtain ⟨o, ho, rfl⟩ := List.mem_map.1 hp
  rcases cand_H hb vs o ho with ⟨rfl, h1⟩ | ⟨q, hq, h1, rfl⟩
  · exact hk _ _ _ (hend h1) hs
  · exact hk _ _ _ (hgo q hq h1) (hs.swap (.here _ _ _ _))
theorem find_born : ∀ {ms : List (K × V × Nat)} {p : K × V × Nat}, (ms.map (·.2.2)).Nodup → p ∈ ms → (mkH ek ev ms).find? (fun e => Nat.beq e.born p.2.2) = some { key := ek p.1, val := ev p.2.1, born := p.2.2 }
  | [], p, _, h => by cases h
  | q :: ms, p, hn, h => by
    rw [List.map_cons, List.nodup_cons] at hn
    unfold mkH
    rw [List.map_cons, List.find?_cons]
    by_cases e : q.2.2 = p.2.2
    · have : q = p := by
        rcases List.mem_cons.1 h with h | h
        · exact h.symm
        · exact absurd (e ▸ List.mem_map_of_mem (f := fun p : K × V × Nat => p.2.2) h) hn.1
      subst this
      simp
    · have : Nat.beq q.2.2 p.2.2 = false := by
        cases e2 : Nat.beq q.2.2 p.2.2 with
        | false => rfl
        | true => exact absurd (Nat.eq_of_beq_eq_true e2) e
      simp only [this]
      rcases List.mem_cons.1 h with h | h
      · exact absurd (by rw [h]) e
      · exact find_born hn.2 h
theorem rd_entryH {p : K × V × Nat} (hx : evalL l x = some (.pointer (some ⟨it, 0, none⟩))) (hi : (it, .iter (some b) c (vs ++ [p.2.2]) c) ∈ H) (hm : (b, .map (mkH ek ev ms) c) ∈ H) (hb : Born ms c) (hp : p ∈ ms) :
    ReadT C (.entry x) l H (.tuple #[ek p.1, ev p.2.1]) := by
  unfold ReadT
  refine ⟨cov1 hx, rfl, fun s hs => ?_⟩
  obtain ⟨g1, g2, g3⟩ := hs.has _ _ hi
  obtain ⟨k1, k2, k3⟩ := hs.has _ _ hm
  have hl : (vs ++ [p.2.2]).getLast? = some p.2.2 := by simp
  have hf := find_born (ek := ek) (ev := ev) hb.nd hp
  simp only [aR, rhoL_eq hx, Nat.ble_eq_true_of_le g1, g3, hl, Nat.ble_eq_true_of_le k1, k3, Nat.beq_refl, hf]
end
end Go.Proofs.Ytoimfchhmocgeaa.Abs

/- Maps as lists of entries: lookups, updates, deletions by keys. -/
namespace Go.Proofs.Ytoimfchhmocgeaa.Abs
open Go
set_option linter.unusedVariables false
section
variable {K V : Type} [DecidableEq K] {ms : List (K × V × Nat)} {c : Nat} {k k' : K} {v v' : V}
def Uq (ms : List (K × V × Nat)) : Prop := (ms.map (·.1)).Nodup
def lkH (ms : List (K × V × Nat)) (k : K) : Option V := (fH ms k).map (·.2)
def updH (ms : List (K × V × Nat)) (c : Nat) (k : K) (v : V) : List (K × V × Nat) := match fH ms k with
  | some (i, _) => setNth (fun p => (p.1, v, p.2.2)) ms i
  | none => ms ++ [(k, v, c)]
def updC (ms : List (K × V × Nat)) (c : Nat) (k : K) : Nat := match fH ms k with
  | some _ => c
  | none => c + 1
def delH (ms : List (K × V × Nat)) (k : K) : List (K × V × Nat) := match fH ms k with
  | some p => ms.eraseIdx p.1
  | none => ms
theorem fH_map (k : K) (ms : List (K × V × Nat)) : fH ms k = none ↔ lkH ms k = none := by unfold lkH; cases fH ms k <;> simp
theorem lkH_mem : lkH ms k = some v → ∃ n, (k, v, n) ∈ ms := fun h => by
  unfold lkH at h
  obtain ⟨⟨i, w⟩, h1, h2⟩ := Option.map_eq_some_iff.1 h
  cases h2
  obtain ⟨n, hn⟩ := fH_some h1
  exact ⟨n, List.mem_of_getElem? hn⟩
theorem lkH_none : lkH ms k = none ↔ ∀ p ∈ ms, p.1 ≠ k := (fH_map k ms).symm.trans fH_none
theorem Uq.lkH (h : Uq ms) {n : Nat} (hm : (k, v, n) ∈ ms) : lkH ms k = some v := by
  cases e : Abs.lkH ms k with
  | none => exact absurd rfl (lkH_none.1 e _ hm)
  | some w =>
    obtain ⟨n', hn⟩ := lkH_mem e
    unfold Uq at h
    induction ms with
    | nil => cases hm
    | cons p ms ih =>
      rw [List.map_cons, List.nodup_cons] at h
      rcases List.mem_cons.1 hm with h1 | h1 <;> rcases List.mem_cons.1 hn with h2 | h2
      · rw [← h1] at h2; cases h2; rfl
      · exact absurd (List.mem_map_of_mem (f := fun p : K × V × Nat => p.1) h2) (by rw [← h1] at h; exact h.1)
      · exact absurd (List.mem_map_of_mem (f := fun p : K × V × Nat => p.1) h1) (by rw [← h2] at h; exact h.1)
      · have hne : p.1 ≠ k := fun e => h.1 (e ▸ List.mem_map_of_mem (f := fun p : K × V × Nat => p.1) h1)
        refine ih h.2 h1 ?_ h2
        unfold Abs.lkH fH at e
        obtain ⟨a, m, q⟩ := p
        rw [if_neg (fun g => hne g.symm)] at e
        unfold Abs.lkH
        cases hf : fH ms k with
        | none => rw [hf] at e; cases e
        | some q => rw [hf] at e; exact e
theorem Uq.iff (h : Uq ms) : Abs.lkH ms k = some v ↔ ∃ n, (k, v, n) ∈ ms := ⟨lkH_mem, fun ⟨_, hm⟩ => h.lkH hm⟩
/-- Nothing but the entry of a key is changed. -/
theorem upd_perm (h : Uq ms) : ∃ n, (updH ms c k v).Perm ((k, v, n) :: ms.filter fun p => decide (p.1 ≠ k)) := by
  unfold updH
  cases e : fH ms k with
  | none =>
    have h1 := fH_none.1 e
    refine ⟨c, ?_⟩
    have h2 : ms.filter (fun p => decide (p.1 ≠ k)) = ms := List.filter_eq_self.2 fun p hp => decide_eq_true (h1 p hp)
    rw [h2]
    exact (List.perm_append_comm).trans (List.Perm.refl _)
  | some q =>
    obtain ⟨i, w⟩ := q
    dsimp only
    induction ms generalizing i with
    | nil => cases e
    | cons p ms ih =>
      obtain ⟨a, m, q⟩ := p
      unfold Uq at h
      rw [List.map_cons, List.nodup_cons] at h
      unfold fH at e
      by_cases hk : k = a
      · subst hk
        rw [if_pos rfl] at e
        cases e
        refine ⟨q, ?_⟩
        have h2 : ms.filter (fun p => decide (p.1 ≠ k)) = ms := List.filter_eq_self.2 fun p hp => decide_eq_true fun g => h.1 (by show k ∈ _; rw [← g]; exact List.mem_map_of_mem (f := fun p : K × V × Nat => p.1) hp)
        rw [List.filter_cons_of_neg (by simp), h2]
        exact List.Perm.refl _
      · rw [if_neg hk] at e
        obtain ⟨⟨j, w2⟩, e1, e2⟩ := Option.map_eq_some_iff.1 e
        cases e2
        obtain ⟨n, hn⟩ := ih (h := h.2) (i := j) e1
        refine ⟨n, ?_⟩
        rw [List.filter_cons_of_pos (by simpa using fun g => hk g.symm)]
        exact (List.Perm.cons _ hn).trans (List.Perm.swap _ _ _)
theorem del_eq (h : Uq ms) : delH ms k = ms.filter fun p => decide (p.1 ≠ k) := by
  unfold delH
  cases e : fH ms k with
  | none =>
    have h1 := fH_none.1 e
    exact (List.filter_eq_self.2 fun p hp => decide_eq_true (h1 p hp)).symm
  | some q =>
    obtain ⟨i, w⟩ := q
    dsimp only
    induction ms generalizing i with
    | nil => cases e
    | cons p ms ih =>
      obtain ⟨a, m, q⟩ := p
      unfold Uq at h
      rw [List.map_cons, List.nodup_cons] at h
      unfold fH at e
      by_cases hk : k = a
      · subst hk
        rw [if_pos rfl] at e
        cases e
        have h2 : ms.filter (fun p => decide (p.1 ≠ k)) = ms := List.filter_eq_self.2 fun p hp => decide_eq_true fun g => h.1 (by show k ∈ _; rw [← g]; exact List.mem_map_of_mem (f := fun p : K × V × Nat => p.1) hp)
        rw [List.filter_cons_of_neg (by simp), h2]
        rfl
      · rw [if_neg hk] at e
        obtain ⟨⟨j, w2⟩, e1, e2⟩ := Option.map_eq_some_iff.1 e
        cases e2
        have hn := ih (h := h.2) (i := j) e1
        rw [List.filter_cons_of_pos (by simpa using fun g => hk g.symm), ← hn]
        rfl
theorem Uq.upd (h : Uq ms) : Uq (updH ms c k v) := by
  obtain ⟨n, hn⟩ := upd_perm (c := c) (k := k) (v := v) h
  unfold Uq
  rw [(hn.map _).nodup_iff, List.map_cons, List.nodup_cons]
  refine ⟨fun hm => ?_, h.sublist (List.filter_sublist.map _)⟩
  obtain ⟨p, hp, e⟩ := List.mem_map.1 hm
  have := (List.mem_filter.1 hp).2
  simp at this
  exact this e
theorem Uq.del (h : Uq ms) : Uq (delH ms k) := by
  rw [del_eq h]
  exact h.sublist (List.filter_sublist.map _)
theorem Born.upd (h : Born ms c) : Born (updH ms c k v) (updC ms c k) := by
  unfold updH updC
  cases fH ms k with
  | none => exact h.new
  | some q => exact h.set fun p => rfl
theorem Born.del (h : Born ms c) : Born (delH ms k) c := by
  unfold delH
  cases fH ms k with
  | none => exact h
  | some q => exact h.sub (List.eraseIdx_sublist _ _)
theorem lkH_upd (h : Uq ms) : Abs.lkH (updH ms c k v) k' = if k' = k then some v else Abs.lkH ms k' := by
  obtain ⟨n, hn⟩ := upd_perm (c := c) (k := k) (v := v) h
  have hu := h.upd (c := c) (k := k) (v := v)
  apply Option.ext
  intro w
  rw [hu.iff]
  by_cases e : k' = k
  · subst e
    rw [if_pos rfl]
    constructor
    · rintro ⟨m, hm⟩
      have := hu.lkH hm
      have h2 := hu.lkH (hn.mem_iff.2 (List.mem_cons_self ..))
      rw [this] at h2
      exact h2.symm
    · intro e; cases e
      exact ⟨n, hn.mem_iff.2 (List.mem_cons_self ..)⟩
  · rw [if_neg e, h.iff]
    constructor
    · rintro ⟨m, hm⟩
      rcases List.mem_cons.1 (hn.mem_iff.1 hm) with h1 | h1
      · cases h1; exact absurd rfl e
      · exact ⟨m, (List.mem_filter.1 h1).1⟩
    · rintro ⟨m, hm⟩
      exact ⟨m, hn.mem_iff.2 (List.mem_cons_of_mem _ (List.mem_filter.2 ⟨hm, by simpa using e⟩))⟩
variable {C : Ctx} {t : TypeId} {ek : K → Value} {ev : V → Value} {zv : Value}
theorem lookE_K (ht : KeyMap C t ek zv) (ms : List (K × V × Nat)) (k : K) (ok : Bool) :
    lookE C t (mkH ek ev ms) (ek k) ok = some (match Abs.lkH ms k with | some v => if ok then .tuple #[ev v, .bool true] else ev v | none => if ok then .tuple #[zv, .bool false] else zv) := by
  rw [lookE_H ht]
  unfold Abs.lkH
  cases fH ms k <;> rfl
theorem updE_K (ht : KeyMap C t ek zv) (ms : List (K × V × Nat)) (c : Nat) (k : K) (m : V) : updE C t (mkH ek ev ms) c (ek k) (ev m) = some (mkH ek ev (updH ms c k m), updC ms c k) := by
  unfold updH updC
  cases e : fH ms k with
  | none => exact updE_Hnew ht ms c k m e
  | some q => exact updE_Hold ht ms c q.1 k m q.2 e
theorem delE_K (ht : KeyMap C t ek zv) (ms : List (K × V × Nat)) (k : K) : delE C t (mkH ek ev ms) (ek k) = some (mkH ek ev (delH ms k)) := by
  rw [delE_H ht]
  unfold delH
  cases fH ms k <;> rfl
end
end Go.Proofs.Ytoimfchhmocgeaa.Abs

/- Slices of numbers that grow by append alone: one element more, elements set, cleared behind, cut. -/
namespace Go.Proofs.Ytoimfchhmocgeaa.Abs
open Go
set_option linter.unusedVariables false
def enV (x : Int) : List Value := [.int .i64 x]
theorem enV_len (x : Int) : (enV x).length = 1 := rfl
theorem enV_one (x : Int) : (enV x).all Value.oneCell' = true := rfl
/-- Made by append (or nil). -/
inductive OwnI : List Int → Value → Hp → Prop where
  | nil : OwnI [] (.slice none 0 0) []
  | emp (b : Nat) (o : AObj) : OwnI [] (.slice (some ⟨b, 0, none⟩) 0 0) [(b, o)]
  | el (L : List Int) (b es : Nat) (junk : List Value) : OwnI L (.slice (some ⟨b, 0, none⟩) L.length (EL + 1)) [(b, .row (L.flatMap enV ++ junk) es true)]
theorem OwnI.own {L : List Int} {v : Value} {G : Hp} (h : OwnI L v G) : Own enV 1 L v G := by
  cases h with
  | nil => exact .nil
  | emp b o => exact .emp b o
  | el _ b es junk => exact .el L b es junk
theorem flV (L : List Int) : (L.flatMap enV).length = L.length := by
  have := flat_length (en := enV) (k := 1) enV_len L
  rwa [Nat.mul_one] at this
section
variable {C : Ctx} {hd : HH Prop} {l : Sl} {H H0 pre Hs : Hp} {x y : Operand} {Θ : Value → Hp → Prop} {L : List Int} {v : Value} {t e st xt : TypeId}
theorem st_appI {by' c a : Nat} {z : Int} (h : OwnI L v Hs) (hx : evalL l x = some v) (hy : evalL l y = some (.slice (some ⟨a, 0, none⟩) 1 c)) (ht : appT C st xt = some (1, by')) (ha : ArrW C (pre ++ (Hs ++ H0)) (some ⟨a, 0, none⟩) 1 enV [z])
    (hb : (2 * (L.length + 1) + 192) * (by' + 1) ≤ 281474976710656) (hk : ∀ v' Hs', OwnI (L ++ [z]) v' Hs' → Θ v' (pre ++ (Hs' ++ H0))) :
    StepT C hd (.call { callee := .builtin .append, args := #[x, y], argTypes := #[st, xt] }) l (pre ++ (Hs ++ H0)) Θ := by
  have hone' : (([z] : List Int).flatMap enV).all Value.oneCell' = true := rfl
  refine st_W (cov2 hx hy) rfl (fun _ => rfl) rfl fun s hm => ?_
  have hsrc := ha.src (c := c) (by simp)
  have hlL := flV L
  have hnew : ∀ b' : Nat, OwnI (L ++ [z]) (.slice (some ⟨b', 0, none⟩) (L.length + 1) (EL + 1)) [(b', .row (L.flatMap enV ++ [z].flatMap enV) 1 true)] := fun b' => by
    have := OwnI.el (L ++ [z]) b' 1 []
    rwa [List.append_nil, List.flatMap_append, List.length_append] at this
  have run : aappend C s st xt (rhoL l x) (rhoL l y) = appendTo C s 1 by' 1 ([z].flatMap enV) v := by
    rw [rhoL_eq hx, rhoL_eq hy]
    exact aappend_is (n := 1) ht hsrc hm (by decide) hone'
  show ∃ v' H' s', aappend C s st xt (rhoL l x) (rhoL l y) = some (v', s') ∧ MS C H' s' ∧ Θ v' H'
  rw [run]
  cases h with
  | nil =>
    refine ⟨.slice (some ⟨s.next, 0, none⟩) 1 (EL + 1), _, _, ?_, ((hm.sub mid_sub).alloc (.row ([z].flatMap enV) 1 true)).perm mid_perm.symm, hk _ [(s.next, .row ([z].flatMap enV) 1 true)] ?_⟩
    · simp only [appendTo]
      rw [if_pos (by simpa using hb)]
    · have := hnew s.next
      simpa using this
  | emp b o =>
    refine ⟨.slice (some ⟨s.next, 0, none⟩) 1 (EL + 1), _, _, ?_, ((hm.sub mid_sub).alloc (.row ([z].flatMap enV) 1 true)).perm mid_perm.symm, hk _ [(s.next, .row ([z].flatMap enV) 1 true)] ?_⟩
    · simp only [appendTo]
      rw [if_pos (by simpa using hb), if_neg (by unfold EL; omega), if_neg (by decide), if_neg (by omega)]
      simp [oldCells]
    · have := hnew s.next
      simpa using this
  | el _ b es junk =>
    obtain ⟨g1, g2, g3⟩ := hm.has b _ hm_mid
    have hcs : (L.flatMap enV ++ junk).length = L.length + junk.length := by rw [List.length_append, hlL]
    by_cases hroom : 0 + (L.length + 1) * 1 ≤ (L.flatMap enV ++ junk).length
    · have hj : 1 ≤ junk.length := by rw [hcs] at hroom; omega
      have hst : storeRow (L.flatMap enV ++ junk) (0 + L.length * 1) ([z].flatMap enV) = some ((L ++ [z]).flatMap enV ++ junk.drop 1) := by
        have e1 : Nat.ble (0 + L.length * 1 + ([z].flatMap enV).length) (L.flatMap enV ++ junk).length = true := Nat.ble_eq_true_of_le (by rw [hcs]; show _ + 1 ≤ _; omega)
        simp only [storeRow, e1, hone']
        rw [Nat.zero_add, Nat.mul_one, ← hlL, List.take_left' rfl, List.flatMap_append, List.append_assoc]
        show some (_ ++ (_ ++ List.drop (_ + 1) _)) = _
        rw [← List.drop_drop, List.drop_left' rfl]
      refine ⟨_, _, _, ?_, hm.swap swap_mid, hk _ _ (.el (L ++ [z]) b es (junk.drop 1))⟩
      simp only [appendTo]
      rw [if_pos hb, if_pos trivial]
      simp only [appendEl, g3]
      rw [if_neg (Nat.not_lt.2 g1), if_pos hroom]
      simp only [putCells, Nat.ble_eq_true_of_le g1, g3, hst, Option.map_some, List.length_append, List.length_singleton]
    · refine ⟨_, _, _, ?_, ((hm.kill del_mid).alloc (.row (L.flatMap enV ++ [z].flatMap enV) 1 true)).perm mid_perm.symm, hk _ _ (hnew s.next)⟩
      simp only [appendTo]
      rw [if_pos hb, if_pos trivial]
      simp only [appendEl, g3]
      rw [if_neg (Nat.not_lt.2 g1), if_neg hroom, if_pos ⟨trivial, by rw [hcs]; omega⟩, Nat.mul_one, ← hlL, List.take_left' rfl]
/-- Numbers appended to an empty slice. -/
theorem st_appE {by' c b : Nat} {o : AObj} {ad : Option Addr} {M : List Int} (hx : evalL l x = some (.slice (some ⟨b, 0, none⟩) 0 0)) (hy : evalL l y = some (.slice ad M.length c)) (ht : appT C st xt = some (1, by')) (ha : ArrW C (pre ++ ([(b, o)] ++ H0)) ad 1 enV M)
    (hb : (2 * (0 + M.length) + 192) * (by' + 1) ≤ 281474976710656) (hk : ∀ v' Hs', OwnI M v' Hs' → Θ v' (Hs' ++ (pre ++ H0))) :
    StepT C hd (.call { callee := .builtin .append, args := #[x, y], argTypes := #[st, xt] }) l (pre ++ ([(b, o)] ++ H0)) Θ := by
  have hone' : (M.flatMap enV).all Value.oneCell' = true := one_flat enV_one
  refine st_W (cov2 hx hy) rfl (fun _ => rfl) rfl fun s hm => ?_
  by_cases hM : M = []
  · subst hM
    refine ⟨_, _, s, ?_, hm.perm mid_perm.symm, hk _ _ (.emp b o)⟩
    show aappend C s st xt (rhoL l x) (rhoL l y) = _
    rw [rhoL_eq hx, rhoL_eq hy, aappend_none ht rfl]
  have hn : M.length ≠ 0 := fun h => hM (List.eq_nil_of_length_eq_zero h)
  have hsrc := ha.src (c := c) hM
  have hnew : ∀ b' : Nat, OwnI M (.slice (some ⟨b', 0, none⟩) M.length (EL + 1)) [(b', .row (M.flatMap enV) 1 true)] := fun b' => by
    have := OwnI.el M b' 1 []
    rwa [List.append_nil] at this
  have run : aappend C s st xt (rhoL l x) (rhoL l y) = appendTo C s 1 by' M.length (M.flatMap enV) (.slice (some ⟨b, 0, none⟩) 0 0) := by
    rw [rhoL_eq hx, rhoL_eq hy, aappend_is ht hsrc hm hn hone']
  show ∃ v' H' s', aappend C s st xt (rhoL l x) (rhoL l y) = some (v', s') ∧ MS C H' s' ∧ Θ v' H'
  rw [run]
  refine ⟨.slice (some ⟨s.next, 0, none⟩) M.length (EL + 1), _, _, ?_, (hm.sub mid_sub).alloc (.row (M.flatMap enV) 1 true), hk _ [(s.next, .row (M.flatMap enV) 1 true)] (hnew s.next)⟩
  simp only [appendTo]
  rw [if_pos (by simpa using hb), if_neg (by unfold EL; omega), if_neg (by decide), if_neg (by omega)]
  simp [oldCells]
/-- An element is set. -/
theorem OwnI.set (h : OwnI L v Hs) {i : Nat} {a a' : Int} (hi : L[i]? = some a) (hn : sizeAt C t = some 1) : ∃ Hs', OwnI (L.set i a') v Hs' ∧ ∃ b c, v = .slice (some ⟨b, 0, none⟩) L.length c ∧ ∀ pre H0, StP C t b (0 + i * 1 + 0) (.int .i64 a') (pre ++ (Hs ++ H0)) (pre ++ (Hs' ++ H0)) := by
  have hlt := (List.getElem?_eq_some_iff.1 hi).1
  cases h with
  | nil => exact absurd hlt (by simp)
  | emp b o => exact absurd hlt (by simp)
  | el _ b es junk =>
    refine ⟨[(b, .row ((L.set i a').flatMap enV ++ junk) es true)], ?_, b, _, rfl, fun pre H0 => stP_mid hn rfl (flat_set (en := enV) (a' := a') enV_len hi rfl) pre⟩
    have := OwnI.el (L.set i a') b es junk
    rwa [List.length_set] at this
/-- What lies behind an index is cleared; the rest is cut off. -/
theorem OwnI.clr (h : OwnI L v Hs) {i : Nat} (hi : i < L.length) (hu : C.P.underlying t = some (.slice e)) (hn : sizeAt C e = some 1) (hz : zeroCellsOf C e = some #[.int .i64 0]) :
    ∃ xs w Hs', aslice C t v (some (.int .i64 (i : Int))) none none = some xs ∧ aslice C t v none (some (.int .i64 (i : Int))) none = some w ∧ OwnI (L.take i) w Hs' ∧
      ∀ (pre H0 : Hp) (hd : HH Prop) (l : Sl) (x : Operand) (ts : Array TypeId) (Θ : Value → Hp → Prop), ts.toList = [t] → evalL l x = some xs → Θ (.tuple #[]) (pre ++ (Hs' ++ H0)) →
        StepT C hd (.call { callee := .builtin .clear, args := #[x], argTypes := ts }) l (pre ++ (Hs ++ H0)) Θ := by
  cases h with
  | nil => exact absurd hi (by simp)
  | emp b o => exact absurd hi (by simp)
  | el _ b es junk =>
    have hlL := flV L
    have hcut : ∀ m q, m ≤ q → q ≤ L.length → ∀ lo hi : Option Value, (lo.bind natOf = some m ∨ lo = none ∧ m = 0) → (hi.bind natOf = some q ∨ hi = none ∧ q = L.length) →
        aslice C t (.slice (some ⟨b, 0, none⟩) L.length (EL + 1)) lo hi none = cutSlice C 1 (EL + 1) true (some ⟨b, 0, none⟩) (m, q, L.length) := fun m q h1 h2 lo hi h5 h6 => by
      simp only [aslice, hu, hn]
      rw [if_pos (Nat.le_add_right _ _), if_pos trivial, bnds_is h1 h2 h5 h6]
      rfl
    have hnat : natOf (.int .i64 (i : Int)) = some i := by simp [natOf]
    have e1 := hcut i L.length (by omega) (Nat.le_refl _) (some (.int .i64 (i : Int))) none (.inl hnat) (.inr ⟨rfl, rfl⟩)
    have e2 := hcut 0 i (Nat.zero_le _) (by omega) none (some (.int .i64 (i : Int))) (.inr ⟨rfl, rfl⟩) (.inl hnat)
    have e1' : aslice C t (.slice (some ⟨b, 0, none⟩) L.length (EL + 1)) (some (.int .i64 (i : Int))) none none = some (.slice (some ⟨b, i, none⟩) (L.length - i) (EL + 1)) := by
      rw [e1]
      by_cases h0 : i = 0
      · subst h0; simp [cutSlice]
      · have : ¬ i = L.length := by omega
        simp [cutSlice, h0, this]
    have e2' : aslice C t (.slice (some ⟨b, 0, none⟩) L.length (EL + 1)) none (some (.int .i64 (i : Int))) none = some (.slice (some ⟨b, 0, none⟩) i (EL + 1)) := by
      rw [e2]; simp [cutSlice]
    have hlt : (L.take i).length = i := by rw [List.length_take]; omega
    refine ⟨_, _, [(b, .row ((L.take i).flatMap enV ++ (List.replicate (L.length - i) (.int .i64 0) ++ junk)) es true)], e1', e2', ?_, ?_⟩
    · have := OwnI.el (L.take i) b es (List.replicate (L.length - i) (.int .i64 0) ++ junk)
      rwa [hlt] at this
    · intro pre H0 hd l x ts Θ hts hx hk
      obtain ⟨ts⟩ := ts
      simp only at hts
      subst hts
      refine st_W (cov1 hx) rfl (fun _ => rfl) rfl fun s hm => ?_
      obtain ⟨g1, g2, g3⟩ := hm.has b _ hm_mid
      have hA : ((L.take i).flatMap enV).length = i := by rw [flV, hlt]
      have hsplit : L.flatMap enV ++ junk = (L.take i).flatMap enV ++ ((L.drop i).flatMap enV ++ junk) := by
        rw [← List.append_assoc, ← List.flatMap_append, List.take_append_drop]
      have hB : ((L.drop i).flatMap enV).length = L.length - i := by rw [flV, List.length_drop]
      obtain ⟨m, hm1⟩ : ∃ m, L.length - i = m + 1 := ⟨L.length - i - 1, by omega⟩
      have hrep : (List.replicate (m + 1) (#[Value.int .i64 0]).toList).flatten = List.replicate (m + 1) (Value.int .i64 0) := by
        show (List.replicate (m + 1) [Value.int .i64 0]).flatten = _
        induction m + 1 with
        | zero => rfl
        | succ k ih => rw [List.replicate_succ, List.flatten_cons, ih, List.replicate_succ]; rfl
      have hst : storeRow (L.flatMap enV ++ junk) i (List.replicate (m + 1) (Value.int .i64 0)) = some ((L.take i).flatMap enV ++ (List.replicate (L.length - i) (.int .i64 0) ++ junk)) := by
        have e1 : Nat.ble (i + (List.replicate (m + 1) (Value.int .i64 0)).length) (L.flatMap enV ++ junk).length = true := Nat.ble_eq_true_of_le (by rw [List.length_replicate, List.length_append, hlL]; omega)
        have e2 : (List.replicate (m + 1) (Value.int .i64 0)).all Value.oneCell' = true := by simp [Value.oneCell']
        simp only [storeRow, e1, e2]
        rw [List.length_replicate, hsplit, List.take_left' hA, ← List.drop_drop, List.drop_left' hA, ← hm1, List.drop_left' hB]
      refine ⟨.tuple #[], _, _, ?_, hm.swap swap_mid, hk⟩
      show (aclear C s t (rhoL l x)).map _ = _
      rw [rhoL_eq hx]
      unfold aclear
      simp only [hu]
      rw [hm1]
      simp only [hz, hrep]
      have hbl : Nat.blt 0 (#[Value.int .i64 0] : Array Value).size = true := rfl
      rw [hm1] at hst
      simp only [hbl, putCells, Nat.ble_eq_true_of_le g1, g3, hst, Option.map_some]
end
end Go.Proofs.Ytoimfchhmocgeaa.Abs
