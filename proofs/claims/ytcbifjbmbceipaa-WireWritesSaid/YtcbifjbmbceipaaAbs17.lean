/- Regions: in the order of the text, and in any order. -/
import Derived.Test.YtcbifjbmbceipaaAbs16
namespace Go.Proofs.Ytcbifjbmbceipaa.Abs
open Go
set_option linter.unusedSectionVars false
variable [Tok]
set_option linter.unusedSimpArgs false

section
variable {C : Ctx} {w0 : World}

theorem back_get {md : Region.Mode} : ∀ (ops : List Oper) (k : Nat), backEdges md k ops = true → ∀ (i : Nat) (o : Oper), ops[i]? = some o → ∀ e ∈ o.after.toList, Region.binds md e = true → e.on < k + i
  | [], _, _, i, o, h, _, _, _ => by simp at h
  | x :: ops, k, h, 0, o, ho, e, he, hb => by
    simp only [backEdges, Bool.and_eq_true, List.all_eq_true] at h
    simp only [List.getElem?_cons_zero, Option.some.injEq] at ho
    subst ho
    have := h.1 e he
    rw [hb] at this
    exact Nat.le_of_ble_eq_true this
  | x :: ops, k, h, i + 1, o, ho, e, he, hb => by
    simp only [backEdges, Bool.and_eq_true] at h
    have := back_get ops (k + 1) h.2 i o (by simpa using ho) e he hb
    omega

def unl (n : Nat) (listed : Array Bool) : Nat := ((List.range n).filter fun i => !listed.getD i false).length

theorem filter_lt {α : Type} {p q : α → Bool} : ∀ (l : List α), (∀ x, q x = true → p x = true) → (∃ x ∈ l, p x = true ∧ q x = false) → (l.filter q).length < (l.filter p).length
  | [], _, ⟨x, hx, _⟩ => by simp at hx
  | y :: l, h, ⟨x, hx, h1, h2⟩ => by
    have hle : (l.filter q).length ≤ (l.filter p).length := by
      clear hx h1 h2
      induction l with
      | nil => simp
      | cons z l ih =>
        simp only [List.filter_cons]
        split
        · rename_i hq
          rw [if_pos (h z hq)]
          simp only [List.length_cons]; omega
        · split
          · simp only [List.length_cons]; omega
          · exact ih
    simp only [List.filter_cons]
    rcases List.mem_cons.1 hx with rfl | hx
    · rw [if_neg (by simp [h2]), if_pos h1]; simp only [List.length_cons]; omega
    · have ih := filter_lt l h ⟨x, hx, h1, h2⟩
      split
      · rename_i hq
        rw [if_pos (h y hq)]; simp only [List.length_cons]; omega
      · split
        · simp only [List.length_cons]; omega
        · exact ih

theorem getD_set (listed : Array Bool) (i j : Nat) (hi : i < listed.size) : (listed.setIfInBounds i true).getD j false = if j = i then true else listed.getD j false := by
  by_cases e : j = i
  · subst e; simp [hi]
  · rw [if_neg e, Array.getD_eq_getD_getElem?, Array.getD_eq_getD_getElem?, Array.getElem?_setIfInBounds_ne (Ne.symm e)]

theorem unl_set {n i : Nat} {listed : Array Bool} (hs : listed.size = n) (hi : i < n) (h : listed.getD i false = false) : unl n (listed.setIfInBounds i true) < unl n listed := by
  refine filter_lt (List.range n) (fun x hx => ?_) ⟨i, by simpa using hi, by simp only [h]; rfl, by simp only [getD_set listed i i (by omega), if_true]; rfl⟩
  simp only [getD_set listed i x (by omega)] at hx
  split at hx
  · cases hx
  · exact hx

variable {ops : Array Oper} {masks plan : List Nat} {fr0 fr : Fr} {pre : List Ent} {rest : List Nat} {reads : List Ent} {s : St} {φ : Nat → Option Loc} {S : Nat → Bool} {a : Act} {w : World}

/-- The interpreter goes on alone to the next operation of the spine. -/
theorem advance {hd : HH Prop} {k : Fr → St → Prop} (hp : pairsOk ops.toList masks plan = true) : ∀ (rest : List Nat) (pre : List Ent) (reads : List Ent) (fr : Fr),
    Inv C w0 ops masks plan fr0 pre rest reads fr s φ S a w → runPlan C ansP hd ops masks rest reads fr s k →
    ∃ pre' rest' reads' fr', Inv C w0 ops masks plan fr0 pre' rest' reads' fr' s φ S a w ∧ ((rest' = [] ∧ k fr' s) ∨ ∃ i o m r, rest' = i :: r ∧ ops.toList[i]? = some o ∧ masks[i]? = some m ∧
      awanted ops o fr' = some true ∧ isFloat o.op = false ∧ o.op.operands.toList.all okOperand = true ∧
      aop C ansP hd s o.op fr'.eval fun v s' => recheck C ansP m s' reads' (runPlan C ansP hd ops masks r reads' (fr'.put o.dst v) s' k))
  | [], pre, reads, fr, I, h => ⟨pre, [], reads, fr, I, .inl ⟨rfl, h⟩⟩
  | i :: rest, pre, reads, fr, I, h => by
    unfold runPlan at h
    split at h
    case h_2 => exact h.elim
    rename_i o m ho hm
    split at h
    · exact h.elim
    · rename_i hw
      exact advance hp rest _ reads _ (inv_float I hp ho (fun _ h2 => by rw [hw] at h2; cases h2) (.inl ⟨hw, rfl⟩) (fun _ h => h) (fun h2 => by rw [hw] at h2; cases h2)) h
    · rename_i hw
      split at h
      · exact h.elim
      · rename_i hfl hok
        split at h
        · rename_i v hv
          exact advance hp rest _ reads _ (inv_float I hp ho (fun h1 _ => by rw [hfl] at h1; cases h1) (.inr ⟨hw, hfl, hok, .inl hv⟩) (fun _ h => h) (fun _ h2 => by rw [hv] at h2; cases h2)) h
        · rename_i hP
          split at h
          · rename_i v hv
            exact advance hp rest _ _ _ (inv_float I hp ho (fun h1 _ => by rw [hfl] at h1; cases h1) (.inr ⟨hw, hfl, hok, .inr ⟨hP, hv⟩⟩) (fun _ h => List.mem_cons_of_mem _ h) (fun _ _ => List.mem_cons_self ..)) h
          · exact h.elim
      · rename_i hfl hok
        exact ⟨pre, i :: rest, reads, fr, I, .inr ⟨i, o, m, rest, rfl, ho, hm, hw, hfl, hok, h⟩⟩

theorem nodup_rest {i : Nat} (I : Inv C w0 ops masks plan fr0 pre (i :: rest) reads fr s φ S a w) (hp : pairsOk ops.toList masks plan = true) : i ∉ ids pre := fun h => by
  obtain ⟨e, he, rfl⟩ := List.mem_map.1 h
  obtain ⟨p1, p2, rfl⟩ := List.append_of_mem he
  exact pair_ne (pairs_get (p := ids p1) (x := e.i) (q := ids p2 ++ e.i :: rest) (y := e.i) (by
    have : ids p1 ++ e.i :: (ids p2 ++ e.i :: rest) = plan := by rw [I.plan]; simp [ids]
    rw [this]; exact hp) (by simp)) rfl

theorem frD_full (h : ∀ e ∈ pre, S e.i = true) (hf : FrR φ s.next (frD S pre fr0) a) : FrR φ s.next (frAll pre fr0) a := by
  refine ⟨by have := hf.defers; rw [frAll_eq]; simpa only [frD_marks] using this, by rw [hf.size, frAll_eq, frD_nt, frD_nt], fun t => ?_⟩
  have : (frAll pre fr0).get t = (frD S pre fr0).get t := by
    rw [frAll_eq]
    exact (frD_agree pre fr0 fr0 rfl rfl fun e he _ => h e he).symm
  rw [this]
  exact hf.tmps t

theorem ready_mem {md : Region.Mode} {listed : Array Bool} {i : Nat} (hs : listed.size = ops.size) (hmd : ∀ e, Region.binds .any e = true → Region.binds md e = true) (h : i ∈ Region.ready md ops listed) :
    i < ops.size ∧ listed.getD i false = false ∧ ∃ o, ops.toList[i]? = some o ∧ ∀ e ∈ o.after.toList, Region.binds .any e = true → listed.getD e.on false = true := by
  unfold Region.ready at h
  simp only [List.mem_filter, List.mem_range, Bool.and_eq_true, Bool.not_eq_true'] at h
  obtain ⟨h1, h2, h3⟩ := h
  refine ⟨h1, ?_, ?_⟩
  · rw [Array.getD_eq_getD_getElem?] at h2 ⊢
    rw [Array.getElem?_eq_getElem (by omega)] at h2 ⊢
    simpa using h2
  · have ho : ops[i]? = some ops[i] := Array.getElem?_eq_getElem h1
    rw [ho] at h3
    simp only [Option.map_some, Option.getD_some] at h3
    refine ⟨ops[i], by simp, fun e he hb => ?_⟩
    have := Array.all_eq_true'.1 h3 e (by simpa using he)
    rw [hmd e hb] at this
    simpa using this

theorem ready_one {md : Region.Mode} {listed : Array Bool} (hs : listed.size = ops.size) (h : Region.ready md ops listed = []) {i : Nat} {o : Oper} (ho : ops[i]? = some o)
    (hd : ∀ e ∈ o.after.toList, Region.binds md e = true → listed.getD e.on false = true) : listed.getD i false = true := by
  have hi : i < ops.size := (Array.getElem?_eq_some_iff.1 ho).1
  cases hl : listed.getD i false with
  | true => rfl
  | false =>
    exfalso
    have hmem : i ∈ Region.ready md ops listed := by
      unfold Region.ready
      simp only [List.mem_filter, List.mem_range, Bool.and_eq_true, Bool.not_eq_true']
      refine ⟨hi, ?_, ?_⟩
      · rw [Array.getD_eq_getD_getElem?] at hl ⊢
        rw [Array.getElem?_eq_getElem (by omega)] at hl ⊢
        simpa using hl
      · rw [ho]
        simp only [Option.map_some, Option.getD_some]
        refine Array.all_eq_true'.2 fun e he => ?_
        cases hb : Region.binds md e with
        | false => rfl
        | true => rw [hd e (by simpa using he) hb]; rfl
    rw [h] at hmem
    simp at hmem

theorem topo_all {md : Region.Mode} {listed : Array Bool} (hs : listed.size = ops.size) (h : Region.ready md ops listed = []) : ∀ (l seen : List Nat), topoOk md ops.toList seen l = true → (∀ j ∈ seen, listed.getD j false = true) → ∀ i ∈ l, listed.getD i false = true
  | [], _, _, _, i, hi => by simp at hi
  | x :: l, seen, ht, hsn, i, hi => by
    unfold topoOk at ht
    split at ht
    · rename_i o ho
      simp only [Bool.and_eq_true, List.all_eq_true] at ht
      have hx : listed.getD x false = true := ready_one hs h (o := o) (by simpa using ho) fun e he hb => by
        have := ht.1 e he
        rw [hb] at this
        exact hsn e.on (by simpa using this)
      have hsn' : ∀ j ∈ x :: seen, listed.getD j false = true := fun j hj => by
        rcases List.mem_cons.1 hj with rfl | hj
        · exact hx
        · exact hsn j hj
      rcases List.mem_cons.1 hi with rfl | hi
      · exact hx
      · exact topo_all hs h l (x :: seen) ht.2 hsn' i hi
    · cases ht

theorem ready_nil {md : Region.Mode} {listed : Array Bool} (hs : listed.size = ops.size) (hb : orderOk md ops = true) (h : Region.ready md ops listed = []) : ∀ i, i < ops.size → listed.getD i false = true := by
  unfold orderOk at hb
  split at hb
  · rename_i heq
    intro i
    induction i using Nat.strongRecOn with
    | _ i ih =>
      intro hi
      refine ready_one hs h (Array.getElem?_eq_getElem hi) fun e he hbe => ?_
      have hlt := back_get ops.toList 0 heq i ops[i] (by simp) e he hbe
      exact ih e.on (by omega) (by omega)
  · simp only [Bool.and_eq_true, List.all_eq_true, List.mem_range] at hb
    intro i hi
    exact topo_all hs h _ [] hb.2 (fun j hj => by simp at hj) i (by simpa using hb.1 i hi)

theorem plan_sound {F : Fence} (hF : FW F) {hd : HH Prop} (hH : HHS C w0 hd) (n : Nat) {md : Region.Mode} (hmd : ∀ e, Region.binds .any e = true → Region.binds md e = true)
    (hp : pairsOk ops.toList masks plan = true) (hmk : MasksOk ops.toList masks) (hcov : ∀ i, i < ops.size → i ∈ plan) (hb : orderOk md ops = true)
    {k : Fr → St → Prop} {Q : Exit → Act → World → Prop} {φ0 : Nat → Option Loc} {N0 : Nat}
    (hQ : ∀ fr' s' φ' a' w', Rel C w0 φ' s' w' → Later φ0 N0 φ' s'.next → FrR φ' s'.next fr' a' → k fr' s' → Q .normal a' w') :
    ∀ (fuel : Nat) (listed : Array Bool) (pre : List Ent) (rest : List Nat) (reads : List Ent) (fr : Fr) (s : St) (φ : Nat → Option Loc) (a : Act) (w : World), listed.size = ops.size → unl ops.size listed ≤ fuel →
      Later φ0 N0 φ s.next → Inv C w0 ops masks plan fr0 pre rest reads fr s φ (fun i => listed.getD i false) a w → runPlan C ansP hd ops masks rest reads fr s k →
      wpAnyIn F n C.P md ops Q fuel listed a w := by
  intro fuel
  induction fuel with
  | zero =>
    intro listed pre rest reads fr s φ a w hs hu hL I h
    have hall : ∀ i, i < ops.size → listed.getD i false = true := fun i hi => by
      cases hl : listed.getD i false with
      | true => rfl
      | false =>
        have : i ∈ (List.range ops.size).filter fun i => !listed.getD i false := by simp only [List.mem_filter, List.mem_range, hl]; exact ⟨hi, rfl⟩
        have := List.length_pos_of_mem this
        unfold unl at hu
        omega
    obtain ⟨pre', rest', reads', fr', I', h'⟩ := advance hp rest pre reads fr I h
    refine ⟨?_, ?_⟩
    · cases hr : Region.ready md ops listed with
      | nil => rfl
      | cons x xs =>
        obtain ⟨h1, h2, _⟩ := ready_mem hs hmd (i := x) (by rw [hr]; simp)
        rw [hall x h1] at h2; cases h2
    · rcases h' with ⟨rfl, hk⟩ | ⟨i, o, m, r, rfl, ho, _, _, _, _, _⟩
      · have hf := frD_full (fun e he => hall e.i (by have := (List.getElem?_eq_some_iff.1 (I'.ent e he)).1; simpa using this)) I'.frr
        rw [← I'.cur] at hf
        exact hQ fr' s φ a w I'.rel hL hf hk
      · have hi : i < ops.size := by have := (List.getElem?_eq_some_iff.1 ho).1; simpa using this
        exact absurd (I'.sub i (hall i hi)) (nodup_rest I' hp)
  | succ fuel ih =>
    intro listed pre rest reads fr s φ a w hs hu hL I h
    obtain ⟨pre', rest', reads', fr', I', h'⟩ := advance hp rest pre reads fr I h
    refine ⟨fun hr => ?_, fun i hi => ?_⟩
    · have hall := ready_nil hs hb hr
      rcases h' with ⟨rfl, hk⟩ | ⟨i, o, m, r, rfl, ho, _, _, _, _, _⟩
      · have hf := frD_full (fun e he => hall e.i (by have := (List.getElem?_eq_some_iff.1 (I'.ent e he)).1; simpa using this)) I'.frr
        rw [← I'.cur] at hf
        exact hQ fr' s φ a w I'.rel hL hf hk
      · have hi : i < ops.size := by have := (List.getElem?_eq_some_iff.1 ho).1; simpa using this
        exact absurd (I'.sub i (hall i hi)) (nodup_rest I' hp)
    · obtain ⟨hi1, hi2, o, ho, hready⟩ := ready_mem hs hmd hi
      have hset : ∀ j, (listed.setIfInBounds i true).getD j false = if j = i then true else listed.getD j false := fun j => getD_set listed i j (by omega)
      have hSeq : (fun j => (listed.setIfInBounds i true).getD j false) = fun j => if j = i then true else listed.getD j false := funext hset
      have hu' : unl ops.size (listed.setIfInBounds i true) ≤ fuel := by have := unl_set hs hi1 hi2; omega
      have hs' : (listed.setIfInBounds i true).size = ops.size := by simpa using hs
      by_cases hin : i ∈ ids pre'
      · -- run by the interpreter already
        obtain ⟨e, he, rfl⟩ := List.mem_map.1 hin
        obtain ⟨p, q, hpq⟩ := List.append_of_mem he
        have he2 := I'.ent e he
        rw [ho] at he2
        have heo : o = e.o := Option.some.inj he2
        refine late_step hF n I' hp hmk hpq (by rw [← heo]; exact hready) hi2 _ Q fun a' I2 => ?_
        -- the interpreter stands where it stood
        rcases h' with ⟨rfl, hk⟩ | ⟨i2, o2, m2, r2, rfl, ho2, hm2, hw2, hfl2, hok2, hrun2⟩
        · exact ih _ pre' [] reads' fr' s φ a' w hs' hu' hL (by rw [hSeq]; exact I2) hk
        · refine ih _ pre' (i2 :: r2) reads' fr' s φ a' w hs' hu' hL (by rw [hSeq]; exact I2) ?_
          unfold runPlan
          rw [ho2, hm2]
          simp only [hw2, hfl2, hok2]
          exact hrun2
      · -- the next one of the spine
        have hinr : i ∈ rest' := by
          have := hcov i hi1
          rw [I'.plan] at this
          exact (List.mem_append.1 this).resolve_left hin
        rcases h' with ⟨rfl, _⟩ | ⟨i2, o2, m2, r2, rfl, ho2, hm2, hw2, hfl2, hok2, hrun2⟩
        · simp at hinr
        · have hii : i = i2 := by
            rcases List.mem_cons.1 hinr with h5 | h5
            · exact h5
            · exfalso
              have hpo := pairs_get (p := ids pre') (x := i2) (q := r2) (y := i) (by rw [← I'.plan]; exact hp) h5
              obtain ⟨m, hm, hbit⟩ := pair_anc hpo ho2 ho (.inl hfl2)
              have := anc_ready hmk I'.down hm ho hready hbit
              exact nodup_rest I' hp (I'.sub i2 this)
          subst hii
          rw [ho] at ho2
          cases ho2
          have hnames : ∀ t, t ∈ namesOf ops.toList o → VR φ s.next (fr'.get t) (a.tmps.getD t undef) := fun t ht => by
            have := names_rel I' hp hmk (p := pre') (q := []) ho hready hi2 (by simp) I'.cur ⟨r2, by rw [I'.plan], fun e he => by simp at he⟩ ht
            rw [← this]; exact I'.frr.tmps t
          have hw : Region.wanted o (yielded ops a.tmps) = true := wanted_rel hw2 fun j want g d h1 h2 h3 => hnames d (names_guard h1 h2 h3)
          have hρ : RhoR φ s.next o.op fr'.eval a.eval := fun x hx => eval_rel (List.all_eq_true.1 hok2 x hx) fun t e5 => hnames t (names_operand (by rw [← e5]; exact hx))
          unfold wpOpIn
          have ho' : ops[i]? = some o := by simpa using ho
          rw [ho']
          simp only [hw, if_true]
          refine aop_sound hF hH I'.rel hρ hrun2 n _ Q fun v v' φ2 s2 w2 hst hv hk2 => ?_
          obtain ⟨hk3, hre⟩ := recheck_ok _ hk2
          refine ih _ (pre' ++ [⟨i, o, fr', v⟩]) r2 reads' (fr'.put o.dst v) s2 φ2 _ w2 hs' hu' (hL.trans hst.later) ?_ hk3
          rw [hSeq]
          have hnot := nodup_rest I' hp
          have hpne : ∀ e ∈ pre', e.i ≠ i := fun e he e5 => hnot (List.mem_map.2 ⟨e, he, e5⟩)
          have hfr : frD (fun j => if j = i then true else listed.getD j false) (pre' ++ [⟨i, o, fr', v⟩]) fr0 = (frD (fun j => if j = i then true else listed.getD j false) pre' fr0).put o.dst v := by
            rw [frD_append, frD_cons]; simp only [if_true]; rfl
          have hget : ∀ t, (frD (fun j => if j = i then true else listed.getD j false) pre' fr0).get t = (frD (fun j => listed.getD j false) pre' fr0).get t := fun t =>
            frD_agree pre' fr0 fr0 rfl rfl fun e he _ => by simp only [if_neg (hpne e he)]
          refine { plan := by rw [I'.plan]; simp [ids], ent := ?_, frs := ?_, cur := ?_, sub := ?_, spine := ?_, late := ?_, reads := ?_, rel := hst.rel, frr := ?_, down := ?_ }
          · intro e he
            rcases List.mem_append.1 he with h5 | h5
            · exact I'.ent e h5
            · simp only [List.mem_singleton] at h5; subst h5; exact ho
          · intro p e q hpq
            rcases List.append_eq_append_iff.1 hpq with ⟨t, h1, h2⟩ | ⟨t, h1, h2⟩
            · cases t with
              | nil =>
                simp only [List.nil_append, List.cons.injEq] at h2
                obtain ⟨rfl, rfl⟩ := h2
                simp only [List.append_nil] at h1
                subst h1
                exact I'.cur
              | cons x t => simp at h2
            · cases t with
              | nil =>
                simp only [List.nil_append, List.cons.injEq, List.append_nil] at h1 h2
                obtain ⟨rfl, rfl⟩ := h2
                subst h1
                exact I'.cur
              | cons x t =>
                simp only [List.cons_append, List.cons.injEq] at h2
                obtain ⟨rfl, h3⟩ := h2
                exact I'.frs p _ t h1
          · rw [I'.cur]; simp [frAll]
          · intro j hj
            simp only [ids, List.map_append, List.mem_append, List.map_cons, List.map_nil, List.mem_singleton]
            split at hj
            · rename_i e5; exact .inr e5
            · exact .inl (I'.sub j hj)
          · intro e he h1 h2
            rcases List.mem_append.1 he with h5 | h5
            · simp only [if_neg (hpne e h5)]; exact I'.spine e h5 h1 h2
            · simp only [List.mem_singleton] at h5; subst h5; simp
          · intro e he h1
            rcases List.mem_append.1 he with h5 | h5
            · simp only [if_neg (hpne e h5)] at h1
              have hanc : m2.testBit e.i = false := by
                cases hbit : m2.testBit e.i with
                | false => rfl
                | true =>
                  have := anc_ready hmk I'.down hm2 ho hready hbit
                  rw [this] at h1; cases h1
              rcases I'.late e h5 h1 with h6 | ⟨h6, h7, h8, h9⟩
              · exact .inl h6
              · refine .inr ⟨h6, h7, h8, ?_⟩
                rcases h9 with h9 | ⟨hP, _⟩
                · exact .inl h9
                · exact .inr ⟨hP, hre e (I'.reads e h5 h1 h6 hP) hanc⟩
            · simp only [List.mem_singleton] at h5; subst h5; simp at h1
          · intro e he h1 h2 h3
            rcases List.mem_append.1 he with h5 | h5
            · simp only [if_neg (hpne e h5)] at h1
              exact I'.reads e h5 h1 h2 h3
            · simp only [List.mem_singleton] at h5; subst h5; simp at h1
          · rw [hfr]
            have hb2 := (I'.frr.later hst.later).put o.dst hv
            refine ⟨by have := hb2.defers; simpa only [put_marks, frD_marks] using this, by rw [hb2.size, put_nt, put_nt, frD_nt, frD_nt], fun t => ?_⟩
            have : ((frD (fun j => if j = i then true else listed.getD j false) pre' fr0).put o.dst v).get t = ((frD (fun j => listed.getD j false) pre' fr0).put o.dst v).get t := by
              rw [put_get, put_get, frD_nt, frD_nt, hget]
            rw [this]; exact hb2.tmps t
          · intro j hj o2 ho3 d hd2 hbd
            simp only at hj ⊢
            split
            · rfl
            · split at hj
              · rename_i e5
                subst e5
                rw [ho] at ho3; cases ho3
                exact hready d hd2 hbd
              · exact I'.down j hj o2 ho3 d hd2 hbd
end
end Go.Proofs.Ytcbifjbmbceipaa.Abs
