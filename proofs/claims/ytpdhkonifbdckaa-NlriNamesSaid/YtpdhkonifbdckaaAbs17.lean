/- Regions: in the order of the text, and in any order. -/
import Derived.Test.YtpdhkonifbdckaaAbs16
namespace Go.Proofs.Ytpdhkonifbdckaa.Abs
open Go
set_option linter.unusedSectionVars false
variable [Tok]
set_option linter.unusedSimpArgs false

section
variable {C : Ctx} {w0 : Base}

theorem back_get {md : Region.Mode} : ∀ (ops : List Oper) (k : Nat), backEdges md k ops = true → ∀ (i : Nat) (o : Oper), ops[i]? = some o → ∀ e ∈ o.after.toList, Region.binds md e = true → e.on < k + i
  | [], _, _, i, o, h, _, _, _ => by simp at h
  | x :: ops, k, h, 0, o, ho, e, he, hb => by
    simp only [backEdges, Bool.and_eq_true, List.all_eq_true] at h
    simp only [List.getElem?_cons_zero, Option.some.injEq] at ho
    subst ho
    have := h.1 e he
    rw [hb] at this
    exact Nat.le_of_ble_eq_true this
  | x :: ops, k, h, i + 1, o, ho, e, he, hb => by
    simp only [backEdges, Bool.and_eq_true] at h
    have := back_get ops (k + 1) h.2 i o (by simpa using ho) e he hb
    omega

def unl (n : Nat) (listed : Array Bool) : Nat := ((List.range n).filter fun i => !listed.getD i false).length

theorem filter_lt {α : Type} {p q : α → Bool} : ∀ (l : List α), (∀ x, q x = true → p x = true) → (∃ x ∈ l, p x = true ∧ q x = false) → (l.filter q).length < (l.filter p).length
  | [], _, ⟨x, hx, _⟩ => by simp at hx
  | y :: l, h, ⟨x, hx, h1, h2⟩ => by
    have hle : (l.filter q).length ≤ (l.filter p).length := by
      clear hx h1 h2
      induction l with
      | nil => simp
      | cons z l ih =>
        simp only [List.filter_cons]
        split
        · rename_i hq
          rw [if_pos (h z hq)]
          simp only [List.length_cons]; omega
        · split
          · simp only [List.length_cons]; omega
          · exact ih
    simp only [List.filter_cons]
    rcases List.mem_cons.1 hx with rfl | hx
    · rw [if_neg (by simp [h2]), if_pos h1]; simp only [List.length_cons]; omega
    · have ih := filter_lt l h ⟨x, hx, h1, h2⟩
      split
      · rename_i hq
        rw [if_pos (h y hq)]; simp only [List.length_cons]; omega
      · split
        · simp only [List.length_cons]; omega
        · exact ih

theorem getD_set (listed : Array Bool) (i j : Nat) (hi : i < listed.size) : (listed.setIfInBounds i true).getD j false = if j = i then true else listed.getD j false := by
  by_cases e : j = i
  · subst e; simp [hi]
  · rw [if_neg e, Array.getD_eq_getD_getElem?, Array.getD_eq_getD_getElem?, Array.getElem?_setIfInBounds_ne (Ne.symm e)]

theorem unl_set {n i : Nat} {listed : Array Bool} (hs : listed.size = n) (hi : i < n) (h : listed.getD i false = false) : unl n (listed.setIfInBounds i true) < unl n listed := by
  refine filter_lt (List.range n) (fun x hx => ?_) ⟨i, by simpa using hi, by simp only [h]; rfl, by simp only [getD_set listed i i (by omega), if_true]; rfl⟩
  simp only [getD_set listed i x (by omega)] at hx
  split at hx
  · cases hx
  · exact hx

variable {ops : Array Oper} {E masks plan : List Nat} {H : List (Nat × Nat × Obj)} {fr0 fr : Fr} {pre : List Ent} {rest : List Nat} {reads : List Ent} {s : St} {φ : Nat → Option Loc} {S : Nat → Bool} {a : Act} {w : World}

theorem nodup_mid {α : Type} {l1 l2 : List α} {a : α} : (l1 ++ a :: l2).Nodup ↔ (a :: (l1 ++ l2)).Nodup := List.perm_middle.nodup_iff
theorem maker_parts {op : Op} (h : isMaker op = true) (s : St) (ρ : Operand → Value) : aP C op ρ = none ∧ aR C s op ρ = none ∧ isFloat op = false := by
  cases op <;> first | (simp [isMaker] at h; done) | exact ⟨rfl, rfl, rfl⟩
theorem aop_maker {hd : HH Prop} {op : Op} {ρ : Operand → Value} {ob : AObj} {mk : Nat → Value} {K : Value → St → Prop} (h : isMaker op = true) (hm : aA C op ρ = some (ob, mk)) (hr : aop C ansP hd s op ρ K) : K (mk s.next) (s.alloc ob) := by
  obtain ⟨h1, h2, _⟩ := maker_parts (C := C) h s ρ
  unfold aop at hr
  split at hr
  · exact hr.elim
  · simp only [h1, h2, hm] at hr
    exact hr
/-- A block that stands aside no longer. -/
theorem Rel.unhold {x : Nat × Nat × Obj} {H1 H2 : List (Nat × Nat × Obj)} (R : Rel C (w0.hold (H1 ++ x :: H2)) φ s w) : Rel C (w0.hold (H1 ++ H2)) φ s w :=
  { old := R.old, base := R.base, size := R.size, os := R.os, tape := R.tape, output := R.output, next := R.next, nowhere := R.nowhere, fresh := R.fresh, lows := R.lows, inj := R.inj, lt := R.lt, own := R.own, objs := R.objs, thaw := R.thaw,
    held := fun y hy => R.held y (by
      unfold Base.hold at hy ⊢
      simp only [List.map_append, List.map_cons, List.mem_append, List.mem_cons] at hy ⊢
      rcases hy with (h | h) | h
      · exact .inl (.inl h)
      · exact .inl (.inr (.inr h))
      · exact .inr h),
    nd := by
      have := R.nd
      unfold Base.hold at this ⊢
      simp only [List.map_append, List.map_cons, List.append_assoc, List.cons_append] at this ⊢
      exact (List.nodup_cons.1 (nodup_mid.1 this)).2 }
/-- A new block stands aside. -/
theorem Rel.holdNew (R : Rel C (w0.hold H) φ s w) (i : Nat) {o' : Obj} (ht : Thawed o') : Rel C (w0.hold ((i, w.heap.size, o') :: H)) φ s (w.alloc o') :=
  { old := R.old, base := fun b hb => (by rw [heap_alloc, if_neg (by have := R.size; have h2 : b < w0.heap.size := hb; have h3 : w0.heap.size ≤ w.heap.size := this; omega)]; exact R.base b hb), size := (by have : w0.heap.size ≤ w.heap.size := R.size; show w0.heap.size ≤ (w.alloc o').heap.size; simp; omega), os := R.os, tape := R.tape, output := R.output, next := R.next, nowhere := R.nowhere, fresh := R.fresh, lows := R.lows, inj := R.inj,
    lt := fun b l hl => (by have := R.lt b l hl; simp; omega), own := R.own,
    objs := fun b o hb ho hl => let ⟨l, h1, h2⟩ := R.objs b o hb ho hl; ⟨l, h1, by rw [heap_alloc, if_neg (by have := R.lt _ _ h1; omega)]; exact h2⟩,
    thaw := fun k x hk hx => (by rw [heap_alloc] at hx; split at hx; cases hx; exact ht; exact R.thaw _ _ hk hx),
    held := fun y hy => (by
      have hcase : y = (w.heap.size, o') ∨ y ∈ (w0.hold H).held := by
        unfold Base.hold at hy ⊢
        simpa using hy
      rcases hcase with rfl | hy
      · exact ⟨R.size, by rw [heap_alloc, if_pos rfl], fun b l hl => Nat.ne_of_lt (R.lt b l hl)⟩
      · obtain ⟨h1, h2, h3⟩ := R.held y hy
        have hlt : y.1 < w.heap.size := (Array.getElem?_eq_some_iff.1 h2).1
        exact ⟨h1, by rw [heap_alloc, if_neg (by omega)]; exact h2, h3⟩),
    nd := by
      have hn : (((w0.hold H).held).map (·.1)).Nodup := R.nd
      show ((((i, w.heap.size, o') :: H).map (·.2) ++ w0.held).map (·.1)).Nodup
      simp only [List.map_cons, List.cons_append]
      refine List.nodup_cons.2 ⟨fun hm => ?_, hn⟩
      obtain ⟨y, hy, e⟩ := List.mem_map.1 hm
      obtain ⟨_, h2, _⟩ := R.held y hy
      have : y.1 < w.heap.size := (Array.getElem?_eq_some_iff.1 h2).1
      omega }

/-- The interpreter comes to a maker that the machine has run. -/
theorem inv_adopt {hd : HH Prop} {i m : Nat} {o : Oper} {K : Value → St → Prop} (I : Inv C w0 ops E masks plan fr0 pre (i :: rest) reads fr s φ H S a w) (hp : pairsOk ops.toList E masks plan = true) (hmk : MasksOk ops.toList masks) (hE : EOk ops E fr0)
    (hSi : S i = true) (ho : ops.toList[i]? = some o) (hm : masks[i]? = some m) (h : aop C ansP hd s o.op fr.eval K) :
    ∃ v s' φ' H', K v s' ∧ Later φ s.next φ' s'.next ∧ ((∀ e ∈ reads, m.testBit e.i = false → aR C s' e.o.op e.fr.eval = some e.v) → Inv C w0 ops E masks plan fr0 (pre ++ [⟨i, o, fr, v⟩]) rest reads (fr.put o.dst v) s' φ' H' S a w) := by
  have hnot := nodup_rest I hp
  obtain ⟨x, hx, hxi⟩ := (I.sub i hSi).resolve_left hnot
  subst hxi
  obtain ⟨o1, d, ob, mk, v', sz, g1, g2, g3, g4, g5, g6⟩ := (I.hat x hx).ex
  rw [ho] at g1
  cases g1
  obtain ⟨o2, ho2, hcan⟩ := hE.can x.1 (I.hE x hx)
  rw [ho] at ho2
  cases ho2
  obtain ⟨hmak, hguard, _⟩ := early_maker hcan
  have hk := aop_maker (C := C) hmak g3 h
  obtain ⟨H1, H2, rfl⟩ := List.append_of_mem hx
  have R := I.rel
  obtain ⟨q1, q2, q3⟩ := R.held (x.2.1, x.2.2) (by unfold Base.hold; simp)
  have hnd := R.nd
  have hout : ∀ y ∈ (w0.hold (H1 ++ H2)).held, y.1 ≠ x.2.1 := fun y hy e => by
    unfold Base.hold at hnd hy
    simp only [List.map_append, List.map_cons, List.append_assoc, List.cons_append] at hnd hy
    have h3 := (List.nodup_cons.1 (nodup_mid.1 hnd)).1
    apply h3
    rw [← e]
    simp only [List.mem_append, List.mem_map] at hy ⊢
    rcases hy with ⟨z, hz, rfl⟩ | ⟨z, hz, rfl⟩ | hz
    · exact .inl ⟨z.2, ⟨z, hz, rfl⟩, rfl⟩
    · exact .inr (.inl ⟨z.2, ⟨z, hz, rfl⟩, rfl⟩)
    · exact .inr (.inr ⟨y, hz, rfl⟩)
  have hA := R.unhold.adopt (l := ⟨x.2.1, sz, 0⟩) (ob := ob) (o' := x.2.2) (w' := w) q3 hout q1 (Array.getElem?_eq_some_iff.1 q2).1 (fun k => by
    split
    · rename_i e; rw [e]; exact q2
    · rfl) rfl rfl rfl rfl g4
  refine ⟨mk s.next, s.alloc ob, _, H1 ++ H2, hk, hA.later, fun hre => ?_⟩
  have hpne : ∀ e ∈ pre, e.i ≠ x.1 := fun e he e5 => hnot (List.mem_map.2 ⟨e, he, e5⟩)
  have hsubH : ∀ y ∈ H1 ++ H2, y ∈ H1 ++ x :: H2 := fun y hy => by
    simp only [List.mem_append, List.mem_cons] at hy ⊢
    exact hy.imp id .inr
  have hkn : ∀ y ∈ H1 ++ H2, y.1 ≠ x.1 := fun y hy e => by
    have := I.hkeys
    simp only [List.map_append, List.map_cons] at this
    have h3 := (List.nodup_cons.1 (nodup_mid.1 this)).1
    apply h3
    rw [← e]
    simp only [List.mem_append, List.mem_map] at hy ⊢
    rcases hy with hy | hy
    · exact .inl ⟨y, hy, rfl⟩
    · exact .inr ⟨y, hy, rfl⟩
  have hmask : ∀ e ∈ pre, S e.i = false → m.testBit e.i = false := fun e he h1 => by
    cases hbit : m.testBit e.i with
    | false => rfl
    | true =>
      rw [anc_down hmk I.down x.1 m hm e.i hbit hSi] at h1; cases h1
  refine { plan := by rw [I.plan]; simp [ids], ent := ?_, frs := frs_step I, cur := ?_, sub := ?_, spine := ?_, late := ?_, reads := ?_, rel := hA.rel, frr := ?_, down := I.down, hrest := ?_, hS := fun y hy => I.hS y (hsubH y hy), hE := fun y hy => I.hE y (hsubH y hy), hkeys := ?_, hat := ?_ }
  · intro e he
    rcases List.mem_append.1 he with h5 | h5
    · exact I.ent e h5
    · simp only [List.mem_singleton] at h5; subst h5; exact ho
  · rw [I.cur]; simp [frAll]
  · intro j hj
    rcases I.sub j hj with h1 | ⟨y, hy, rfl⟩
    · left
      simp only [ids, List.map_append, List.mem_append] at h1 ⊢
      exact .inl h1
    · simp only [List.mem_append, List.mem_cons] at hy
      rcases hy with hy | rfl | hy
      · exact .inr ⟨y, List.mem_append_left _ hy, rfl⟩
      · left; simp [ids]
      · exact .inr ⟨y, List.mem_append_right _ hy, rfl⟩
  · intro e he h1 h2
    rcases List.mem_append.1 he with h5 | h5
    · exact I.spine e h5 h1 h2
    · simp only [List.mem_singleton] at h5; subst h5; exact hSi
  · intro e he h1
    rcases List.mem_append.1 he with h5 | h5
    · rcases I.late e h5 h1 with h6 | ⟨h6, h7, h8, h9⟩
      · exact .inl h6
      · refine .inr ⟨h6, h7, h8, ?_⟩
        rcases h9 with h9 | ⟨hP, _⟩
        · exact .inl h9
        · exact .inr ⟨hP, hre e (I.reads e h5 h1 h6 hP) (hmask e h5 h1)⟩
    · simp only [List.mem_singleton] at h5; subst h5; rw [hSi] at h1; cases h1
  · intro e he h1 h2 h3
    rcases List.mem_append.1 he with h5 | h5
    · exact I.reads e h5 h1 h2 h3
    · simp only [List.mem_singleton] at h5; subst h5; rw [hSi] at h1; cases h1
  · have hfr : frD S (pre ++ [⟨x.1, o, fr, mk s.next⟩]) fr0 = (frD S pre fr0).put o.dst (mk s.next) := by
      rw [frD_append, frD_cons]; simp only [hSi]; rfl
    rw [hfr]
    have hb := I.frr.later hA.later
    refine ⟨by have := hb.defers; simpa only [put_marks, frD_marks] using this, by rw [hb.size, put_nt], fun t => ?_⟩
    rw [put_get]
    split
    · rename_i e
      obtain ⟨e1, e2⟩ := e
      rw [g2] at e1
      cases e1
      rw [g6 (by rw [hb.size]; exact e2)]
      refine g5 _ _ _ (Nat.lt_succ_self _) fun l hl => ?_
      unfold upd at hl; rw [if_pos rfl] at hl; cases hl; rfl
    · exact hb.tmps t
  · intro y hy
    exact (List.mem_cons.1 (I.hrest y (hsubH y hy))).resolve_left (hkn y hy)
  · have := I.hkeys
    simp only [List.map_append, List.map_cons] at this ⊢
    exact (List.nodup_cons.1 (nodup_mid.1 this)).2
  · intro y hy
    exact ((I.hat y (hsubH y hy)).step (held_free I hp hmk hE ho (.inr hmak) (hsubH y hy) (hkn y hy))).later hA.later

/-- The interpreter goes on alone to the next operation of the spine that the machine has not run. -/
theorem advance {hd : HH Prop} {k : Fr → St → Prop} (hp : pairsOk ops.toList E masks plan = true) (hmk : MasksOk ops.toList masks) (hE : EOk ops E fr0) : ∀ (rest : List Nat) (pre : List Ent) (reads : List Ent) (fr : Fr) (s : St) (φ : Nat → Option Loc) (H : List (Nat × Nat × Obj)),
    Inv C w0 ops E masks plan fr0 pre rest reads fr s φ H S a w → runPlan C ansP hd ops E masks rest reads fr s k →
    ∃ pre' rest' reads' fr' s' φ' H', Later φ s.next φ' s'.next ∧ Inv C w0 ops E masks plan fr0 pre' rest' reads' fr' s' φ' H' S a w ∧ ((rest' = [] ∧ k fr' s') ∨ ∃ i o m r, rest' = i :: r ∧ S i = false ∧ ops.toList[i]? = some o ∧ masks[i]? = some m ∧
      awanted ops o fr' = some true ∧ isFloat o.op = false ∧ o.op.operands.toList.all okOperand = true ∧ lateOk C ops E masks (i :: r) fr' = true ∧
      aop C ansP hd s' o.op fr'.eval fun v s2 => recheck C ansP m s2 reads' (runPlan C ansP hd ops E masks r reads' (fr'.put o.dst v) s2 k))
  | [], pre, reads, fr, s, φ, H, I, h => ⟨pre, [], reads, fr, s, φ, H, Later.refl _ _, I, .inl ⟨rfl, h⟩⟩
  | i :: rest, pre, reads, fr, s, φ, H, I, h => by
    unfold runPlan at h
    split at h
    case h_2 => exact h.elim
    rename_i o m ho hm
    split at h
    · exact h.elim
    · rename_i hw
      exact advance hp hmk hE rest _ reads _ s φ H (inv_float I hp hmk hE ho (.inr hw) (fun _ h2 => by rw [hw] at h2; cases h2) (.inl ⟨hw, rfl⟩) (fun _ h => h) (fun h2 => by rw [hw] at h2; cases h2)) h
    · rename_i hw
      split at h
      · exact h.elim
      · rename_i hfl hok
        split at h
        · rename_i v hv
          exact advance hp hmk hE rest _ reads _ s φ H (inv_float I hp hmk hE ho (.inl hfl) (fun h1 _ => by rw [hfl] at h1; cases h1) (.inr ⟨hw, hfl, hok, .inl hv⟩) (fun _ h => h) (fun _ h2 => by rw [hv] at h2; cases h2)) h
        · rename_i hP
          split at h
          · rename_i v hv
            exact advance hp hmk hE rest _ _ _ s φ H (inv_float I hp hmk hE ho (.inl hfl) (fun h1 _ => by rw [hfl] at h1; cases h1) (.inr ⟨hw, hfl, hok, .inr ⟨hP, hv⟩⟩) (fun _ h => List.mem_cons_of_mem _ h) (fun _ _ => List.mem_cons_self ..)) h
          · exact h.elim
      · rename_i hfl hok
        split at h
        case h_2 => exact h.elim
        rename_i hlate
        cases hSi : S i with
        | false => exact ⟨pre, i :: rest, reads, fr, s, φ, H, Later.refl _ _, I, .inr ⟨i, o, m, rest, rfl, hSi, ho, hm, hw, hfl, hok, hlate, h⟩⟩
        | true =>
          obtain ⟨v, s', φ', H', hk, hL, hI⟩ := inv_adopt I hp hmk hE hSi ho hm h
          obtain ⟨hk2, hre⟩ := recheck_ok _ hk
          obtain ⟨pre', rest', reads', fr', s2, φ2, H2, h1, h2, h3⟩ := advance hp hmk hE rest _ reads _ s' φ' H' (hI hre) hk2
          exact ⟨pre', rest', reads', fr', s2, φ2, H2, hL.trans h1, h2, h3⟩

theorem frD_full (h : ∀ e ∈ pre, S e.i = true) (hf : FrR φ s.next (frD S pre fr0) a) : FrR φ s.next (frAll pre fr0) a := by
  refine ⟨by have := hf.defers; rw [frAll_eq]; simpa only [frD_marks] using this, by rw [hf.size, frAll_eq, frD_nt, frD_nt], fun t => ?_⟩
  have : (frAll pre fr0).get t = (frD S pre fr0).get t := by
    rw [frAll_eq]
    exact (frD_agree pre fr0 fr0 rfl rfl fun e he _ => h e he).symm
  rw [this]
  exact hf.tmps t

theorem ready_mem {md : Region.Mode} {listed : Array Bool} {i : Nat} (hs : listed.size = ops.size) (hmd : ∀ e, Region.binds .any e = true → Region.binds md e = true) (h : i ∈ Region.ready md ops listed) :
    i < ops.size ∧ listed.getD i false = false ∧ ∃ o, ops.toList[i]? = some o ∧ ∀ e ∈ o.after.toList, Region.binds .any e = true → listed.getD e.on false = true := by
  unfold Region.ready at h
  simp only [List.mem_filter, List.mem_range, Bool.and_eq_true, Bool.not_eq_true'] at h
  obtain ⟨h1, h2, h3⟩ := h
  refine ⟨h1, ?_, ?_⟩
  · rw [Array.getD_eq_getD_getElem?] at h2 ⊢
    rw [Array.getElem?_eq_getElem (by omega)] at h2 ⊢
    simpa using h2
  · have ho : ops[i]? = some ops[i] := Array.getElem?_eq_getElem h1
    rw [ho] at h3
    simp only [Option.map_some, Option.getD_some] at h3
    refine ⟨ops[i], by simp, fun e he hb => ?_⟩
    have := Array.all_eq_true'.1 h3 e (by simpa using he)
    rw [hmd e hb] at this
    simpa using this

theorem ready_one {md : Region.Mode} {listed : Array Bool} (hs : listed.size = ops.size) (h : Region.ready md ops listed = []) {i : Nat} {o : Oper} (ho : ops[i]? = some o)
    (hd : ∀ e ∈ o.after.toList, Region.binds md e = true → listed.getD e.on false = true) : listed.getD i false = true := by
  have hi : i < ops.size := (Array.getElem?_eq_some_iff.1 ho).1
  cases hl : listed.getD i false with
  | true => rfl
  | false =>
    exfalso
    have hmem : i ∈ Region.ready md ops listed := by
      unfold Region.ready
      simp only [List.mem_filter, List.mem_range, Bool.and_eq_true, Bool.not_eq_true']
      refine ⟨hi, ?_, ?_⟩
      · rw [Array.getD_eq_getD_getElem?] at hl ⊢
        rw [Array.getElem?_eq_getElem (by omega)] at hl ⊢
        simpa using hl
      · rw [ho]
        simp only [Option.map_some, Option.getD_some]
        refine Array.all_eq_true'.2 fun e he => ?_
        cases hb : Region.binds md e with
        | false => rfl
        | true => rw [hd e (by simpa using he) hb]; rfl
    rw [h] at hmem
    simp at hmem

theorem topo_all {md : Region.Mode} {listed : Array Bool} (hs : listed.size = ops.size) (h : Region.ready md ops listed = []) : ∀ (l seen : List Nat), topoOk md ops.toList seen l = true → (∀ j ∈ seen, listed.getD j false = true) → ∀ i ∈ l, listed.getD i false = true
  | [], _, _, _, i, hi => by simp at hi
  | x :: l, seen, ht, hsn, i, hi => by
    unfold topoOk at ht
    split at ht
    · rename_i o ho
      simp only [Bool.and_eq_true, List.all_eq_true] at ht
      have hx : listed.getD x false = true := ready_one hs h (o := o) (by simpa using ho) fun e he hb => by
        have := ht.1 e he
        rw [hb] at this
        exact hsn e.on (by simpa using this)
      have hsn' : ∀ j ∈ x :: seen, listed.getD j false = true := fun j hj => by
        rcases List.mem_cons.1 hj with rfl | hj
        · exact hx
        · exact hsn j hj
      rcases List.mem_cons.1 hi with rfl | hi
      · exact hx
      · exact topo_all hs h l (x :: seen) ht.2 hsn' i hi
    · cases ht

theorem ready_nil {md : Region.Mode} {listed : Array Bool} (hs : listed.size = ops.size) (hb : orderOk md ops = true) (h : Region.ready md ops listed = []) : ∀ i, i < ops.size → listed.getD i false = true := by
  unfold orderOk at hb
  split at hb
  · rename_i heq
    intro i
    induction i using Nat.strongRecOn with
    | _ i ih =>
      intro hi
      refine ready_one hs h (Array.getElem?_eq_getElem hi) fun e he hbe => ?_
      have hlt := back_get ops.toList 0 heq i ops[i] (by simp) e he hbe
      exact ih e.on (by omega) (by omega)
  · simp only [Bool.and_eq_true, List.all_eq_true, List.mem_range] at hb
    intro i hi
    exact topo_all hs h _ [] hb.2 (fun j hj => by simp at hj) i (by simpa using hb.1 i hi)

/-- The operands of a maker that is ready, ahead of its place. -/
theorem early_rel {i : Nat} {o : Oper} (I : Inv C w0 ops E masks plan fr0 pre rest reads fr s φ H S a w) (hp : pairsOk ops.toList E masks plan = true) (hmk : MasksOk ops.toList masks) (ho : ops.toList[i]? = some o)
    (hready : ∀ e ∈ o.after.toList, Region.binds .any e = true → S e.on = true) (hi : i ∈ rest) {t : Nat} (ht : t ∈ namesOf ops.toList o) : (frD S pre fr0).get t = fr.get t := by
  rw [I.cur, frAll_eq]
  refine frD_agree pre fr0 fr0 rfl rfl fun e he hd => ?_
  obtain ⟨p1, p2, rfl⟩ := List.append_of_mem he
  have hpo := pairs_get (p := ids p1) (x := e.i) (q := ids p2 ++ rest) (y := i) (by
    have : ids p1 ++ e.i :: (ids p2 ++ rest) = plan := by rw [I.plan]; simp [ids]
    rw [this]; exact hp) (List.mem_append_right _ hi)
  obtain ⟨m, hm, hb⟩ := pair_anc hpo (I.ent e (by simp)) ho (.inl ⟨t, hd, ht⟩)
  exact anc_ready hmk I.down hm ho hready hb

theorem plan_sound {F : Fence} (hF : FW F) {hd : HH Prop} (hH : HHS C hd) (n : Nat) {md : Region.Mode} (hmd : ∀ e, Region.binds .any e = true → Region.binds md e = true)
    (hp : pairsOk ops.toList E masks plan = true) (hmk : MasksOk ops.toList masks) (hE : EOk ops E fr0) (hcov : ∀ i, i < ops.size → i ∈ plan) (hb : orderOk md ops = true)
    {k : Fr → St → Prop} {Q : Exit → Act → World → Prop} {φ0 : Nat → Option Loc} {N0 : Nat}
    (hQ : ∀ fr' s' φ' a' w', Rel C w0 φ' s' w' → Later φ0 N0 φ' s'.next → FrR φ' s'.next fr' a' → k fr' s' → Q .normal a' w') :
    ∀ (fuel : Nat) (listed : Array Bool) (pre : List Ent) (rest : List Nat) (reads : List Ent) (fr : Fr) (s : St) (φ : Nat → Option Loc) (H : List (Nat × Nat × Obj)) (a : Act) (w : World), listed.size = ops.size → unl ops.size listed ≤ fuel →
      Later φ0 N0 φ s.next → Inv C w0 ops E masks plan fr0 pre rest reads fr s φ H (fun i => listed.getD i false) a w → runPlan C ansP hd ops E masks rest reads fr s k →
      wpAnyIn F n C.P md ops Q fuel listed a w := by
  -- at the end
  have fin : ∀ (listed : Array Bool) (pre' : List Ent) (rest' reads' fr' s' φ' H' a w), (∀ i, i < ops.size → listed.getD i false = true) → Later φ0 N0 φ' s'.next → Inv C w0 ops E masks plan fr0 pre' rest' reads' fr' s' φ' H' (fun i => listed.getD i false) a w →
      ((rest' = [] ∧ k fr' s') ∨ ∃ i o m r, rest' = i :: r ∧ listed.getD i false = false ∧ ops.toList[i]? = some o ∧ masks[i]? = some m ∧
      awanted ops o fr' = some true ∧ isFloat o.op = false ∧ o.op.operands.toList.all okOperand = true ∧ lateOk C ops E masks (i :: r) fr' = true ∧
      aop C ansP hd s' o.op fr'.eval fun v s2 => recheck C ansP m s2 reads' (runPlan C ansP hd ops E masks r reads' (fr'.put o.dst v) s2 k)) → Q .normal a w := by
    intro listed pre' rest' reads' fr' s' φ' H' a w hall hL I' h'
    rcases h' with ⟨rfl, hk⟩ | ⟨i, o, m, r, rfl, hSi, ho, _⟩
    · have hH0 : H' = [] := by
        cases H' with
        | nil => rfl
        | cons x H => exact absurd (I'.hrest x (by simp)) (by simp)
      have hf := frD_full (fun e he => hall e.i (by have := (List.getElem?_eq_some_iff.1 (I'.ent e he)).1; simpa using this)) I'.frr
      rw [← I'.cur] at hf
      have R := I'.rel
      rw [hH0, Base.hold_nil] at R
      exact hQ fr' s' φ' a w R hL hf hk
    · have hi : i < ops.size := by have := (List.getElem?_eq_some_iff.1 ho).1; simpa using this
      rw [hall i hi] at hSi; cases hSi
  intro fuel
  induction fuel with
  | zero =>
    intro listed pre rest reads fr s φ H a w hs hu hL I h
    have hall : ∀ i, i < ops.size → listed.getD i false = true := fun i hi => by
      cases hl : listed.getD i false with
      | true => rfl
      | false =>
        have : i ∈ (List.range ops.size).filter fun i => !listed.getD i false := by simp only [List.mem_filter, List.mem_range, hl]; exact ⟨hi, rfl⟩
        have := List.length_pos_of_mem this
        unfold unl at hu
        omega
    obtain ⟨pre', rest', reads', fr', s', φ', H', hL', I', h'⟩ := advance hp hmk hE rest pre reads fr s φ H I h
    refine ⟨?_, fin listed _ _ _ _ _ _ _ _ _ hall (hL.trans hL') I' h'⟩
    cases hr : Region.ready md ops listed with
    | nil => rfl
    | cons x xs =>
      obtain ⟨h1, h2, _⟩ := ready_mem hs hmd (i := x) (by rw [hr]; simp)
      rw [hall x h1] at h2; cases h2
  | succ fuel ih =>
    intro listed pre rest reads fr s φ H a w hs hu hL I h
    obtain ⟨pre', rest', reads', fr', s', φ', H', hL', I', h'⟩ := advance hp hmk hE rest pre reads fr s φ H I h
    have hL := hL.trans hL'
    refine ⟨fun hr => fin listed _ _ _ _ _ _ _ _ _ (ready_nil hs hb hr) hL I' h', fun i hi => ?_⟩
    obtain ⟨hi1, hi2, o, ho, hready⟩ := ready_mem hs hmd hi
    have hset : ∀ j, (listed.setIfInBounds i true).getD j false = if j = i then true else listed.getD j false := fun j => getD_set listed i j (by omega)
    have hSeq : (fun j => (listed.setIfInBounds i true).getD j false) = fun j => if j = i then true else listed.getD j false := funext hset
    have hu' : unl ops.size (listed.setIfInBounds i true) ≤ fuel := by have := unl_set hs hi1 hi2; omega
    have hs' : (listed.setIfInBounds i true).size = ops.size := by simpa using hs
    -- the interpreter stands where it stood
    have again : ∀ H2 a2 w2, Inv C w0 ops E masks plan fr0 pre' rest' reads' fr' s' φ' H2 (fun j => if j = i then true else listed.getD j false) a2 w2 → wpAnyIn F n C.P md ops Q fuel (listed.setIfInBounds i true) a2 w2 := by
      intro H2 a2 w2 I2
      rcases h' with ⟨rfl, hk⟩ | ⟨i2, o2, m2, r2, rfl, _, ho2, hm2, hw2, hfl2, hok2, hlate2, hrun2⟩
      · exact ih _ pre' [] reads' fr' s' φ' H2 a2 w2 hs' hu' hL (by rw [hSeq]; exact I2) hk
      · refine ih _ pre' (i2 :: r2) reads' fr' s' φ' H2 a2 w2 hs' hu' hL (by rw [hSeq]; exact I2) ?_
        unfold runPlan
        rw [ho2, hm2]
        simp only [hw2, hfl2, hok2, hlate2]
        exact hrun2
    by_cases hin : i ∈ ids pre'
    · -- run by the interpreter already
      obtain ⟨e, he, rfl⟩ := List.mem_map.1 hin
      obtain ⟨p, q, hpq⟩ := List.append_of_mem he
      have he2 := I'.ent e he
      rw [ho] at he2
      have heo : o = e.o := Option.some.inj he2
      exact late_step hF n I' hp hmk hpq (by rw [← heo]; exact hready) hi2 _ Q fun a' I2 => again _ _ _ I2
    · have hinr : i ∈ rest' := by
        have := hcov i hi1
        rw [I'.plan] at this
        exact (List.mem_append.1 this).resolve_left hin
      have ho' : ops[i]? = some o := by simpa using ho
      have hpne : ∀ e ∈ pre', e.i ≠ i := fun e he e5 => hin (List.mem_map.2 ⟨e, he, e5⟩)
      have hHne : ∀ x ∈ H', x.1 ≠ i := fun x hx e5 => by
        have := I'.hS x hx
        rw [e5] at this
        simp only [hi2] at this
        cases this
      have hget : ∀ t, (frD (fun j => if j = i then true else listed.getD j false) pre' fr0).get t = (frD (fun j => listed.getD j false) pre' fr0).get t := fun t =>
        frD_agree pre' fr0 fr0 rfl rfl fun e he _ => by simp only [if_neg (hpne e he)]
      have hdown : Down ops.toList (fun j => if j = i then true else listed.getD j false) := by
        intro j hj o2 ho3 d hd2 hbd
        simp only at hj ⊢
        split
        · rfl
        · split at hj
          · rename_i e5
            subst e5
            rw [ho] at ho3; cases ho3
            exact hready d hd2 hbd
          · exact I'.down j hj o2 ho3 d hd2 hbd
      have hnames : ∀ t, t ∈ namesOf ops.toList o → VR φ' s'.next (fr'.get t) (a.tmps.getD t undef) := fun t ht => by
        have := early_rel I' hp hmk ho hready hinr ht
        rw [← this]; exact I'.frr.tmps t
      have hguards : ∀ b, awanted ops o fr' = some b → Region.wanted o (yielded ops a.tmps) = b := fun b hb2 => wanted_rel hb2 fun j want g d h1 h2 h3 => hnames d (names_guard h1 h2 h3)
      rcases h' with ⟨rfl, _⟩ | ⟨i2, o2, m2, r2, rfl, hSi2, ho2, hm2, hw2, hfl2, hok2, hlate2, hrun2⟩
      · simp at hinr
      · by_cases hii : i = i2
        · -- the next one of the spine
          subst hii
          rw [ho] at ho2
          cases ho2
          have hw : Region.wanted o (yielded ops a.tmps) = true := hguards _ hw2
          have hρ : RhoR φ' s'.next o.op fr'.eval a.eval := fun x hx => eval_rel (List.all_eq_true.1 hok2 x hx) fun t e5 => hnames t (names_operand (by rw [← e5]; exact hx))
          unfold wpOpIn
          rw [ho']
          simp only [hw, if_true]
          refine aop_sound hF hH I'.rel hρ hrun2 n _ Q fun v v' φ2 s2 w2 hst hv hk2 => ?_
          obtain ⟨hk3, hre⟩ := recheck_ok _ hk2
          refine ih _ (pre' ++ [⟨i, o, fr', v⟩]) r2 reads' (fr'.put o.dst v) s2 φ2 H' _ w2 hs' hu' (hL.trans hst.later) ?_ hk3
          rw [hSeq]
          have hfr : frD (fun j => if j = i then true else listed.getD j false) (pre' ++ [⟨i, o, fr', v⟩]) fr0 = (frD (fun j => if j = i then true else listed.getD j false) pre' fr0).put o.dst v := by
            rw [frD_append, frD_cons]; simp only [if_true]; rfl
          refine { plan := by rw [I'.plan]; simp [ids], ent := ?_, frs := frs_step I', cur := ?_, sub := ?_, spine := ?_, late := ?_, reads := ?_, rel := hst.rel, frr := ?_, down := hdown, hrest := ?_, hS := ?_, hE := I'.hE, hkeys := I'.hkeys, hat := ?_ }
          · intro e he
            rcases List.mem_append.1 he with h5 | h5
            · exact I'.ent e h5
            · simp only [List.mem_singleton] at h5; subst h5; exact ho
          · rw [I'.cur]; simp [frAll]
          · intro j hj
            simp only [ids, List.map_append, List.mem_append, List.map_cons, List.map_nil, List.mem_singleton]
            split at hj
            · rename_i e5; exact .inl (.inr e5)
            · rcases I'.sub j hj with h5 | h5
              · exact .inl (.inl h5)
              · exact .inr h5
          · intro e he h1 h2
            rcases List.mem_append.1 he with h5 | h5
            · simp only [if_neg (hpne e h5)]; exact I'.spine e h5 h1 h2
            · simp only [List.mem_singleton] at h5; subst h5; simp
          · intro e he h1
            rcases List.mem_append.1 he with h5 | h5
            · simp only [if_neg (hpne e h5)] at h1
              have hanc : m2.testBit e.i = false := by
                cases hbit : m2.testBit e.i with
                | false => rfl
                | true =>
                  have := anc_ready hmk I'.down hm2 ho hready hbit
                  rw [this] at h1; cases h1
              rcases I'.late e h5 h1 with h6 | ⟨h6, h7, h8, h9⟩
              · exact .inl h6
              · refine .inr ⟨h6, h7, h8, ?_⟩
                rcases h9 with h9 | ⟨hP, _⟩
                · exact .inl h9
                · exact .inr ⟨hP, hre e (I'.reads e h5 h1 h6 hP) hanc⟩
            · simp only [List.mem_singleton] at h5; subst h5; simp at h1
          · intro e he h1 h2 h3
            rcases List.mem_append.1 he with h5 | h5
            · simp only [if_neg (hpne e h5)] at h1
              exact I'.reads e h5 h1 h2 h3
            · simp only [List.mem_singleton] at h5; subst h5; simp at h1
          · rw [hfr]
            have hb2 := (I'.frr.later hst.later).put o.dst hv
            refine ⟨by have := hb2.defers; simpa only [put_marks, frD_marks] using this, by rw [hb2.size, put_nt, put_nt, frD_nt, frD_nt], fun t => ?_⟩
            have : ((frD (fun j => if j = i then true else listed.getD j false) pre' fr0).put o.dst v).get t = ((frD (fun j => listed.getD j false) pre' fr0).put o.dst v).get t := by
              rw [put_get, put_get, frD_nt, frD_nt, hget]
            rw [this]; exact hb2.tmps t
          · intro x hx
            exact (List.mem_cons.1 (I'.hrest x hx)).resolve_left (hHne x hx)
          · intro x hx
            split
            · rfl
            · exact I'.hS x hx
          · intro x hx
            have hx1 := (List.mem_cons.1 (I'.hrest x hx)).resolve_left (hHne x hx)
            refine (((I'.hat x hx).step (held_free I' hp hmk hE ho (.inl hi2) hx (hHne x hx))).later hst.later).act fun o3 ho3 d hd3 e5 => ?_
            have hpo := pairs_get (p := ids pre') (x := i) (q := r2) (y := x.1) (by rw [← I'.plan]; exact hp) hx1
            obtain ⟨m, hm, hbit⟩ := pair_anc hpo ho ho3 (.inl ⟨d, e5, names_dst hd3⟩)
            have := anc_down hmk I'.down x.1 m hm i hbit (I'.hS x hx)
            simp only [hi2] at this
            cases this
        · -- a maker, ahead of its place
          have hir : i ∈ r2 := (List.mem_cons.1 hinr).resolve_left hii
          have hpo := pairs_get (p := ids pre') (x := i2) (q := r2) (y := i) (by rw [← I'.plan]; exact hp) hir
          have hiE : i ∈ E := by
            rcases pair_spine hpo ho2 hfl2 with ⟨m, hm, hbit⟩ | h5
            · have := anc_ready hmk I'.down hm ho hready hbit
              rw [hSi2] at this; cases this
            · exact h5
          obtain ⟨o3, ho3, hcan⟩ := hE.can i hiE
          rw [ho] at ho3
          cases ho3
          obtain ⟨hmak, hguard, d, hd⟩ := early_maker hcan
          have hmi : ∃ m, masks[i]? = some m := by
            unfold pairOk at hpo
            split at hpo
            · rename_i h5; exact ⟨_, h5⟩
            · cases hpo
          obtain ⟨mi, hmi⟩ := hmi
          have hchk : o.op.operands.toList.all okOperand = true ∧ (aA C o.op fr'.eval).isSome = true := by
            have h5 := List.all_eq_true.1 hlate2 i hiE
            rw [show (i2 :: r2).contains i = true by simpa using hinr, ho, hmi] at h5
            have h6 : ((i2 :: r2).all fun j => !mi.testBit j || E.contains j) = true := by
              refine List.all_eq_true.2 fun j hj => ?_
              cases hbit : mi.testBit j with
              | false => rfl
              | true =>
                have hSj := anc_ready hmk I'.down hmi ho hready hbit
                rcases I'.sub j hSj with h7 | ⟨x, hx, rfl⟩
                · exfalso
                  obtain ⟨e, he, rfl⟩ := List.mem_map.1 h7
                  obtain ⟨p1, p2, hp12⟩ := List.append_of_mem he
                  have hpl := I'.plan
                  rw [hp12] at hpl
                  exact pair_ne (pairs_get (p := ids p1) (x := e.i) (q := ids p2 ++ (i2 :: r2)) (y := e.i) (by
                    have : ids p1 ++ e.i :: (ids p2 ++ (i2 :: r2)) = plan := by rw [hpl]; simp [ids]
                    rw [this]; exact hp) (List.mem_append_right _ hj)) rfl
                · simpa using I'.hE x hx
            simp only [h6] at h5
            simpa using h5
          obtain ⟨hok3, hsome⟩ := hchk
          obtain ⟨⟨ob, mk⟩, hA⟩ := Option.isSome_iff_exists.1 hsome
          have hw : Region.wanted o (yielded ops a.tmps) = true := by
            unfold Region.wanted
            rw [hguard]
          have hρ : RhoR φ' s'.next o.op fr'.eval a.eval := fun x hx => eval_rel (List.all_eq_true.1 hok3 x hx) fun t e5 => hnames t (names_operand (by rw [← e5]; exact hx))
          have hnd : ∀ c, o.op ≠ .defer c := fun c e5 => by rw [e5] at hmak; simp [isMaker] at hmak
          obtain ⟨o', v', sz, h1, h2, h3⟩ := aA_sound hρ hA w
          have hR := I'.rel.holdNew i h2.thawed
          unfold wpOpIn
          rw [ho']
          simp only [hw, if_true]
          refine ⟨fun f _ => hF.fn f, ?_⟩
          rw [Oper.semAt_eq _ _ _ hnd, h1]
          refine again ((i, w.heap.size, o') :: H') (a.put o.dst v') (w.alloc o') ?_
          have hfar : ∀ e ∈ pre', e.o.dst ≠ some d := fun e he e5 => hpne e he (early_alone hcan ho (I'.ent e he) hd e5).symm
          refine { plan := I'.plan, ent := I'.ent, frs := I'.frs, cur := I'.cur, sub := ?_, spine := ?_, late := ?_, reads := ?_, rel := hR, frr := ?_, down := hdown, hrest := ?_, hS := ?_, hE := ?_, hkeys := ?_, hat := ?_ }
          · intro j hj
            split at hj
            · rename_i e5; exact .inr ⟨_, List.mem_cons_self .., e5.symm⟩
            · rcases I'.sub j hj with h5 | ⟨x, hx, h5⟩
              · exact .inl h5
              · exact .inr ⟨x, List.mem_cons_of_mem _ hx, h5⟩
          · intro e he h5 h6
            simp only [if_neg (hpne e he)]; exact I'.spine e he h5 h6
          · intro e he h5
            simp only [if_neg (hpne e he)] at h5; exact I'.late e he h5
          · intro e he h5
            simp only [if_neg (hpne e he)] at h5; exact I'.reads e he h5
          · have hb2 := I'.frr
            refine ⟨by rw [hd]; have := hb2.defers; rw [frD_marks] at this ⊢; exact this, by simp [Act.put, hd, hb2.size, frD_nt], fun t => ?_⟩
            rw [hget t]
            by_cases hdt : d = t ∧ t < a.tmps.size
            · obtain ⟨rfl, hlt⟩ := hdt
              have hlt0 : d < fr0.nt := by rw [hb2.size, frD_nt] at hlt; exact hlt
              rw [frD_skip pre' fr0 (fun e he h5 => absurd h5 (hfar e he)), hE.any i hiE o d ho hd hlt0]
              exact .any _
            · have : (a.put o.dst v').tmps.getD t undef = a.tmps.getD t undef := by
                rw [hd]
                show (a.tmps.setIfInBounds d v').getD t undef = _
                rw [Array.getD_eq_getD_getElem?, Array.getD_eq_getD_getElem?]
                by_cases e5 : d = t
                · subst e5
                  have hge : ¬ d < a.tmps.size := fun h => hdt ⟨rfl, h⟩
                  rw [Array.getElem?_eq_none (xs := a.tmps.setIfInBounds d v') (by rw [Array.size_setIfInBounds]; exact Nat.le_of_not_lt hge), Array.getElem?_eq_none (xs := a.tmps) (Nat.le_of_not_lt hge)]
                · rw [Array.getElem?_setIfInBounds_ne e5]
              rw [this]
              exact hb2.tmps t
          · intro x hx
            rcases List.mem_cons.1 hx with rfl | hx
            · exact hinr
            · exact I'.hrest x hx
          · intro x hx
            rcases List.mem_cons.1 hx with rfl | hx
            · simp
            · split
              · rfl
              · exact I'.hS x hx
          · intro x hx
            rcases List.mem_cons.1 hx with rfl | hx
            · exact hiE
            · exact I'.hE x hx
          · rw [List.map_cons]
            refine List.nodup_cons.2 ⟨fun hmem => ?_, I'.hkeys⟩
            obtain ⟨x, hx, e5⟩ := List.mem_map.1 hmem
            exact hHne x hx e5
          · intro x hx
            rcases List.mem_cons.1 hx with rfl | hx
            · refine ⟨o, d, ob, mk, v', sz, ho, hd, hA, h2, h3, fun hlt => ?_⟩
              have hlt' : d < a.tmps.size := by simpa [Act.put, hd] using hlt
              rw [hd]
              show (a.tmps.setIfInBounds d v').getD d undef = v'
              rw [Array.getD_eq_getD_getElem?, Array.getElem?_setIfInBounds_self]
              simp [hlt']
            · refine (I'.hat x hx).act fun o3 ho3 d3 hd3 e5 => ?_
              rw [hd] at e5
              cases e5
              exact hHne x hx (early_alone hcan ho ho3 hd hd3).symm
end
end Go.Proofs.Ytpdhkonifbdckaa.Abs
