/- One operation: what the interpreter shows of it holds of the machine's. -/
import Derived.Test.YtpdhkonifbdckaaAbsF
import Derived.KernelRfl
import Derived.Lib.ConvBytes
import Derived.Laws.AppendOwn
namespace Go.Proofs.Ytpdhkonifbdckaa.Abs
open Go
set_option linter.unusedSectionVars false
variable [Tok]
set_option linter.unusedSimpArgs false

section
variable {C : Ctx} {w0 : Base} {φ φ' : Nat → Option Loc} {s s' : St} {w w' : World} {N N' : Nat}

theorem args2 {args : Array Operand} {ts : Array TypeId} {a x : Operand} {t : TypeId} {la : List Operand} {lt : List TypeId} (ha : args.toList = a :: x :: la) (ht : ts.toList = t :: lt) (ρ : Operand → Value) :
    args.map ρ = (ρ a :: ρ x :: la.map ρ).toArray ∧ ts = (t :: lt).toArray := by
  obtain ⟨args⟩ := args
  obtain ⟨ts⟩ := ts
  simp only at ha ht
  subst ha; subst ht
  exact ⟨by simp, rfl⟩

theorem args1 {args : Array Operand} {ts : Array TypeId} {x : Operand} {t : TypeId} {la : List Operand} {lt : List TypeId} (ha : args.toList = x :: la) (ht : ts.toList = t :: lt) (ρ : Operand → Value) :
    args.map ρ = (ρ x :: la.map ρ).toArray ∧ ts = (t :: lt).toArray := by
  obtain ⟨args⟩ := args
  obtain ⟨ts⟩ := ts
  simp only at ha ht
  subst ha; subst ht
  exact ⟨by simp, rfl⟩

theorem run_builtin {o : Oper} {args : Array Operand} {ts : Array TypeId} {b : Builtin} {ρ : Operand → Value} (ho : o.op = .call { callee := .builtin b, args, argTypes := ts }) :
    execOp ρ o = builtin b ts o.type (args.map fun | .const _ => true | _ => false) (args.map ρ) := by
  unfold execOp
  rw [ho]
  rfl

/-- The world behind a conversion of a string to bytes. -/
theorem bytesWorld_eq (w : World) (e : TypeId) (str : ByteArray) : Lib.bytesWorld w e str = w.drew.alloc (.cells (Lib.bytesCells w e str) e ((Lib.bytesCells w e str).size, (Lib.bytesCells w e str).size + 1)) := by
  have key : ∀ (h : Array Obj) (o o' : Obj) (f : Obj → Obj), f o = o' → (h.push o).modify h.size f = h.push o' := fun h o o' f hf => by
    apply Array.ext_getElem?
    intro j
    rw [Array.getElem?_modify, Array.getElem?_push, Array.getElem?_push]
    by_cases hj : h.size = j
    · subst hj; simp [hf]
    · rw [if_neg hj, if_neg fun e => hj e.symm, if_neg fun e => hj e.symm]
  unfold Lib.bytesWorld World.freeze
  rw [if_neg (by decide)]
  simp only [World.alloc_eq]
  congr 1
  exact key _ _ _ _ (by simp)
theorem astrB_sound (R : Rel C w0 φ s w) {src dst : TypeId} {x x' v : Value} (h : astrB C s src dst x = some (v, s')) (hx : VR φ s.next x x') :
    ∃ v' φ' w', (convert src dst x').run C.P w = .ok v' w' ∧ Step C w0 φ s φ' s' w' ∧ VR φ' s'.next v v' := by
  unfold astrB at h
  split at h
  · rename_i e str hs hd
    split at h
    · rename_i he hlt
      cases h
      cases hx
      have hrun := Lib.run_convert_string_bytes w src dst e str hs hd he
      rw [bytesWorld_eq] at hrun
      have hge := grownCap_ge w str.size 0 e
      have hsz : (Lib.bytesCells w e str).size = grownCap w str.size 0 e := by
        have : str.data.size = str.size := rfl
        simp only [Lib.bytesCells, Array.size_append, Array.size_map, Array.size_replicate]
        omega
      have hrow : ObjR φ s.next (.row (str.data.toList.map fun b => .int .u8 b.toNat) 1 true) ⟨w.drew.heap.size, (Lib.bytesCells w e str).size, 0⟩
          (some (.cells (Lib.bytesCells w e str) e ((Lib.bytesCells w e str).size, (Lib.bytesCells w e str).size + 1))) := ⟨by unfold Unm; simp, rfl, fun j v hj => by
        rw [List.getElem?_map] at hj
        obtain ⟨b, hb, rfl⟩ := Option.map_eq_some_iff.1 hj
        have hlt := (List.getElem?_eq_some_iff.1 hb).1
        refine ⟨_, ?_, .int _ _⟩
        unfold Lib.bytesCells
        rw [Array.getElem?_append_left (by simpa using hlt), Array.getElem?_map, ← Array.getElem?_toList, hb]
        rfl⟩
      have hst := (R.drawn (w.drawn + 1)).alloc hrow
      refine ⟨_, _, _, hrun, hst, ?_⟩
      refine .slice _ _ _ _ _ _ (Nat.lt_succ_self _) hge (fun hlt => by omega) fun l hl => ?_
      have hl' : l = ⟨w.drew.heap.size, (Lib.bytesCells w e str).size, 0⟩ := by
        unfold upd at hl; rw [if_pos rfl] at hl; cases hl; rfl
      subst hl'
      refine ⟨rfl, fun k hk => ?_⟩
      have : k = 1 := by omega
      subst this
      simp only [hsz, Nat.zero_add, Nat.mul_one]
    · cases h
  · cases h
theorem aW_sound (R : Rel C w0 φ s w) {o : Oper} {ρ ρ' : Operand → Value} (hρ : RhoR φ s.next o.op ρ ρ') {v : Value} (h : aW C s o.op ρ = some (v, s')) : Does C w0 φ s w o ρ' v s' := by
  unfold aW at h
  split at h
  · -- store
    rename_i t a x ho
    cases hs : astore C s t (ρ a) (ρ x) with
    | none => simp [hs] at h
    | some s1 =>
      simp only [hs, Option.map_some, Option.some.injEq] at h
      cases h
      obtain ⟨w', h1, h2⟩ := astore_sound R hs (hρ a (by rw [ho]; simp [Op.operands])) (hρ x (by rw [ho]; simp [Op.operands]))
      refine ⟨.skip, undef, φ, w', ?_, .inr ⟨rfl, rfl⟩, h2, .tuple _ _ .nil⟩
      unfold execOp; rw [ho]; simp [h1]
  · rename_i t m k x ho
    cases hs : aupdate C s t (ρ m) (ρ k) (ρ x) with
    | none => simp [hs] at h
    | some s1 =>
      simp only [hs, Option.map_some, Option.some.injEq] at h
      cases h
      obtain ⟨w', h1, h2⟩ := aupdate_sound R hs (hρ m (by rw [ho]; simp [Op.operands])) (hρ k (by rw [ho]; simp [Op.operands])) (hρ x (by rw [ho]; simp [Op.operands]))
      refine ⟨.skip, undef, φ, w', ?_, .inr ⟨rfl, rfl⟩, h2, .tuple _ _ .nil⟩
      unfold execOp; rw [ho]; simp [h1]
  · rename_i t m k x ho
    cases hs : aupdate C s t (ρ m) (ρ k) (ρ x) with
    | none => simp [hs] at h
    | some s1 =>
      simp only [hs, Option.map_some, Option.some.injEq] at h
      cases h
      obtain ⟨w', h1, h2⟩ := aupdate_sound R hs (hρ m (by rw [ho]; simp [Op.operands])) (hρ k (by rw [ho]; simp [Op.operands])) (hρ x (by rw [ho]; simp [Op.operands]))
      refine ⟨.skip, undef, φ, w', ?_, .inr ⟨rfl, rfl⟩, h2, .tuple _ _ .nil⟩
      unfold execOp; rw [ho]; simp [h1]
  · -- range
    rename_i t x ho
    have hx := hρ x (by rw [ho]; simp [Op.operands])
    split at h
    · rename_i kt et hu ex
      cases h
      rw [ex] at hx
      generalize hc' : ρ' x = c' at hx
      cases hx
      have hA := R.alloc (ob := .iter none 0 [] 0) (o' := .mapIter none 0 #[] 0) (sz := 0) ⟨rfl, rfl, rfl, trivial⟩
      refine ⟨.value (.pointer (some ⟨w.heap.size, 0, none⟩)), _, _, _, ?_, .inl rfl, hA, ptr_any (Nat.lt_succ_self _) fun l hl => ?_⟩
      · unfold execOp; rw [ho]; simp [Instr.range, run_und hu, hc']
      · unfold upd at hl; rw [if_pos rfl] at hl; cases hl; rfl
    · rename_i kt et hu hnn
      split at h
      · rename_i b es clock hmo
        cases h
        obtain ⟨l, es', hbB, ho2, hl, hv, hh, he⟩ := mapOf_sound R hmo hx
        have hA := R.alloc (ob := .iter (some b) clock [] clock) (o' := .mapIter (some l.blk) clock #[] clock) (sz := 0) ⟨rfl, rfl, rfl, by
          refine ⟨?_, fun l2 hl2 => ?_⟩
          · rcases Nat.lt_or_ge b s.next with h5 | h5
            · exact h5
            · rw [R.fresh b h5] at hl; cases hl
          · rw [hl] at hl2; cases hl2; rfl⟩
        refine ⟨.value (.pointer (some ⟨w.heap.size, 0, none⟩)), _, _, _, ?_, .inl rfl, hA, ptr_any (Nat.lt_succ_self _) fun l hl => ?_⟩
        · unfold execOp; rw [ho]; simp [Instr.range, run_und hu, hv, run_getMap hh]
        · unfold upd at hl; rw [if_pos rfl] at hl; cases hl; rfl
      · cases h
    · cases h
  · -- append
    rename_i args ts ho
    split at h
    · rename_i a x st xt ha ht
      obtain ⟨v', φ', w', h1, h2, h3⟩ := aappend_sound (ty := o.type) R h (hρ a (by rw [ho]; simp [Op.operands, Call.operands, ha])) (hρ x (by rw [ho]; simp [Op.operands, Call.operands, ha]))
      refine ⟨.value v', v', φ', w', ?_, .inl rfl, h2, h3⟩
      rw [run_builtin ho]
      obtain ⟨e1, e2⟩ := args2 ha ht ρ'
      simp only [builtin, e1, e2, Sem.run_bind]
      rw [show (Builtin.append_ [st, xt].toArray o.type (ρ' a :: ρ' x :: List.map ρ' []).toArray).run C.P w = .ok v' w' from h1]
      rfl
    · cases h
  · -- delete
    rename_i args ts ho
    split at h
    · rename_i m k la t lt ha ht
      cases hs : adelete C s t (ρ m) (ρ k) with
      | none => simp [hs] at h
      | some s1 =>
        simp only [hs, Option.map_some, Option.some.injEq] at h
        cases h
        obtain ⟨w', h1, h2⟩ := adelete_sound (ty := o.type) (ts := lt) (vs := la.map ρ') R hs (hρ m (by rw [ho]; simp [Op.operands, Call.operands, ha])) (hρ k (by rw [ho]; simp [Op.operands, Call.operands, ha]))
        refine ⟨.value (.tuple #[]), _, φ, w', ?_, .inl rfl, h2, .tuple _ _ .nil⟩
        rw [run_builtin ho]
        obtain ⟨e1, e2⟩ := args2 ha ht ρ'
        simp only [builtin, e1, e2, Sem.run_bind, h1]
        rfl
    · cases h
  · -- copy
    rename_i args ts ho
    split at h
    · rename_i a x la t lt ha ht
      obtain ⟨v', w', h1, h2, h3⟩ := acopy_sound (ty := o.type) (ts := lt) (vs := la.map ρ') R h (hρ a (by rw [ho]; simp [Op.operands, Call.operands, ha])) (hρ x (by rw [ho]; simp [Op.operands, Call.operands, ha]))
      refine ⟨.value v', v', φ, w', ?_, .inl rfl, h2, h3⟩
      rw [run_builtin ho]
      obtain ⟨e1, e2⟩ := args2 ha ht ρ'
      simp only [builtin, e1, e2, Sem.run_bind, h1]
      rfl
    · cases h
  · -- clear
    rename_i args ts ho
    split at h
    · rename_i x la t lt ha ht
      cases hs : aclear C s t (ρ x) with
      | none => simp [hs] at h
      | some s1 =>
        simp only [hs, Option.map_some, Option.some.injEq] at h
        cases h
        obtain ⟨w', h1, h2⟩ := aclear_sound (ty := o.type) (ts := lt) (vs := la.map ρ') R hs (hρ x (by rw [ho]; simp [Op.operands, Call.operands, ha]))
        refine ⟨.value (.tuple #[]), _, φ, w', ?_, .inl rfl, h2, .tuple _ _ .nil⟩
        rw [run_builtin ho]
        obtain ⟨e1, e2⟩ := args1 ha ht ρ'
        simp only [builtin, e1, e2, Sem.run_bind, h1]
        rfl
    · cases h
  · -- a string's bytes
    rename_i src dst x ho
    obtain ⟨v', φ', w', h1, h2, h3⟩ := astrB_sound R h (hρ x (by rw [ho]; simp [Op.operands]))
    refine ⟨.value v', v', φ', w', ?_, .inl rfl, h2, h3⟩
    unfold execOp; rw [ho]; simp [h1]
  · cases h

/-! ### Calls -/
/-- A handler of calls is sound: what it shows of a call holds of the machine's. -/
def HS (C : Ctx) (w0 : Base) (h : H Prop) : Prop := ∀ (f : FuncId) (args args' : List Value) (s : St) (φ : Nat → Option Loc) (w : World) (K : Value → St → Prop),
  Rel C w0 φ s w → VRs φ s.next args args' → h f args s K →
  Calls C.P f args'.toArray w fun e w' => ∃ v v' φ' s', e = .returned v' ∧ Step C w0 φ s φ' s' w' ∧ VR φ' s'.next v v' ∧ K v s'

structure FW (F : Fence) : Prop where
  fn : ∀ f, F.fn f
  depth : F.depth = none
  calls : ∀ (n : Nat) (P : Program) (f : FuncId) (args : Array Value) (w : World) (R : Ending → World → Prop), Calls P f args w R → CallsIn F n P f args w R
  inr : ∀ l, F.inRound l = Fence.wide.inRound l
theorem fw_wide : FW Fence.wide := ⟨fun _ => trivial, rfl, fun _ _ _ _ _ _ h => callsIn_wide.2 h, fun _ => rfl⟩
theorem fw_round (l : Nat) : FW (Fence.wide.inRound l) := ⟨fun _ => trivial, rfl, fun n _ _ _ _ _ h => (callsIn_wide (n := n)).2 h, fun _ => rfl⟩

/-- What runs the code of rounds is sound. -/
def HC (C : Ctx) (w0 : Base) (hc : Code → Fr → St → (AX → Fr → St → Prop) → Prop) : Prop := ∀ (l n : Nat) (c : Code) (fr : Fr) (s : St) (φ : Nat → Option Loc) (a : Act) (w : World) (k : AX → Fr → St → Prop) (Q : Exit → Act → World → Prop),
  Rel C w0 φ s w → FrR φ s.next fr a → hc c fr s k →
  (∀ e fr' s' φ' a' w', Rel C w0 φ' s' w' → Later φ s.next φ' s'.next → FrR φ' s'.next fr' a' → k e fr' s' → Q (exitOf e) a' w') → c.wpIn (Fence.wide.inRound l) n C.P Q a w
structure HHS (C : Ctx) (h : HH Prop) : Prop where
  call : ∀ w0, HS C w0 h.call
  code : ∀ w0, HC C w0 h.code

theorem Rel.loop (R : Rel C w0 φ s w) {l st : Nat} {q : Option AX} {fr : Fr} {ps : List Nat} {x y : Code} (hb : C.B0 ≤ l) (ho : s.obj l = some (.loop st q fr ps x y)) :
    ∃ loc r, φ l = some loc ∧ w.heap[loc.blk]? = some (.loop r) ∧ LoopR φ s.next st q fr ps x y r := by
  obtain ⟨loc, hl, hob⟩ := R.objs l _ hb ho rfl
  refine ⟨loc, ?_⟩
  generalize w.heap[loc.blk]? = ob at hob ⊢
  unfold ObjR at hob
  split at hob
  · rename_i hh; cases hh
  · rename_i hh; cases hh
  · rename_i hh; cases hh
  · rename_i r hh
    injection hh with e1 e2 e3 e4 e5 e6
    subst e1; subst e2; subst e3; subst e4; subst e5; subst e6
    exact ⟨r, hl, rfl, hob⟩
  · rename_i hh; cases hh
  · exact hob.elim

theorem Rel.putLoop (R : Rel C w0 φ s w) {l st : Nat} {q : Option AX} {fr : Fr} {ps : List Nat} {x y : Code} {loc : Loc} {r r' : Loop} (hb : C.B0 ≤ l) (hl : φ l = some loc) (hh : w.heap[loc.blk]? = some (.loop r))
    (h : LoopR φ s.next st q fr ps x y r') : Step C w0 φ s φ (s.setObj l (.loop st q fr ps x y)) (w.putObj loc.blk (.loop r')) := by
  have hlt : loc.blk < w.heap.size := (Array.getElem?_eq_some_iff.1 hh).1
  refine R.put hb hl (o' := .loop r') (fun k => ?_) (by simp) rfl rfl rfl h
  split
  · rename_i e; subst e; exact World.putObj_heap_same hlt
  · rename_i e; exact World.putObj_heap_other e

theorem setParams_rel : ∀ (ps : List Nat) (vs vs' : List Value) (fr : Fr) (tmps : Array Value), VRs φ N vs vs' → fr.marks = [] → FrR φ N fr { tmps := tmps, defers := [] } →
    FrR φ N (setParams ps vs fr) { tmps := (ps.zip vs').foldl (fun t (p, v) => t.setIfInBounds p v) tmps, defers := [] }
  | [], vs, vs', fr, tmps, hv, hm, hf => by simpa [setParams] using hf
  | p :: ps, [], vs', fr, tmps, hv, hm, hf => by cases hv; simpa [setParams] using hf
  | p :: ps, v :: vs, vs', fr, tmps, hv, hm, hf => by
    cases hv with
    | cons _ v' _ m hv hm2 =>
      simp only [setParams, List.zip_cons_cons, List.foldl_cons]
      refine setParams_rel ps vs m _ _ hm2 (by rw [put_marks]; exact hm) ?_
      have := hf.put (some p) hv
      simpa [Act.put] using this

theorem LoopR.frr {st : Nat} {q : Option AX} {fr : Fr} {ps : List Nat} {x y : Code} {r : Loop} (h : LoopR φ N st q fr ps x y r) : FrR φ N fr { tmps := r.tmps, defers := [] } :=
  ⟨by rw [h.marks]; trivial, h.size, h.tmps⟩

theorem around_sound {F : Fence} (hF : FW F) {hd : HH Prop} (hH : HC C w0 hd.code) (R : Rel C w0 φ s w) {l : Nat} {u : Value} {args args' : List Value} {K : Value → St → Prop} (hu : VR φ s.next (.func (.yield l) #[] #[]) u)
    (hargs : VRs φ s.next args args') (h : around C ansP hd s l args K) : ∃ m f tmps x y, u = .func (.yield m) #[] #[] ∧ (Instr.yield m args'.toArray).run C.P w = .ok (.round m f tmps x y) w ∧
    ∀ n, RoundIn F n C.P m f tmps x y w fun e w' => ∃ v v' φ' s', e = .returned v' ∧ Step C w0 φ s φ' s' w' ∧ VR φ' s'.next v v' ∧ K v s' := by
  unfold around at h
  split at h
  case h_2 => exact h.elim
  rename_i q fr ps x y hb ho
  have hb := Nat.le_of_ble_eq_true hb
  split at h
  case h_2 => exact h.elim
  rename_i hlen
  have hlen := Nat.eq_of_beq_eq_true hlen
  obtain ⟨loc, r, hl, hh, hr⟩ := R.loop hb ho
  cases hu with
  | yield _ m hbl hm =>
  obtain rfl := hm loc hl
  refine ⟨_, r.fn, _, r.assign, r.body, rfl, run_yield (r := r) hh ?_, fun n => ?_⟩
  · have h1 := hargs.length
    have h2 : r.params.toList.length = ps.length := by rw [hr.params]
    simp at h2 ⊢
    omega
  refine roundIn_of_wpIn (hF.fn _) ?_
  rw [hF.inr]
  have hf0 : FrR φ s.next (setParams ps args fr) { tmps := (r.params.zip args'.toArray).foldl (fun tmps (t, a) => tmps.setIfInBounds t a) r.tmps, defers := [] } := by
    have := setParams_rel ps args args' fr r.tmps hargs hr.marks hr.frr
    rw [← hr.params] at this
    rw [hr.params] at this
    rw [show ((r.params.zip args'.toArray).foldl (fun tmps (t, a) => tmps.setIfInBounds t a) r.tmps) = (ps.zip args').foldl (fun t (p, v) => t.setIfInBounds p v) r.tmps from by
      rw [← hr.params, ← Array.foldl_toList]; simp]
    exact this
  rw [hr.assign]
  refine hH loc.blk n x _ s φ _ w _ _ R hf0 h fun e fr1 s1 φ1 a1 w1 R1 L1 F1 h1 => ?_
  split at h1
  case h_2 => exact h1.elim
  rename_i q1 f1 p1 x1 y1 ho1
  obtain ⟨loc1, r1, hl1, hh1, hr1⟩ := R1.loop hb ho1
  have : loc1 = loc := by
    have := L1.some hbl hl1
    rw [hl] at this; cases this; rfl
  subst this
  have hst : r1.state = .ready := by have := hr1.state; generalize r1.state = z at this ⊢; cases z <;> first | rfl | cases this
  refine ⟨_, run_beginRound hh1 hst, ?_⟩
  have S1 := R1.putLoop (st := 1) (q := q1) (fr := f1) (ps := p1) (x := x1) (y := y1) (r' := { r1 with state := .busy }) hb hl1 hh1 { hr1 with state := rfl }
  rw [hr.body]
  refine hH loc1.blk n y _ _ φ1 _ _ _ _ S1.rel (F1.later S1.later) h1 fun e fr2 s2 φ2 a2 w2 R2 L2 F2 h2 => ?_
  split at h2
  case h_2 => exact h2.elim
  rename_i st2 q2 f2 p2 x2 y2 ho2
  obtain ⟨loc2, r2, hl2, hh2, hr2⟩ := R2.loop hb ho2
  have hbl1 : l < s1.next := Nat.lt_of_lt_of_le hbl L1.1
  have : loc2 = loc1 := by
    have := L2.some (b := l) (Nat.lt_of_lt_of_le hbl1 S1.later.1) hl2
    rw [hl1] at this; cases this; rfl
  subst this
  have L02 : Later φ s.next φ2 s2.next := L1.trans (S1.later.trans L2)
  cases e with
  | normal =>
    have S2 := R2.putLoop (st := 0) (q := none) (fr := f2) (ps := p2) (x := x2) (y := y2) (r' := { r2 with state := .ready, pending := none }) hb hl2 hh2 { hr2 with state := rfl, pend := rfl }
    exact ⟨_, _, run_endRound none hh2, _, _, φ2, _, rfl, ⟨S2.rel, L02.trans S2.later⟩, .bool true, h2⟩
  | ret =>
    have S2 := R2.putLoop (st := 2) (q := some .ret) (fr := f2) (ps := p2) (x := x2) (y := y2) (r' := { r2 with state := .done, pending := some .ret }) hb hl2 hh2 { hr2 with state := rfl, pend := ⟨_, rfl, rfl⟩ }
    exact ⟨_, _, run_endRound (some .ret) hh2, _, _, φ2, _, rfl, ⟨S2.rel, L02.trans S2.later⟩, .bool false, h2⟩
  | exit id =>
    have S2 := R2.putLoop (st := 2) (q := some (.exit id)) (fr := f2) (ps := p2) (x := x2) (y := y2) (r' := { r2 with state := .done, pending := some (.exit id) }) hb hl2 hh2 { hr2 with state := rfl, pend := ⟨_, rfl, rfl⟩ }
    exact ⟨_, _, run_endRound (some (.exit id)) hh2, _, _, φ2, _, rfl, ⟨S2.rel, L02.trans S2.later⟩, .bool false, h2⟩

theorem callable_run {g : FuncId} (h : callable C g = true) (args : Array Value) (w : World) : (callFunc g args).run C.P w = .ok (.enter g args) w := by
  unfold callable at h
  split at h
  · rename_i fn hfn
    split at h
    · rename_i c hb
      have hn : (fn.name == "runtime.NumGoroutine") = false := by simpa using h
      simp only [callFunc, Sem.run_bind, run_program, Result.andThen_ok, hfn, hn, Bool.false_eq_true, if_false, hb, Option.isNone_some]
      rfl
    · cases h
  · cases h

theorem findNext_clone {fn : Func} (h1 : fn.name = "maps.clone") (h2 : fn.origin = "") : Extern.findNext fn = none := by
  have e1 : Extern.allNextRows.lookup "maps.clone" = none := by kernel_rfl
  have e2 : Extern.allNextRows.lookup "" = none := by kernel_rfl
  unfold Extern.findNext
  simp only [h1, h2, e1, e2]
  rfl
theorem find_clone {fn : Func} (h1 : fn.name = "maps.clone") : Extern.find fn = some Extern.MapsClone.clone := by
  have e1 : Extern.allGenericRows.lookup "maps.clone" = none := by kernel_rfl
  have e2 : Extern.allTypedRows.lookup "maps.clone" = none := by kernel_rfl
  have e3 : Extern.allRows.lookup "maps.clone" = some Extern.MapsClone.clone := by kernel_rfl
  unfold Extern.find
  simp only [h1, e1, e2, e3]
  rfl
theorem clone_run {g : FuncId} (h : isClone C g = true) (args : Array Value) (w : World) : (callFunc g args).run C.P w = ((Extern.MapsClone.clone args).run C.P w).andThen fun v w' => .ok (.value v) w' := by
  unfold isClone at h
  split at h
  · rename_i fn hfn
    split at h
    · cases h
    · rename_i hb
      simp only [Bool.and_eq_true, beq_iff_eq] at h
      obtain ⟨h1, h2⟩ := h
      have hn : (fn.name == "runtime.NumGoroutine") = false := by rw [h1]; decide
      simp only [callFunc, Sem.run_bind, run_program, Result.andThen_ok, hfn, hn, Bool.false_eq_true, if_false, hb, Option.isNone_none, if_true, findNext_clone h1 h2, find_clone h1]
      rfl
  · cases h
theorem aclone_sound (R : Rel C w0 φ s w) {g : FuncId} {args args' : List Value} {v : Value} {s1 : St} (h : aclone C s g args = some (v, s1)) (ha : VRs φ s.next args args') :
    ∃ v' φ' w', (callFunc g args'.toArray).run C.P w = .ok (.value v') w' ∧ Step C w0 φ s φ' s1 w' ∧ VR φ' s1.next v v' := by
  unfold aclone at h
  split at h
  case h_2 => cases h
  rename_i t m hi
  split at h
  case h_2 => cases h
  rename_i es c hb ho
  cases h
  have hb := Nat.le_of_ble_eq_true hb
  obtain ⟨loc, hl, hob⟩ := R.objs m _ hb ho rfl
  generalize hw : w.heap[loc.blk]? = ob at hob
  cases ha with
  | cons _ v' _ l' hv hn =>
    cases hn
    cases hv with
    | iface _ _ v2 hv =>
      cases hv with
      | map _ m' _ hm =>
        have hm := hm loc hl
        subst hm
        cases ob with
        | none => exact (hob : False).elim
        | some o => cases o with
          | map es' c' =>
            obtain ⟨hc, he⟩ : c' = c ∧ EntsR φ s.next es es'.toList := hob
            subst hc
            refine ⟨.iface t (.map (some w.heap.size)), upd φ s.next ⟨w.heap.size, 0, 0⟩, w.alloc (.map es' c'), ?_, R.alloc (ob := .map es c') (o' := .map es' c') (sz := 0) ⟨rfl, he⟩, .iface _ _ _ (.map _ _ (Nat.lt_succ_self _) fun l h => ?_)⟩
            · rw [clone_run hi]
              have e : Extern.MapsClone.clone #[.iface t (.map (some loc.blk))] = (getObj loc.blk >>= fun o => match o with
                | .map entries clock => (newObj (.map entries clock) >>= fun n => pure (.iface t (.map (some n))))
                | _ => stuck "maps.clone: a map expected") := rfl
              have hg : (getObj loc.blk).run C.P w = .ok (.map es' c') w := by simp [getObj, Sem.run, hw]
              show ((Extern.MapsClone.clone #[.iface t (.map (some loc.blk))]).run C.P w).andThen _ = _
              rw [e]
              simp [hg, Result.andThen]
            · unfold upd at h
              rw [if_pos rfl] at h
              cases h
              rfl
          | _ => exact (hob : False).elim
theorem amethod_sound (R : Rel C w0 φ s w) {r r' x : Value} {name : String} {g : FuncId} (h : amethod C s r name = some (g, x)) (hr : VR φ s.next r r') (args : Array Value) :
    ∃ x', (callMethod r' name args).run C.P w = (callFunc g (#[x'] ++ args)).run C.P w ∧ VR φ s.next x x' := by
  unfold amethod at h
  split at h
  case h_2 => cases h
  rename_i t v
  cases hr with
  | iface _ _ v' hv =>
    split at h
    case h_2 => cases h
    rename_i i d hi hu
    split at h
    case h_2 => cases h
    rename_i m hm
    obtain ⟨k, hk⟩ : ∃ k, C.P.types.size + Made.depth = k + 1 := ⟨C.P.types.size + 99, rfl⟩
    have hm' : i.methods.find? (·.name == name) = some m := by rw [← hm]; simp
    have run : ∀ (fn : FuncId) (pr : Bool) (rv : Value), m.path.toList = [] → m.func = some (fn, pr) → (receiverAt t (.val v') pr (if m.path.isEmpty then some ((name.splitOn ".").getLastD name) else none)).run C.P w = .ok rv w →
        (callMethod (.iface t v') name args).run C.P w = (callFunc fn (#[rv] ++ args)).run C.P w := by
      intro fn pr rv hp hf hrun
      simp only [callMethod, Sem.run_bind, run_program, Result.andThen_ok, hk, method, run_tinfo hi, hm', hp, follow, Sem.run_pure, hf, hrun]
    split at h
    · rename_i hp hf
      cases h
      exact ⟨v', run _ true v' hp hf (by simp [receiverAt, run_und hu, Place.get]), hv⟩
    · rename_i e hp hf
      split at h
      · rename_i ad
        cases hl : aload C s e (.pointer (some ad)) with
        | none => simp [hl] at h
        | some y =>
          simp only [hl, Option.map_some, Option.some.injEq] at h
          cases h
          obtain ⟨y', h1, h2⟩ := aload_sound R hl hv
          cases hv with
          | ptr b o ad' hb ha =>
            refine ⟨y', run _ false y' hp hf ?_, h2⟩
            have hpe : m.path.isEmpty = true := by
              have : m.path = #[] := by apply Array.ext'; simpa using hp
              rw [this]; rfl
            have hwn : ∀ (nm : String), Builtin.ssaWrapNilChk_ #[t] t #[.pointer (some ad'), strVal "", strVal nm] = (pure (.pointer (some ad')) : Sem Value) := fun _ => rfl
            simp only [Instr.loadAt, Instr.sureAddr, Sem.run_bind, Sem.run_pure, Result.andThen_ok] at h1
            simp [receiverAt, run_und hu, Place.get, hpe, hwn, asAddr, h1]
      · cases h
    · rename_i dd hp hf hnp
      have key : (receiverAt t (.val v') false (if m.path.isEmpty then some ((name.splitOn ".").getLastD name) else none)).run C.P w = .ok v' w := by
        unfold receiverAt
        simp only [Sem.run_bind, run_und hu, Result.andThen_ok]
        cases dd <;> first | rfl | exact absurd rfl (hnp _)
      cases h
      exact ⟨v', run _ false v' hp hf key, hv⟩
    · cases h

/-- The interpreter's operation, and the machine's. -/
theorem aop_sound {F : Fence} (hF : FW F) {hd : HH Prop} (hH : HHS C hd) (R : Rel C w0 φ s w) {o : Oper} {a : Act} {ρ : Operand → Value} (hρ : RhoR φ s.next o.op ρ a.eval) {K : Value → St → Prop}
    (h : aop C ansP hd s o.op ρ K) (n : Nat) (next : Act → World → Prop) (Q : Exit → Act → World → Prop)
    (hn : ∀ v v' φ' s' w', Step C w0 φ s φ' s' w' → VR φ' s'.next v v' → K v s' → next (a.put o.dst v') w') : o.wpIn F n C.P a w next Q := by
  have hfn : ∀ f, o.about C.P w a.eval = some f → F.fn f := fun f _ => hF.fn f
  have hdep : F.depth.isSome = true → 1 ≤ n := fun h => by rw [hF.depth] at h; cases h
  have nodef : (∀ c, o.op ≠ .defer c) → o.uponIn F n C.P a next Q ((execOp a.eval o).run C.P w) → o.wpIn F n C.P a w next Q := fun h1 h2 => by
    refine ⟨hfn, ?_⟩
    rw [Oper.semAt_eq _ _ _ h1]
    exact h2
  have val : ∀ {v' : Value} {w' : World}, (execOp a.eval o).run C.P w = .ok (.value v') w' → next (a.put o.dst v') w' → o.uponIn F n C.P a next Q ((execOp a.eval o).run C.P w) := fun h1 h2 => by
    rw [h1]; exact h2
  unfold aop at h
  split at h
  · exact h.elim
  split at h
  · -- computed
    rename_i v hp
    have hnd : ∀ c, o.op ≠ .defer c := fun c e => by rw [e] at hp; simp [aP] at hp
    obtain ⟨v', h1, h2⟩ := aP_sound R.next R.nowhere hρ hp w
    exact nodef hnd (val h1 (hn v v' φ s w (Step.refl R) h2 h))
  · split at h
    · rename_i v hr
      have hnd : ∀ c, o.op ≠ .defer c := fun c e => by rw [e] at hr; simp [aR] at hr
      obtain ⟨v', h1, h2⟩ := aR_sound R hρ hr
      exact nodef hnd (val h1 (hn v v' φ s w (Step.refl R) h2 h))
    · split at h
      · rename_i ob mk hm
        have hnd : ∀ c, o.op ≠ .defer c := fun c e => by rw [e] at hm; simp [aA] at hm
        obtain ⟨o', v', sz, h1, h2, h3⟩ := aA_sound hρ hm w
        have hA := R.alloc h2
        refine nodef hnd (val h1 (hn _ v' _ _ _ hA (h3 _ _ _ (Nat.lt_succ_self _) fun l hl => ?_) h))
        unfold upd at hl; rw [if_pos rfl] at hl; cases hl; rfl
      · unfold aE at h
        split at h
        · rename_i v s1 hw
          have hnd : ∀ c, o.op ≠ .defer c := fun c e => by rw [e] at hw; simp [aW] at hw
          obtain ⟨nx, v', φ', w', h1, h2, h3, h4⟩ := aW_sound R hρ hw
          refine nodef hnd ?_
          rcases h2 with rfl | ⟨rfl, rfl⟩
          · rw [h1]; exact hn v v' φ' s1 w' h3 h4 h
          · rw [h1]; exact hn v undef φ' s1 w' h3 h4 h
        · split at h
          · -- a call
            rename_i c ho
            have hnd : ∀ c, o.op ≠ .defer c := fun c e => by rw [e] at ho; cases ho
            have enter : ∀ {g : FuncId} {args args' : List Value}, (execOp a.eval o).run C.P w = .ok (.enter g args'.toArray) w → VRs φ s.next args args' → hd.call g args s K → o.wpIn F n C.P a w next Q := by
              intro g args args' h1 h2 h3
              refine nodef hnd ?_
              rw [h1, Oper.uponIn_enter]
              refine ⟨hdep, hF.calls _ _ _ _ _ _ ((hH.call _ g args args' s φ w K R h2 h3).mono ?_)⟩
              rintro e w' ⟨v, v', φ', s', rfl, h4, h5, h6⟩
              exact hn v v' φ' s' w' h4 h5 h6
            obtain ⟨callee, cargs, cts⟩ := c
            have hargs : ∀ x, x ∈ cargs.toList → VR φ s.next (ρ x) (a.eval x) := fun x hx => by
              apply hρ
              rw [ho]
              show x ∈ (Call.operands _).toList
              unfold Call.operands
              rw [Array.toList_append]
              exact List.mem_append_right _ hx
            unfold acallOp at h
            cases callee with
            | value f =>
              simp only at h
              have hf := hρ f (by rw [ho]; simp [Op.operands, Call.operands])
              split at h
              · rename_i g first cap ef
                split at h
                · rename_i hc
                  rw [ef] at hf
                  generalize hc' : a.eval f = c' at hf
                  cases hf with
                  | func _ fi ca fi' ca' k1 k2 =>
                    refine enter (args' := fi' ++ (cargs.toList.map a.eval ++ ca')) ?_ (k1.append ((mapR hargs).append k2)) h
                    unfold execOp; rw [ho]
                    simp only [resolve, hc', Deferred.ofValue, Sem.run_bind, Sem.run_pure, Result.andThen_ok, invoke]
                    rw [callable_run hc]
                    congr 2
                    simp
                · split at h
                  · rename_i v1 s1 hcl
                    rw [ef] at hf
                    generalize hc' : a.eval f = c' at hf
                    cases hf with
                    | func _ fi ca fi' ca' k1 k2 =>
                      obtain ⟨v', φ', w', h1, h2, h3⟩ := aclone_sound R hcl (k1.append ((mapR hargs).append k2))
                      refine nodef hnd (val (w' := w') ?_ (hn v1 v' φ' s1 w' h2 h3 h))
                      unfold execOp; rw [ho]
                      simp only [resolve, hc', Deferred.ofValue, Sem.run_bind, Sem.run_pure, Result.andThen_ok, invoke]
                      rw [← h1]
                      congr 2
                      simp
                  · exact h.elim
              · rename_i l _ _ ef
                rw [ef] at hf
                generalize hc' : a.eval f = c' at hf
                have hee : ∃ x y, Value.func (.yield l) x y = .func (.yield l) #[] #[] := ⟨#[], #[], rfl⟩
                have hf' : VR φ s.next (.func (.yield l) #[] #[]) c' := by cases hf; constructor <;> assumption
                obtain ⟨m, fn, tmps, x, y, hu, h1, h2⟩ := around_sound hF (hH.code _) R hf' (mapR hargs) h
                refine nodef hnd ?_
                have hrun : (execOp a.eval o).run C.P w = .ok (.round m fn tmps x y) w := by
                  unfold execOp; rw [ho]
                  simp only [resolve, hc', hu, Deferred.ofValue, Sem.run_bind, Sem.run_pure, Result.andThen_ok, invoke]
                  rw [← h1]
                  congr 2
                  apply Array.ext'; simp
                rw [hrun, Oper.uponIn_round]
                refine ⟨hdep, (h2 _).mono ?_⟩
                rintro e w' ⟨v, v', φ', s', rfl, h4, h5, h6⟩
                exact hn v v' φ' s' w' h4 h5 h6
              · exact h.elim
            | invoke r name =>
              simp only at h
              have hr := hρ r (by rw [ho]; simp [Op.operands, Call.operands])
              split at h
              · rename_i g x hm
                split at h
                · rename_i hc
                  obtain ⟨x', h1, h2⟩ := amethod_sound R hm hr (cargs.map a.eval)
                  refine enter (args' := x' :: cargs.toList.map a.eval) ?_ (.cons _ _ _ _ h2 (mapR hargs)) h
                  unfold execOp; rw [ho]
                  simp only [resolve, Sem.run_bind, Sem.run_pure, Result.andThen_ok, invoke]
                  have e1 : (#[a.eval r] ++ cargs.map a.eval)[0]? = some (a.eval r) := by rw [Array.getElem?_append_left (by simp)]; rfl
                  have e2 : (#[a.eval r] ++ cargs.map a.eval).extract 1 (#[a.eval r] ++ cargs.map a.eval).size = cargs.map a.eval := by
                    apply Array.ext'
                    simp
                    exact List.take_of_length_le (by simp)
                  simp only [e1, e2]
                  rw [h1, callable_run hc]
                  congr 2
                  apply Array.ext'; simp
                · exact h.elim
              · exact h.elim
            | builtin b => exact h.elim
          · -- the next entry of a map
            rename_i it ho
            have hnd : ∀ c, o.op ≠ .defer c := fun c e => by rw [e] at ho; cases ho
            obtain ⟨v, v', s1, w', h1, h2, h3, h4⟩ := anext_sound (ty := o.type) R h (hρ it (by rw [ho]; simp [Op.operands]))
            refine nodef hnd (val (w' := w') ?_ (hn v v' φ s1 w' h2 h3 h4))
            unfold execOp; rw [ho]
            simp only [Sem.run_bind, h1, Result.andThen_ok, Sem.run_pure]
          · exact h.elim
end
end Go.Proofs.Ytpdhkonifbdckaa.Abs
