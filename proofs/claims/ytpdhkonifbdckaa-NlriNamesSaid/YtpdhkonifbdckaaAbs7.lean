/- Memory: the relation between abstract and concrete memory; reading it. -/
import Derived.Test.YtpdhkonifbdckaaAbs6
namespace Go.Proofs.Ytpdhkonifbdckaa.Abs
open Go
set_option linter.unusedSectionVars false
variable [Tok]
set_option linter.unusedSimpArgs false

def RowR (φ : Nat → Option Loc) (N : Nat) (cs : List Value) (c : Array Value) : Prop := ∀ (j : Nat) (v : Value), cs[j]? = some v → ∃ v', c[j]? = some v' ∧ VR φ N v v'

def EntR (φ : Nat → Option Loc) (N : Nat) (e : MEnt) (e' : MapEntry) : Prop := e'.key = e.key ∧ scal e.key = true ∧ e'.born = e.born ∧ VR φ N e.val e'.val
def EntsR (φ : Nat → Option Loc) (N : Nat) : List MEnt → List MapEntry → Prop
  | [], [] => True
  | e :: es, e' :: es' => EntR φ N e e' ∧ EntsR φ N es es'
  | _, _ => False

def IterR (φ : Nat → Option Loc) (N : Nat) : Option Nat → Option Nat → Prop
  | none, none => True
  | some b, some m => b < N ∧ ∀ l, φ b = some l → m = l.blk
  | _, _ => False

def codeOf : AX → Option Code
  | .normal => none
  | .ret => some .ret
  | .exit id => some (.exit id)
def stOf : LoopState → Nat
  | .ready => 0
  | .busy => 1
  | .done => 2
  | .exhausted => 3
def PendR : Option AX → Option Code → Prop
  | none, p => p = none
  | some e, p => ∃ c, codeOf e = some c ∧ p = some c
structure LoopR (φ : Nat → Option Loc) (N : Nat) (st : Nat) (q : Option AX) (fr : Fr) (ps : List Nat) (assign body : Code) (r : Loop) : Prop where
  state : st = stOf r.state
  pend : PendR q r.pending
  params : r.params.toList = ps
  assign : r.assign = assign
  body : r.body = body
  marks : fr.marks = []
  size : r.tmps.size = fr.nt
  tmps : ∀ t, VR φ N (fr.get t) (r.tmps.getD t undef)
theorem LoopR.later {φ φ' : Nat → Option Loc} {N N' : Nat} {st : Nat} {q : Option AX} {fr : Fr} {ps : List Nat} {x y : Code} {r : Loop} (h : LoopR φ N st q fr ps x y r) (L : Later φ N φ' N') : LoopR φ' N' st q fr ps x y r :=
  { h with tmps := fun t => (h.tmps t).later L }

/-- No cell of a row of n cells lies in the mark f. -/
def Unm (n : Nat) (f : Nat × Nat) : Prop := (Nat.ble f.2 f.1 || Nat.ble n f.1) = true
theorem Unm.out {n : Nat} {f : Nat × Nat} (h : Unm n f) {j : Nat} (hj : j < n) : ¬ (f.1 ≤ j ∧ j < f.2) := by
  unfold Unm at h
  rcases Bool.or_eq_true_iff.1 h with h | h
  · have := Nat.le_of_ble_eq_true h; omega
  · have := Nat.le_of_ble_eq_true h; omega
def ObjR (φ : Nat → Option Loc) (N : Nat) (o : AObj) (l : Loc) (ob : Option Obj) : Prop := match o, ob with
  | .row cs _ _, some (.cells c _ f) => Unm c.size f ∧ c.size = l.size ∧ RowR φ N cs c
  | .map es clock, some (.map es' clock') => clock' = clock ∧ EntsR φ N es es'.toList
  | .iter m since seen last, some (.mapIter m' since' seen' last') => since' = since ∧ seen'.toList = seen ∧ last' = last ∧ IterR φ N m m'
  | .loop st q fr ps a b, some (.loop r) => LoopR φ N st q fr ps a b r
  | .dblk, some (.deferred (some [])) => True
  | _, _ => False

def AObj.live : AObj → Bool
  | .dead => false
  | _ => true

/-- The places of old blocks. -/
def φold (C : Ctx) (b : Nat) : Option Loc := if b < C.B0 then (C.old b).map fun _ => ⟨b, 0, 0⟩ else none

structure OldOk (C : Ctx) (w0 : World) : Prop where
  rows : ∀ b cs, b < C.B0 → C.old b = some cs → ∃ c e f, w0.heap[b]? = some (.cells c e f) ∧ RowR (φold C) C.B0 cs c

def Thawed : Obj → Prop
  | .cells c _ f => Unm c.size f
  | _ => True

/-- The world that a run began in, and the blocks that stand aside: nothing changes them. -/
structure Base extends World where
  held : List (Nat × Obj)

structure Rel (C : Ctx) (w0 : Base) (φ : Nat → Option Loc) (s : St) (w : World) : Prop where
  old : OldOk C w0.toWorld
  base : ∀ b, b < w0.heap.size → w.heap[b]? = w0.heap[b]?
  size : w0.heap.size ≤ w.heap.size
  os : w.os = w0.os
  tape : w.tape = w0.tape
  output : w.output = w0.output
  next : C.B0 < s.next
  nowhere : φ C.B0 = none
  fresh : ∀ b, s.next ≤ b → φ b = none
  lows : ∀ b, b < C.B0 → φ b = φold C b
  inj : ∀ b b' l l', φ b = some l → φ b' = some l' → l.blk = l'.blk → b = b'
  lt : ∀ b l, φ b = some l → l.blk < w.heap.size
  own : ∀ b l, C.B0 ≤ b → φ b = some l → w0.heap.size ≤ l.blk
  objs : ∀ b o, C.B0 ≤ b → s.obj b = some o → o.live = true → ∃ l, φ b = some l ∧ ObjR φ s.next o l w.heap[l.blk]?
  thaw : ∀ b o, w0.heap.size ≤ b → w.heap[b]? = some o → Thawed o
  held : ∀ x, x ∈ w0.held → w0.heap.size ≤ x.1 ∧ w.heap[x.1]? = some x.2 ∧ ∀ b l, φ b = some l → l.blk ≠ x.1
  nd : (w0.held.map (·.1)).Nodup

section
variable {C : Ctx} {w0 : Base} {φ φ' : Nat → Option Loc} {s s' : St} {w w' : World} {N N' : Nat}

theorem RowR.later {cs : List Value} {c : Array Value} (h : RowR φ N cs c) (L : Later φ N φ' N') : RowR φ' N' cs c :=
  fun j v hj => let ⟨v', h1, h2⟩ := h j v hj; ⟨v', h1, h2.later L⟩
theorem ObjR.thawed {o : AObj} {l : Loc} {ob : Obj} (h : ObjR φ N o l (some ob)) : Thawed ob := by
  cases ob with
  | cells c e f => cases o <;> first | exact h.1 | exact h.elim
  | _ => trivial
theorem EntsR.later : ∀ {es : List MEnt} {es' : List MapEntry}, EntsR φ N es es' → Later φ N φ' N' → EntsR φ' N' es es'
  | [], [], _, _ => trivial
  | _ :: _, _ :: _, ⟨⟨h1, h2, h3, h4⟩, h⟩, L => ⟨⟨h1, h2, h3, h4.later L⟩, h.later L⟩
theorem IterR.later : ∀ {m m' : Option Nat}, IterR φ N m m' → Later φ N φ' N' → IterR φ' N' m m'
  | none, none, _, _ => trivial
  | some _, some _, ⟨h1, h2⟩, L => ⟨Nat.lt_of_lt_of_le h1 L.1, fun l hl => h2 l (L.some h1 hl)⟩
theorem ObjR.later {o : AObj} {l : Loc} {ob : Option Obj} (h : ObjR φ N o l ob) (L : Later φ N φ' N') : ObjR φ' N' o l ob := by
  unfold ObjR at h ⊢
  split at h
  · exact ⟨h.1, h.2.1, h.2.2.later L⟩
  · exact ⟨h.1, h.2.later L⟩
  · exact ⟨h.1, h.2.1, h.2.2.1, h.2.2.2.later L⟩
  · exact LoopR.later h L
  · trivial
  · exact h.elim

theorem Rel.low (R : Rel C w0 φ s w) : Later (φold C) C.B0 φ s.next := ⟨Nat.le_of_lt R.next, fun b hb => .inl (R.lows b hb)⟩

/-- A block that the interpreter reads as a row is a row of cells. -/
theorem Rel.row (R : Rel C w0 φ s w) {b : Nat} {cs : List Value} (h : rowOf C s b = some cs) :
    ∃ l c e f, φ b = some l ∧ w.heap[l.blk]? = some (.cells c e f) ∧ RowR φ s.next cs c := by
  unfold rowOf at h
  split at h
  · rename_i hb
    have hb' : b < C.B0 := Nat.le_of_ble_eq_true hb
    obtain ⟨c, e, f, h1, h2⟩ := R.old.rows b cs hb' h
    have hlt : b < w0.heap.size := (Array.getElem?_eq_some_iff.1 h1).1
    refine ⟨⟨b, 0, 0⟩, c, e, f, ?_, by rw [R.base b hlt]; exact h1, h2.later R.low⟩
    rw [R.lows b hb', φold, if_pos hb', h]; rfl
  · rename_i hb
    have hb' : C.B0 ≤ b := by
      rcases Nat.lt_or_ge b C.B0 with h1 | h1
      · have : Nat.blt b C.B0 = true := Nat.ble_eq_true_of_le h1
        rw [this] at hb; cases hb
      · exact h1
    split at h
    · rename_i cs' es el ho
      cases h
      obtain ⟨l, hl, hob⟩ := R.objs b _ hb' ho rfl
      unfold ObjR at hob
      split at hob
      · rename_i c e f hh hx
        injection hh with h1 h2 h3
        subst h1
        exact ⟨l, c, e, f, hl, hx, hob.2.2⟩
      · rename_i hh _; cases hh
      · rename_i hh _; cases hh
      · rename_i hh _; cases hh
      · rename_i hh _; cases hh
      · exact hob.elim
    · cases h

theorem run_loadCells_row {b o n : Nat} {c : Array Value} {e : TypeId} {f : Nat × Nat} {cs r : List Value} (hh : w.heap[b]? = some (.cells c e f)) (hr : RowR φ N cs c) (hc : cut cs o n = some r) (P : Program) :
    ∃ r', (loadCells ⟨b, o, none⟩ n).run P w = .ok ⟨r'⟩ w ∧ VRs φ N r r' := by
  obtain ⟨e1, hl⟩ := cut_some hc
  have hget : ∀ j, j < n → ∃ v', c[o + j]? = some v' := by
    intro j hj
    have hj' : j < r.length := by omega
    have h1 : cs[o + j]? = some r[j] := by rw [← cut_get hc hj]; exact List.getElem?_eq_getElem hj'
    obtain ⟨v', h2, _⟩ := hr _ _ h1
    exact ⟨v', h2⟩
  have hrun := run_loadCells (P := P) w ⟨b, o, none⟩ n (fun j => (c[o + j]?).getD undef) (fun j hj => by
    obtain ⟨v', h2⟩ := hget j hj
    rw [add_off]
    simp [World.cell?, hh, h2])
  refine ⟨_, hrun, VRs.mk (by simp [hl]) fun j v v' h1 h2 => ?_⟩
  have hj : j < n := by
    rw [← hl]
    exact (List.getElem?_eq_some_iff.1 h1).1
  rw [cut_get hc hj] at h1
  obtain ⟨u, h3, h4⟩ := hr _ _ h1
  simp only [List.getElem?_map, List.getElem?_range hj, Option.map_some, Option.some.injEq, h3, Option.getD_some] at h2
  subst h2
  exact h4

theorem aload_sound (R : Rel C w0 φ s w) {t : TypeId} {v v' x : Value} (h : aload C s t v = some x) (hv : VR φ s.next v v') :
    ∃ x', (Instr.loadAt t v').run C.P w = .ok x' w ∧ VR φ s.next x x' := by
  unfold aload at h
  split at h
  · rename_i b o
    split at h
    · rename_i g n cs hg hn hcs
      obtain ⟨l, c, e, f, hl, hh, hr⟩ := R.row hcs
      cases hv with
      | ptr _ _ a hb ha =>
        have := ha l hl
        subst this
        cases hcut : cut cs o (if g then n else 1) with
        | none => simp [hcut] at h
        | some r =>
          simp only [hcut, Option.bind_some] at h
          cases g with
          | true =>
            simp only [valueOf, Option.some.injEq] at h
            subst h
            simp only [if_true] at hcut
            obtain ⟨r', h1, h2⟩ := run_loadCells_row hh hr hcut C.P
            exact ⟨.agg ⟨r'⟩, by simp [Instr.loadAt, Instr.sureAddr, loadVar, run_agg hg, run_size hn, h1], .agg _ _ h2⟩
          | false =>
            simp only [if_neg Bool.false_ne_true] at hcut
            cases r with
            | nil => simp [valueOf] at h
            | cons u r =>
              cases r with
              | cons _ _ => simp [valueOf] at h
              | nil =>
                simp only [valueOf, Option.some.injEq] at h
                subst h
                have h1 : cs[o]? = some u := by have := cut_get hcut (j := 0) (by omega); simpa using this.symm
                obtain ⟨u', h2, h3⟩ := hr _ _ h1
                exact ⟨u', by simp [Instr.loadAt, Instr.sureAddr, loadVar, run_agg hg, World.cell?, hh, h2], h3⟩
    · cases h
  · cases h

/-! ### Maps -/
theorem mapOf_sound (R : Rel C w0 φ s w) {v v' : Value} {b clock : Nat} {es : List MEnt} (h : mapOf C s v = some (b, es, clock)) (hv : VR φ s.next v v') :
    ∃ l es', C.B0 ≤ b ∧ s.obj b = some (.map es clock) ∧ φ b = some l ∧ v' = .map (some l.blk) ∧ w.heap[l.blk]? = some (.map es' clock) ∧ EntsR φ s.next es es'.toList := by
  unfold mapOf at h
  split at h
  · rename_i b'
    split at h
    · rename_i es1 c1 hb ho
      cases h
      have hb' := Nat.le_of_ble_eq_true hb
      obtain ⟨l, hl, hob⟩ := R.objs b _ hb' ho rfl
      cases hv with
      | map _ m hm1 hm =>
        have := hm l hl
        subst this
        unfold ObjR at hob
        split at hob
        · rename_i hh _; cases hh
        · rename_i es2 c2 hh hx
          injection hh with h1 h2
          subst h1; subst h2
          obtain ⟨rfl, h3⟩ := hob
          exact ⟨l, _, hb', ho, hl, rfl, hx, h3⟩
        · rename_i hh _; cases hh
        · rename_i hh _; cases hh
        · rename_i hh _; cases hh
        · exact hob.elim
    · cases h
  · cases h

theorem run_getMap {P : Program} {b c : Nat} {es : Array MapEntry} (h : w.heap[b]? = some (.map es c)) : (getObj b).run P w = .ok (.map es c) w := by
  simp only [getObj, Sem.run, h]

theorem apart_scal {t : TypeId} {cs : List Value} {off : Nat} {x : Value} (h : apart' C t cs off = some x) (hs : ∀ y, y ∈ cs → scalCell y = true) : scal x = true := by
  unfold apart' at h
  split at h
  · rename_i n _ _
    cases hc : cut cs off n with
    | none => simp [hc] at h
    | some r =>
      simp only [hc, Option.bind_some, valueOf, Option.some.injEq] at h
      subst h
      obtain ⟨rfl, -⟩ := cut_some hc
      simp only [scal, List.all_eq_true]
      exact fun y hy => hs y (List.mem_of_mem_drop (List.mem_of_mem_take hy))
  · have h1 := hs x (List.mem_of_getElem? h)
    cases x <;> first | exact h1 | simp [scalCell] at h1
  · cases h

theorem scalCell_refl {v : Value} (h : scalCell v = true) : VR φ N v v := by
  unfold scalCell at h
  split at h
  · exact .bool _
  · exact .int _ _
  · exact .string _
  · cases h
theorem scal_rel {cs : List Value} (hs : ∀ y, y ∈ cs → scalCell y = true) : VRs φ N cs cs := by
  have := VRs.map (f := id) (g := id) (φ := φ) (N := N) cs fun y hy => scalCell_refl (hs y hy)
  simpa using this

/-- A part of a scalar aggregate, in the concrete. -/
theorem run_part_scal {t : TypeId} {cs : Array Value} {off : Nat} {x : Value} (h : apart' C t cs.toList off = some x) (hs : ∀ y, y ∈ cs.toList → scalCell y = true) (w : World) :
    (part t cs off).run C.P w = .ok x w := by
  obtain ⟨x', h1, h2⟩ := run_part h (scal_rel (φ := fun _ => none) (N := 0) hs) w
  rw [h2.scal_eq (apart_scal h hs)] at h1
  exact h1

/-- A key that may be a map's: the check finds nothing. -/
theorem keyOk_sound : ∀ (n : Nat) (t : TypeId) (v : Value), akeyOk C n t v = true → scal v = true → ∀ (e : Bool) (w : World), (Instr.checkKey e n t v).run C.P w = .ok () w
  | 0, t, v, h, _, e, w => by simp [akeyOk] at h
  | n + 1, t, v, h, hs, e, w => by
    unfold akeyOk at h
    split at h
    · rename_i fs cs hu
      have hs' : ∀ y, y ∈ cs.toList → scalCell y = true := List.all_eq_true.1 hs
      simp only [Instr.checkKey, Sem.run_bind, run_und hu, Result.andThen_ok]
      rw [← Array.forIn_toList]
      have hall := List.all_eq_true.1 h
      have key : ∀ (l : List Field), (∀ f, f ∈ l → f ∈ fs.toList) → (forIn l PUnit.unit fun (f : Field) (_ : PUnit) => (if f.name ≠ "_" then (do
          let x ← part f.type cs f.offset
          Instr.checkKey e n f.type x
          pure (ForInStep.yield PUnit.unit)) else pure (ForInStep.yield PUnit.unit) : Sem (ForInStep PUnit))).run C.P w = .ok PUnit.unit w := by
        intro l
        induction l with
        | nil => intro _; simp
        | cons f l ih =>
          intro hsub
          have hf := hall f (hsub f (by simp))
          simp only [List.forIn_cons, Sem.run_bind, Sem.run_ite]
          split
          · split at hf
            · rename_i x hx
              simp only [run_part_scal hx hs' w, Result.andThen_ok, keyOk_sound n f.type x hf (apart_scal hx hs') e w, Sem.run_pure]
              exact ih fun g hg => hsub g (by simp [hg])
            · cases hf
          · simp only [Sem.run_pure, Result.andThen_ok]
            exact ih fun g hg => hsub g (by simp [hg])
      have := key fs.toList fun _ h => h
      rw [this]; rfl
    · rename_i len el cs hu
      split at h
      · rename_i k hk
        have hs' : ∀ y, y ∈ cs.toList → scalCell y = true := List.all_eq_true.1 hs
        have hall := List.all_eq_true.1 h
        simp only [Instr.checkKey, Sem.run_bind, run_und hu, Result.andThen_ok, forIn_range_eq]
        have key : ∀ (m i : Nat), i + m ≤ len → (forIn (List.range' i m) PUnit.unit fun (j : Nat) (_ : PUnit) => (do
            let q ← sizeOf el
            let x ← part el cs (j * q)
            Instr.checkKey e n el x
            pure (ForInStep.yield PUnit.unit) : Sem (ForInStep PUnit))).run C.P w = .ok PUnit.unit w := by
          intro m
          induction m with
          | zero => intro i _; simp
          | succ m ih =>
            intro i hi
            have hf := hall i (by simp; omega)
            simp only [List.range'_succ, List.forIn_cons, Sem.run_bind, run_size hk, Result.andThen_ok]
            split at hf
            · rename_i x hx
              simp only [run_part_scal hx hs' w, Result.andThen_ok, keyOk_sound n el x hf (apart_scal hx hs') e w, Sem.run_pure]
              exact ih (i + 1) (by omega)
            · cases hf
        have := key len 0 (by omega)
        rw [this]; rfl
      · cases h
    · cases h
    · cases h
    · cases h
    · cases h
    · cases hu : C.P.underlying t with
      | none => simp_all
      | some d =>
        cases d <;> first
          | (simp only [Instr.checkKey, Sem.run_bind, run_und hu, Result.andThen_ok]; rfl)
          | simp_all
end
end Go.Proofs.Ytpdhkonifbdckaa.Abs
