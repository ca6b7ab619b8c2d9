/- Memory: new blocks, stores, draws. -/
import Derived.Test.YtpdhkonifbdckaaAbs8
namespace Go.Proofs.Ytpdhkonifbdckaa.Abs
open Go
set_option linter.unusedSectionVars false
variable [Tok]
set_option linter.unusedSimpArgs false

def upd (φ : Nat → Option Loc) (b : Nat) (l : Loc) : Nat → Option Loc := fun x => if x = b then some l else φ x
def kill (φ : Nat → Option Loc) (b : Nat) : Nat → Option Loc := fun x => if x = b then none else φ x

section
variable {C : Ctx} {w0 : Base} {φ φ' : Nat → Option Loc} {s s' : St} {w w' : World} {N N' : Nat}

/-- One step of the interpreter, seen from both sides. -/
structure Step (C : Ctx) (w0 : Base) (φ : Nat → Option Loc) (s : St) (φ' : Nat → Option Loc) (s' : St) (w' : World) : Prop where
  rel : Rel C w0 φ' s' w'
  later : Later φ s.next φ' s'.next

theorem Step.refl (R : Rel C w0 φ s w) : Step C w0 φ s φ s w := ⟨R, Later.refl _ _⟩
theorem Step.trans {φ'' : Nat → Option Loc} {s'' : St} {w'' : World} (h : Step C w0 φ s φ' s' w') (k : Step C w0 φ' s' φ'' s'' w'') : Step C w0 φ s φ'' s'' w'' :=
  ⟨k.rel, h.later.trans k.later⟩

theorem Rel.drawn (R : Rel C w0 φ s w) (d : Nat) : Rel C w0 φ s { w with drawn := d } :=
  { old := R.old, base := R.base, size := R.size, os := R.os, tape := R.tape, output := R.output, next := R.next, nowhere := R.nowhere, fresh := R.fresh, lows := R.lows, inj := R.inj, lt := R.lt, own := R.own, objs := R.objs, thaw := R.thaw, held := R.held, nd := R.nd }

theorem later_upd (φ : Nat → Option Loc) (s : St) (l : Loc) : Later φ s.next (upd φ s.next l) (s.next + 1) :=
  ⟨Nat.le_succ _, fun b hb => .inl (by unfold upd; rw [if_neg (by omega)])⟩

theorem heap_alloc (w : World) (o : Obj) (k : Nat) : (w.alloc o).heap[k]? = if k = w.heap.size then some o else w.heap[k]? := by
  show (w.heap.push o)[k]? = _
  rw [Array.getElem?_push]

theorem Rel.alloc (R : Rel C w0 φ s w) {ob : AObj} {o' : Obj} {sz : Nat} (h : ObjR φ s.next ob ⟨w.heap.size, sz, 0⟩ (some o')) :
    Step C w0 φ s (upd φ s.next ⟨w.heap.size, sz, 0⟩) (s.alloc ob) (w.alloc o') := by
  have L := later_upd φ s ⟨w.heap.size, sz, 0⟩
  have hne : ∀ b, C.B0 = b → b ≠ s.next := fun b hb => by have := R.next; omega
  refine ⟨{ old := R.old, base := ?_, size := ?_, os := R.os, tape := R.tape, output := R.output, next := ?_, nowhere := ?_, fresh := ?_, lows := ?_, inj := ?_, lt := ?_, own := ?_, objs := ?_, thaw := fun k x hk hx => (by rw [heap_alloc] at hx; split at hx; cases hx; exact h.thawed; exact R.thaw _ _ hk hx), held := ?_, nd := R.nd }, L⟩
  · intro b hb
    rw [heap_alloc, if_neg (by have := R.size; omega)]
    exact R.base b hb
  · have := R.size; simp; omega
  · show C.B0 < s.next + 1; have := R.next; omega
  · unfold upd; rw [if_neg (by have := R.next; omega)]; exact R.nowhere
  · intro b hb
    have hb' : s.next + 1 ≤ b := hb
    unfold upd; rw [if_neg (by omega)]; exact R.fresh b (by omega)
  · intro b hb
    unfold upd; rw [if_neg (by have := R.next; omega)]; exact R.lows b hb
  · intro b b' l l' h1 h2 e
    unfold upd at h1 h2
    split at h1 <;> split at h2
    · omega
    · cases h1; have := R.lt _ _ h2; simp only at e; omega
    · cases h2; have := R.lt _ _ h1; simp only at e; omega
    · exact R.inj _ _ _ _ h1 h2 e
  · intro b l h1
    unfold upd at h1
    split at h1
    · cases h1; simp
    · have := R.lt _ _ h1; simp; omega
  · intro b l hb h1
    unfold upd at h1
    split at h1
    · cases h1; exact R.size
    · exact R.own _ _ hb h1
  · intro b o hb ho hlive
    by_cases e : b = s.next
    · subst e
      have : ob = o := by simpa [St.obj, St.alloc, Trie.get_set] using ho
      subst this
      refine ⟨_, by unfold upd; rw [if_pos rfl], ?_⟩
      rw [heap_alloc, if_pos rfl]
      exact h.later L
    · have ho' : s.obj b = some o := by simpa [St.obj, St.alloc, Trie.get_set, e] using ho
      obtain ⟨l, hl, hob⟩ := R.objs b o hb ho' hlive
      refine ⟨l, by unfold upd; rw [if_neg e]; exact hl, ?_⟩
      rw [heap_alloc, if_neg (by have := R.lt _ _ hl; omega)]
      exact hob.later L
  · intro x hx
    obtain ⟨h1, h2, h3⟩ := R.held x hx
    have hlt : x.1 < w.heap.size := (Array.getElem?_eq_some_iff.1 h2).1
    refine ⟨h1, by rw [heap_alloc, if_neg (by omega)]; exact h2, fun b l hl => ?_⟩
    unfold upd at hl
    split at hl
    · cases hl; simp only; omega
    · exact h3 b l hl

/-- One block is another one now. -/
theorem Rel.put (R : Rel C w0 φ s w) {b : Nat} {l : Loc} {ob : AObj} {o' : Obj} (hb : C.B0 ≤ b) (hl : φ b = some l) (hheap : ∀ k, w'.heap[k]? = if k = l.blk then some o' else w.heap[k]?)
    (hsz : w'.heap.size = w.heap.size) (hos : w'.os = w.os) (htape : w'.tape = w.tape) (hout : w'.output = w.output) (h : ObjR φ s.next ob l (some o')) : Step C w0 φ s φ (s.setObj b ob) w' := by
  have hown := R.own b l hb hl
  refine ⟨{ old := R.old, base := ?_, size := by rw [hsz]; exact R.size, os := by rw [hos]; exact R.os, tape := by rw [htape]; exact R.tape, output := by rw [hout]; exact R.output, next := R.next, nowhere := R.nowhere, fresh := R.fresh, lows := R.lows, inj := R.inj, lt := by rw [hsz]; exact R.lt, own := R.own, objs := ?_, thaw := fun k x hk hx => (by rw [hheap] at hx; split at hx; cases hx; exact h.thawed; exact R.thaw _ _ hk hx), held := ?_, nd := R.nd }, Later.refl _ _⟩
  · intro k hk
    rw [hheap, if_neg (by omega)]
    exact R.base k hk
  · intro k o hk ho hlive
    by_cases e : k = b
    · subst e
      have : ob = o := by simpa [St.obj, St.setObj, Trie.get_set] using ho
      subst this
      refine ⟨l, hl, ?_⟩
      rw [hheap, if_pos rfl]
      exact h
    · have ho' : s.obj k = some o := by simpa [St.obj, St.setObj, Trie.get_set, e] using ho
      obtain ⟨l', hl', hob⟩ := R.objs k o hk ho' hlive
      refine ⟨l', hl', ?_⟩
      rw [hheap, if_neg (fun e' => e (R.inj _ _ _ _ hl' hl e'))]
      exact hob
  · intro x hx
    obtain ⟨h1, h2, h3⟩ := R.held x hx
    exact ⟨h1, by rw [hheap, if_neg (fun e => h3 b l hl e.symm)]; exact h2, h3⟩

/-- Stores of cells into a row, none of which is marked. -/
theorem run_stores {P : Program} (g o : Nat) (t : TypeId) (f : Nat × Nat) : ∀ (vs : List Value) (i : Nat) (c : Array Value) (w : World), w.heap[g]? = some (.cells c t f) → Unm c.size f → o + i + vs.length ≤ c.size → (∀ v ∈ vs, v.oneCell' = true) →
    (storeCells ⟨g, o, none⟩ vs i).run P w = .ok () (w.setRow g (c.toList.take (o + i) ++ vs ++ c.toList.drop (o + i + vs.length)).toArray)
  | [], i, c, w, hg, _, _, _ => by
    have e : (c.toList.take (o + i) ++ [] ++ c.toList.drop (o + i + ([] : List Value).length)).toArray = c := by simp
    rw [e, setRow_self w g c t f hg]
    rfl
  | v :: vs, i, c, w, hg, hf, hl, h1 => by
    rw [List.length_cons] at hl
    have ha : (⟨g, o, none⟩ : Addr).add i = ⟨g, o + i, none⟩ := add_off ..
    have hc : w.cell? ⟨g, o + i, none⟩ = some c[o + i] := by simp [World.cell?, hg, show o + i < c.size by omega]
    have hz : w.frozen? ⟨g, o + i, none⟩ = false := by
      have := hf.out (j := o + i) (by omega)
      unfold World.frozen?
      simp only [hg]
      simpa using this
    have one : (store ((⟨g, o, none⟩ : Addr).add i) v).run P w = .ok () (w.setRow g (c.setIfInBounds (o + i) v)) := by
      rw [ha, run_store P w _ v _ (h1 v (List.mem_cons_self ..)), hc]
      simp [hz, setCell_eq_setRow w g (o + i) c t f v hg]
    have rest := run_stores (P := P) g o t f vs (i + 1) (c.setIfInBounds (o + i) v) (w.setRow g (c.setIfInBounds (o + i) v)) (setRow_heap w g c _ t f hg) (by rw [Array.size_setIfInBounds]; exact hf) (by rw [Array.size_setIfInBounds]; omega)
      (fun x hx => h1 x (List.mem_cons_of_mem _ hx))
    simp only [storeCells, Sem.run_bind, one, Result.andThen_ok, rest, setRow_setRow]
    have seg := list_seg_step c.toList (o + i) v vs (by rw [Array.length_toList]; omega)
    rw [Array.toList_setIfInBounds, show o + (i + 1) = o + i + 1 by omega, show o + i + 1 + vs.length = o + i + 1 + vs.length from rfl, seg, List.length_cons]
theorem heap_setRow (w : World) (g : Nat) (cs c : Array Value) (t : TypeId) (f : Nat × Nat) (hg : w.heap[g]? = some (.cells c t f)) (k : Nat) :
    (w.setRow g cs).heap[k]? = if k = g then some (.cells cs t f) else w.heap[k]? := by
  by_cases e : k = g
  · subst e; rw [if_pos rfl]; exact setRow_heap w k c cs t f hg
  · rw [if_neg e]
    unfold World.setRow
    simp only [Array.getElem?_modify]
    rw [if_neg (by omega)]

/-- A store of cells into a row of the run's own. -/
theorem storeRow_rel {cs vs vs' r : List Value} {c : Array Value} {o : Nat} (h : storeRow cs o vs = some r) (hc : RowR φ N cs c) (hv : VRs φ N vs vs') :
    o + vs'.length ≤ c.size ∧ (∀ v ∈ vs', v.oneCell' = true) ∧ RowR φ N r (c.toList.take o ++ vs' ++ c.toList.drop (o + vs'.length)).toArray := by
  unfold storeRow at h
  split at h
  · rename_i h1 h2
    cases h
    have hle := Nat.le_of_ble_eq_true h1
    have hcl : cs.length ≤ c.size := by
      rcases Nat.eq_zero_or_pos cs.length with e | e
      · omega
      · obtain ⟨v', h3, _⟩ := hc (cs.length - 1) cs[cs.length - 1] (List.getElem?_eq_getElem (by omega))
        have := (Array.getElem?_eq_some_iff.1 h3).1
        omega
    have hlen := hv.length
    refine ⟨by omega, ?_, ?_⟩
    · intro v' hv'
      obtain ⟨j, hj⟩ := List.getElem?_of_mem hv'
      obtain ⟨v, hvj⟩ : ∃ v, vs[j]? = some v := by
        have : j < vs.length := by have := (List.getElem?_eq_some_iff.1 hj).1; omega
        exact ⟨_, List.getElem?_eq_getElem this⟩
      obtain ⟨u, hu, hr⟩ := hv.get hvj
      rw [hj] at hu; cases hu
      have h1c := List.all_eq_true.1 h2 v (List.mem_of_getElem? hvj)
      cases hr <;> first | rfl | simp [Value.oneCell'] at h1c
    · intro j v hj
      by_cases e1 : j < o
      · have h5 : cs[j]? = some v := by
          rw [List.getElem?_append_left (by simp; omega), List.getElem?_take, if_pos e1] at hj
          exact hj
        obtain ⟨v', h6, h7⟩ := hc j v h5
        refine ⟨v', ?_, h7⟩
        have hlt := (Array.getElem?_eq_some_iff.1 h6).1
        simp only [List.getElem?_toArray]
        rw [List.append_assoc, List.getElem?_append_left (by simp; omega), List.getElem?_take, if_pos e1]
        simpa using h6
      · by_cases e2 : j < o + vs.length
        · have h5 : vs[j - o]? = some v := by
            rw [List.getElem?_append_right (by simp; omega), List.getElem?_append_left (by simp; omega)] at hj
            rw [← hj]; congr 1; simp; omega
          obtain ⟨v', h6, h7⟩ := hv.get h5
          refine ⟨v', ?_, h7⟩
          simp only [List.getElem?_toArray]
          rw [List.append_assoc, List.getElem?_append_right (by simp; omega), List.getElem?_append_left (by simp; omega), ← h6]
          congr 1; simp; omega
        · have h5 : cs[j]? = some v := by
            rw [List.getElem?_append_right (by simp; omega), List.getElem?_append_right (by simp; omega), List.getElem?_drop] at hj
            rw [← hj]; congr 1; simp; omega
          obtain ⟨v', h6, h7⟩ := hc j v h5
          refine ⟨v', ?_, h7⟩
          have hlt := (Array.getElem?_eq_some_iff.1 h6).1
          simp only [List.getElem?_toArray]
          rw [List.append_assoc, List.getElem?_append_right (by simp; omega), List.getElem?_append_right (by simp; omega), List.getElem?_drop]
          rw [show o + vs'.length + (j - (List.take o c.toList).length - vs'.length) = j from by simp; omega]
          simpa using h6
  · cases h

theorem putCells_sound (R : Rel C w0 φ s w) {b o : Nat} {vs vs' : List Value} (h : putCells C s b o vs = some s') (hv : VRs φ s.next vs vs') {l : Loc} (hl : φ b = some l) :
    ∃ w', (storeCells ⟨l.blk, o, none⟩ vs').run C.P w = .ok () w' ∧ Step C w0 φ s φ s' w' := by
  unfold putCells at h
  split at h
  · rename_i cs es el hb ho
    split at h
    · rename_i cs' hst
      cases h
      have hb' := Nat.le_of_ble_eq_true hb
      obtain ⟨l2, hl2, hob⟩ := R.objs b _ hb' ho rfl
      have e : l2 = l := by rw [hl] at hl2; cases hl2; rfl
      subst e
      unfold ObjR at hob
      split at hob
      · rename_i c t f hh hx
        injection hh with e1 e2 e3
        subst e1; subst e2; subst e3
        obtain ⟨hf, hsz, hrow⟩ := hob
        obtain ⟨h1, h2, h3⟩ := storeRow_rel hst hrow hv
        have hrun := run_stores (P := C.P) l2.blk o t f vs' 0 c w hx hf (by omega) h2
        simp only [Nat.add_zero] at hrun
        refine ⟨_, hrun, R.put (o' := .cells (c.toList.take o ++ vs' ++ c.toList.drop (o + vs'.length)).toArray t f) hb' hl (fun k => heap_setRow w l2.blk _ c t f hx k) (by simp [World.setRow]) rfl rfl rfl ⟨?_, ?_, h3⟩⟩
        · rw [show (c.toList.take o ++ vs' ++ c.toList.drop (o + vs'.length)).toArray.size = c.size by simp; omega]; exact hf
        simp
        omega
      · rename_i hh _; cases hh
      · rename_i hh _; cases hh
      · rename_i hh _; cases hh
      · rename_i hh _; cases hh
      · exact hob.elim
    · cases h
  · cases h

theorem astore_sound (R : Rel C w0 φ s w) {t : TypeId} {a a' v v' : Value} (h : astore C s t a v = some s') (ha : VR φ s.next a a') (hv : VR φ s.next v v') :
    ∃ w', (Instr.storeAt t a' v').run C.P w = .ok () w' ∧ Step C w0 φ s φ s' w' := by
  unfold astore at h
  split at h
  · rename_i b o
    split at h
    · rename_i n hn
      split at h
      · rename_i hsz
        have hsz' := Nat.eq_of_beq_eq_true hsz
        have hlive : ∃ l, φ b = some l := by
          unfold putCells at h
          split at h
          · rename_i cs es el hb ho
            obtain ⟨l, hl, _⟩ := R.objs b _ (Nat.le_of_ble_eq_true hb) ho rfl
            exact ⟨l, hl⟩
          · cases h
        obtain ⟨l, hl⟩ := hlive
        have h1c : v.cells.toList.all Value.oneCell' = true := by
          unfold putCells at h
          split at h
          · split at h
            · rename_i cs' hst
              unfold storeRow at hst
              split at hst
              · assumption
              · cases hst
            · cases h
          · cases h
        have hcells := hv.cells h1c
        cases ha with
        | ptr _ _ ad hb had =>
          have := had l hl
          subst this
          obtain ⟨w', h1, h2⟩ := putCells_sound R h hcells hl
          refine ⟨w', ?_, h2⟩
          have hsz2 : v'.cells.size = n := by rw [← hsz']; simpa using hcells.length.symm
          simp [Instr.storeAt, Instr.sureAddr, storeVar, run_size hn, hsz2, h1]
      · cases h
    · cases h
  · cases h
end
end Go.Proofs.Ytpdhkonifbdckaa.Abs
