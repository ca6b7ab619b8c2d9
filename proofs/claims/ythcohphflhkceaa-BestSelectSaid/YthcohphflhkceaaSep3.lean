/- A symbolic run over the arguments of a call is a run of the machine: what is read of the arguments, and the way from a contract to the call. -/
import Derived.Test.YthcohphflhkceaaSep2
import Derived.WideKeyArgs
import Derived.ChangeOld
import Derived.OpenShut
import Derived.DataReads
namespace Go.Proofs.Ythcohphflhkceaa.Abs
open Go Go.RowKit
set_option linter.unusedVariables false
set_option linter.unusedSectionVars false

/-! ### The memory of the arguments -/
def anyV : Value := .tuple #[.nilFunc]
def nAddr (hs : Nat) : Option Addr → Option Addr
  | none => none
  | some ⟨b, o, none⟩ => if b < hs then some ⟨b, o, none⟩ else some ⟨hs, 0, none⟩
  | some ⟨_, _, some _⟩ => some ⟨hs, 0, none⟩
/-- A value of an argument, as the run sees it. -/
def normV (hs : Nat) : Value → Value
  | .bool b => .bool b
  | .int k n => .int k n
  | .string s => .string s
  | .nilFunc => .nilFunc
  | .nilIface => .nilIface
  | .pointer none => .pointer none
  | .pointer (some a) => .pointer (nAddr hs (some a))
  | .slice none 0 0 => .slice none 0 0
  | .slice (some a) n c => if n ≤ c ∧ c < EL then .slice (nAddr hs (some a)) n c else anyV
  | .map none => .map none
  | _ => anyV
def oldW (w : World) (b : Nat) : Option (List Value) := match w.heap[b]? with
  | some (.cells c _ _) => some (c.toList.map (normV w.heap.size))
  | _ => none
def begW (w : World) : St := { mem := .nil, next := w.heap.size + 2 }

section
variable [Tok]
theorem normV_rel {φ : Nat → Option Loc} {N hs : Nat} (hN : hs < N) (h0 : φ hs = none) (hb : ∀ b l, φ b = some l → l.blk = b) (v : Value) : VR φ N (normV hs v) v := by
  have adr : ∀ (a : Addr), ∃ b o, nAddr hs (some a) = some ⟨b, o, none⟩ ∧ b < N ∧ ∀ l, φ b = some l → a = ⟨l.blk, o, none⟩ := by
    rintro ⟨b, o, sp⟩
    cases sp with
    | none =>
      have e0 : nAddr hs (some ⟨b, o, none⟩) = if b < hs then some ⟨b, o, none⟩ else some ⟨hs, 0, none⟩ := rfl
      rw [e0]
      by_cases h : b < hs
      · exact ⟨b, o, by rw [if_pos h], by omega, fun l hl => by rw [hb b l hl]⟩
      · exact ⟨hs, 0, by rw [if_neg h], hN, fun l hl => by rw [h0] at hl; cases hl⟩
    | some k => exact ⟨hs, 0, rfl, hN, fun l hl => by rw [h0] at hl; cases hl⟩
  unfold normV
  split
  · exact .bool _
  · exact .int _ _
  · exact .string _
  · exact .nilFunc
  · exact .nilIface
  · exact .ptrNil
  · rename_i a
    obtain ⟨b, o, e, h1, h2⟩ := adr a
    rw [e]
    exact .ptr b o a h1 h2
  · exact .sliceNil
  · rename_i a n c
    split
    · rename_i hc
      obtain ⟨b, o, e, h1, h2⟩ := adr a
      rw [e]
      refine .slice b o n c a c h1 hc.1 (fun _ => rfl) fun l hl => ⟨h2 l hl, fun k hk => ?_⟩
      have := hc.2
      omega
    · exact .any _
  · exact .mapNil
  · exact .any _
theorem normV_rels {φ : Nat → Option Loc} {N hs : Nat} (hN : hs < N) (h0 : φ hs = none) (hb : ∀ b l, φ b = some l → l.blk = b) : ∀ cs : List Value, VRs φ N (cs.map (normV hs)) cs
  | [] => .nil
  | v :: cs => .cons _ _ _ _ (normV_rel hN h0 hb v) (normV_rels hN h0 hb cs)

variable {C : Ctx} {w : World}
theorem φold_blk (hold : ∀ b, C.old b = oldW w b) (b : Nat) (l : Loc) (h : φold C b = some l) : l.blk = b ∧ b < w.heap.size := by
  unfold φold at h
  split at h
  · rw [hold] at h
    unfold oldW at h
    split at h
    · rename_i c e f hb
      cases h
      exact ⟨rfl, (Array.getElem?_eq_some_iff.1 hb).1⟩
    · cases h
  · cases h
theorem φold_hs (hold : ∀ b, C.old b = oldW w b) : φold C w.heap.size = none := by
  cases h : φold C w.heap.size with
  | none => rfl
  | some l => have := (φold_blk hold _ l h).2; omega
theorem relW (hB : C.B0 = w.heap.size + 1) (hold : ∀ b, C.old b = oldW w b) : Rel C ⟨w, []⟩ (φold C) (begW w) w :=
  { old := ⟨fun b cs hb hcs => by
      rw [hold] at hcs
      unfold oldW at hcs
      split at hcs
      · rename_i c e f hbk
        cases hcs
        refine ⟨c, e, f, hbk, fun j v hj => ?_⟩
        rw [List.getElem?_map] at hj
        cases hc : c.toList[j]? with
        | none => rw [hc] at hj; cases hj
        | some v' =>
          rw [hc] at hj
          cases hj
          exact ⟨v', by simpa using hc, normV_rel (by omega) (φold_hs hold) (fun b l h => (φold_blk hold b l h).1) v'⟩
      · cases hcs⟩
    base := fun _ _ => rfl, size := Nat.le_refl _, os := rfl, tape := rfl, output := rfl, next := (by rw [hB]; exact Nat.lt_succ_self _), nowhere := (by unfold φold; rw [if_neg (Nat.lt_irrefl _)])
    fresh := fun b hb => (by unfold φold; rw [if_neg (by have : (begW w).next = w.heap.size + 2 := rfl; omega)]), lows := fun b hb => rfl,
    inj := fun b b' l l' h h' e => (by rw [← (φold_blk hold b l h).1, ← (φold_blk hold b' l' h').1, e]), lt := fun b l h => (by rw [(φold_blk hold b l h).1]; exact (φold_blk hold b l h).2),
    own := fun b l hb h => (by have := (φold_blk hold b l h).2; omega), objs := fun b o _ h => (by simp [St.obj, begW, Trie.get_nil] at h),
    thaw := fun b o h1 h2 => (by have : b < w.heap.size := (Array.getElem?_eq_some_iff.1 h2).1; have h1' : w.heap.size ≤ b := h1; omega), held := fun x hx => (by cases hx), nd := List.nodup_nil }
theorem msW (hB : C.B0 = w.heap.size + 1) : MS C [] (begW w) := ⟨List.Pairwise.nil, fun b o h => (by cases h), (by rw [hB]; exact Nat.lt_succ_self _)⟩

/-- FROM A CONTRACT TO THE CALL. -/
theorem top (hB : C.B0 = w.heap.size + 1) (hold : ∀ b, C.old b = oldW w b) (hE : ExtOk C) {n f : Nat} {args args' : List Value} (hargs : VRs (φold C) (w.heap.size + 2) args args')
    (hct : CallT C (acall C ansP n) f args [] fun v _ => v = .bool true) : Calls C.P f args'.toArray w fun e w' => e = .returned (.bool true) ∧ Grown w w' ∧ ∀ b, b < w.heap.size → w'.heap[b]? = w.heap[b]? := by
  have hrun : acall C ansP n f args (begW w) fun v _ => v = .bool true := by
    unfold CallT at hct
    exact hct (begW w) _ (msW hB) fun v H' s' h _ => h
  refine (call_sound hE n f args args' (begW w) _ w _ (relW hB hold) hargs hrun).mono ?_
  rintro e w' ⟨v, v', φ', s', rfl, hst, hv, rfl⟩
  cases hv
  exact ⟨rfl, hst.rel.grownW, hst.rel.base⟩
end

/-- A closed run that answers true, as a contract of the callee. -/
theorem closedX {P : Program} (n f : Nat) (h : acall (cell0 P) ansB n f [] st0 isTrue = true) (w : World) : Calls P f #[] w fun e w' => e = .returned (.bool true) ∧ w.heap.size ≤ w'.heap.size ∧ (∀ b, b < w.heap.size → w'.heap[b]? = w.heap[b]?) ∧
    w'.os = w.os ∧ w'.tape = w.tape ∧ w'.output = w.output ∧ ∀ b o, w.heap.size ≤ b → w'.heap[b]? = some o → Thawed o := by
  letI : Tok := ⟨fun _ => none⟩
  have hc := mor_call (C := cell0 P) n f [] st0 isTrue (fun v _ => v = .bool true) (fun v s hv => by
    unfold isTrue at hv
    split at hv
    · rfl
    · cases hv) h
  refine (call_sound (ext0 P) n f [] [] st0 _ w _ (rel0 P w) .nil hc).mono ?_
  rintro e w' ⟨v, v', φ', s', rfl, hst, hv, rfl⟩
  cases hv
  exact ⟨rfl, hst.rel.size, hst.rel.base, hst.rel.os, hst.rel.tape, hst.rel.output, hst.rel.thaw⟩

/-! ### What is read, cell by cell -/
def fieldLeaves (f : TypeId → Option (List TypeId)) (sz : TypeId → Nat) : List Field → Nat → Option (List TypeId)
  | [], _ => some []
  | fd :: fds, off => match Nat.beq fd.offset off, f fd.type with
    | true, some ls => match Nat.beq ls.length (sz fd.type), fieldLeaves f sz fds (off + ls.length) with
      | true, some r => some (ls ++ r)
      | _, _ => none
    | _, _ => none
def repLeaves (ls : List TypeId) : Nat → List TypeId
  | 0 => []
  | n + 1 => ls ++ repLeaves ls n
/-- The types of the cells of a type, in order. -/
def leaves (P : Program) : Nat → TypeId → Option (List TypeId)
  | 0, _ => none
  | d + 1, t => match P.underlying t with
    | some (.struct fs) => match fieldLeaves (leaves P d) P.cellsOf fs.toList 0 with
      | some ls => match Nat.beq ls.length (P.cellsOf t) with
        | true => some ls
        | false => none
      | none => none
    | some (.array n e) => match leaves P d e with
      | some ls => match Nat.beq ls.length (P.cellsOf e), Nat.beq (n * P.cellsOf e) (P.cellsOf t) with
        | true, true => some (repLeaves ls n)
        | _, _ => none
      | none => none
    | some _ => some [t]
    | none => none
theorem repLeaves_length (ls : List TypeId) : ∀ n, (repLeaves ls n).length = n * ls.length
  | 0 => by simp [repLeaves]
  | n + 1 => by rw [repLeaves, List.length_append, repLeaves_length ls n, Nat.succ_mul]; omega

section
variable {H : Type} {enc : TypeId × Value → H} {P : Program} {w : World} {base : Nat} {spare : Nat → Bool} {held : Bool}
/-- Each cell reads as its type says. -/
def LeafOk (enc : TypeId × Value → H) (P : Program) (w : World) (base : Nat) (spare : Nat → Bool) (held : Bool) (ls : List TypeId) (cs : List Value) : Prop :=
  cs.length = ls.length ∧ ∀ (j : Nat) (u : TypeId), ls[j]? = some u → ∃ v m y, cs[j]? = some v ∧ DataW.trod enc P w base spare held m u [v] = some y
theorem LeafOk.append {l1 l2 : List TypeId} {c1 c2 : List Value} (h1 : LeafOk enc P w base spare held l1 c1) (h2 : LeafOk enc P w base spare held l2 c2) : LeafOk enc P w base spare held (l1 ++ l2) (c1 ++ c2) := by
  refine ⟨by simp [h1.1, h2.1], fun j u hj => ?_⟩
  by_cases hlt : j < l1.length
  · rw [List.getElem?_append_left hlt] at hj
    obtain ⟨v, m, y, g1, g2⟩ := h1.2 j u hj
    exact ⟨v, m, y, by rw [List.getElem?_append_left (by rw [h1.1]; exact hlt)]; exact g1, g2⟩
  · rw [List.getElem?_append_right (by omega)] at hj
    obtain ⟨v, m, y, g1, g2⟩ := h2.2 _ u hj
    exact ⟨v, m, y, by rw [List.getElem?_append_right (by rw [h1.1]; omega), h1.1]; exact g1, g2⟩
theorem LeafOk.next {u : TypeId} {us : List TypeId} {cs : List Value} (h : LeafOk enc P w base spare held (u :: us) cs) : ∃ v cs', cs = v :: cs' ∧ (∃ m y, DataW.trod enc P w base spare held m u [v] = some y) ∧ LeafOk enc P w base spare held us cs' := by
  cases cs with
  | nil => have := h.1; simp at this
  | cons v cs' =>
    obtain ⟨v', m, y, g1, g2⟩ := h.2 0 u rfl
    cases g1
    exact ⟨v, cs', rfl, ⟨m, y, g2⟩, by have := h.1; simpa using this, fun j u hj => h.2 (j + 1) u hj⟩
theorem LeafOk.done {cs : List Value} (h : LeafOk enc P w base spare held [] cs) : cs = [] := List.eq_nil_of_length_eq_zero (by have := h.1; simpa using this)
theorem leaf_int {u : TypeId} {k : IntKind} {v : Value} (hu : P.underlying u = some (.int k)) (h : ∃ m y, DataW.trod enc P w base spare held m u [v] = some y) : ∃ n, v = .int k n ∧ (Lit.int k n).wf = true := by
  obtain ⟨m, y, h⟩ := h
  obtain ⟨n, e, _, hw⟩ := DataW.trod_int hu h
  cases e; exact ⟨n, rfl, hw⟩
theorem leaf_bool {u : TypeId} {v : Value} (hu : P.underlying u = some .bool) (h : ∃ m y, DataW.trod enc P w base spare held m u [v] = some y) : ∃ b, v = .bool b := by
  obtain ⟨m, y, h⟩ := h
  obtain ⟨n, e, _⟩ := DataW.trod_bool hu h
  cases e; exact ⟨n, rfl⟩
/-- A slice that is read: what the run sees of it, and its elements. -/
theorem leaf_slice {u e : TypeId} {v : Value} (hs : Nat) (hu : P.underlying u = some (.slice e)) (h : ∃ m y, DataW.trod enc P w base spare held m u [v] = some y) :
    ∃ a n c, normV hs v = .slice a n c ∧ n ≤ c ∧ c ≤ maxLen := by
  obtain ⟨m, y, h⟩ := h
  rcases DataW.trod_slice hu h with ⟨h0, _⟩ | ⟨a, len, cap, _, _, _, _, h0, _, _, hl, hm, _⟩
  · cases h0; exact ⟨none, 0, 0, rfl, Nat.le_refl _, Nat.zero_le _⟩
  · cases h0
    refine ⟨nAddr hs (some a), len, cap, ?_, hl, hm⟩
    have : cap < EL := by unfold maxLen at hm; unfold EL; omega
    simp only [normV]
    rw [if_pos ⟨hl, this⟩]
theorem leaf_one {t : TypeId} {fuel : Nat} {cs : List Value} {x : DataW H × List MemPlace} (h : DataW.trod enc P w base spare held fuel t cs = some x)
    (hs : ∀ fs, P.underlying t ≠ some (.struct fs)) (ha : ∀ n e, P.underlying t ≠ some (.array n e)) : ∃ v, cs = [v] := by
  cases fuel with
  | zero => simp [DataW.trod] at h
  | succ n =>
    unfold DataW.trod at h
    split at h <;> first | exact ⟨_, rfl⟩ | (rename_i e; exact absurd e (hs _)) | (rename_i e; exact absurd e (ha _ _)) | cases h
theorem fieldLeaves_ok {d : Nat} (ih : ∀ (t : TypeId) (ls : List TypeId), leaves P d t = some ls → ∀ fuel cs x, DataW.trod enc P w base spare held fuel t cs = some x → LeafOk enc P w base spare held ls cs) {n : Nat} {cs : List Value} :
    ∀ (fds : List Field) (off : Nat) (r : List TypeId), fieldLeaves (leaves P d) P.cellsOf fds off = some r → (∀ fd ∈ fds, ∃ y, DataW.trod enc P w base spare held n fd.type ((cs.drop fd.offset).take (P.cellsOf fd.type)) = some y) →
      LeafOk enc P w base spare held r ((cs.drop off).take r.length)
  | [], off, r, h, _ => by cases h; exact ⟨by simp, fun j u hj => by simp at hj⟩
  | fd :: fds, off, r, h, hf => by
    unfold fieldLeaves at h
    split at h
    · rename_i ls e1 e2
      have e1 := Nat.eq_of_beq_eq_true e1
      split at h
      · rename_i r' e3 e4
        have e3 := Nat.eq_of_beq_eq_true e3
        cases h
        obtain ⟨y, hy⟩ := hf fd (List.Mem.head _)
        have h1 := ih fd.type ls e2 n _ y hy
        have h2 := fieldLeaves_ok ih fds (off + ls.length) r' e4 fun g hg => hf g (List.Mem.tail _ hg)
        rw [e1, ← e3] at h1
        have := h1.append h2
        have e5 : (cs.drop off).take (ls ++ r').length = (cs.drop off).take ls.length ++ (cs.drop (off + ls.length)).take r'.length := by
          rw [List.length_append, ← List.drop_drop, List.take_add]
        rw [e5]
        exact this
      · cases h
    · cases h
theorem repLeaves_ok {ls : List TypeId} {cs : List Value} : ∀ (n i : Nat), (∀ j, j < n → LeafOk enc P w base spare held ls ((cs.drop ((i + j) * ls.length)).take ls.length)) → LeafOk enc P w base spare held (repLeaves ls n) ((cs.drop (i * ls.length)).take (n * ls.length))
  | 0, i, _ => ⟨by simp [repLeaves], fun j u hj => by simp [repLeaves] at hj⟩
  | n + 1, i, h => by
    have h0 := h 0 (by omega)
    have h1 := repLeaves_ok n (i + 1) fun j hj => by
      have := h (j + 1) (by omega)
      rw [show i + (j + 1) = i + 1 + j from by omega] at this
      exact this
    have := h0.append h1
    have e5 : (cs.drop (i * ls.length)).take ((n + 1) * ls.length) = (cs.drop ((i + 0) * ls.length)).take ls.length ++ (cs.drop ((i + 1) * ls.length)).take (n * ls.length) := by
      rw [Nat.succ_mul, Nat.add_comm (n * ls.length), List.take_add, List.drop_drop, Nat.succ_mul]; rfl
    rw [e5]
    exact this
theorem leaves_ok : ∀ (d : Nat) (t : TypeId) (ls : List TypeId), leaves P d t = some ls → ∀ fuel cs x, DataW.trod enc P w base spare held fuel t cs = some x → LeafOk enc P w base spare held ls cs
  | 0, t, ls, h, _, _, _, _ => by cases h
  | d + 1, t, ls, h, fuel, cs, x, hx => by
    unfold leaves at h
    split at h
    · rename_i fs hu
      split at h
      · rename_i ls' e1
        split at h
        · rename_i e2
          cases h
          have e2 := Nat.eq_of_beq_eq_true e2
          obtain ⟨xs, n, _, _, hlen, hxl, hf⟩ := DataW.trod_struct hu hx
          have := fieldLeaves_ok (leaves_ok d) (n := n) (cs := cs) fs.toList 0 ls e1 fun fd hfd => by
            obtain ⟨i, hi⟩ := List.getElem?_of_mem hfd
            have hi' : fs[i]? = some fd := by simpa using hi
            have hil : i < xs.length := by rw [hxl]; exact (Array.getElem?_eq_some_iff.1 hi').1
            exact ⟨_, (hf i fd hi').trans (List.getElem?_eq_getElem hil)⟩
          rw [List.drop_zero, e2, ← hlen, List.take_length] at this
          exact this
        · cases h
      · cases h
    · rename_i n e hu
      split at h
      · rename_i ls' e1
        split at h
        · rename_i e2 e3
          cases h
          have e2 := Nat.eq_of_beq_eq_true e2
          have e3 := Nat.eq_of_beq_eq_true e3
          obtain ⟨xs, m, _, _, hlen, hxl, hf⟩ := DataW.trod_array hu hx
          have := repLeaves_ok (enc := enc) (P := P) (w := w) (base := base) (spare := spare) (held := held) (ls := ls') (cs := cs) n 0 fun j hj => by
            have h1 := hf j hj
            rw [List.getElem?_eq_getElem (by omega)] at h1
            have := leaves_ok d e ls' e1 m _ _ h1
            rw [← e2] at this
            rw [Nat.zero_add]
            exact this
          rw [Nat.zero_mul, List.drop_zero, e2, e3, ← hlen, List.take_length] at this
          exact this
        · cases h
      · cases h
    · rename_i hns hna hu
      cases h
      obtain ⟨v, rfl⟩ := leaf_one hx (fun fs e => by first | exact hns _ e | (rw [e] at hu; cases hu; exact hns _ rfl)) (fun n e e2 => by first | exact hna _ _ e2 | (rw [e2] at hu; cases hu; exact hna _ _ rfl))
      refine ⟨rfl, fun j u hj => ?_⟩
      cases j with
      | zero => cases hj; exact ⟨v, fuel, x, rfl, hx⟩
      | succ j => simp at hj
    · cases h
theorem pick_list {α : Type} {R : Nat → α → Prop} : ∀ (n : Nat), (∀ i, i < n → ∃ x, R i x) → ∃ L : List α, L.length = n ∧ ∀ i x, L[i]? = some x → R i x
  | 0, _ => ⟨[], rfl, fun i x h => by simp at h⟩
  | n + 1, h => by
    obtain ⟨L, hl, hL⟩ := pick_list n fun i hi => h i (by omega)
    obtain ⟨x, hx⟩ := h n (by omega)
    refine ⟨L ++ [x], by simp [hl], fun i y hy => ?_⟩
    by_cases hi : i < L.length
    · rw [List.getElem?_append_left hi] at hy; exact hL i y hy
    · rw [List.getElem?_append_right (by omega)] at hy
      have : i - L.length = 0 := by
        have := (List.getElem?_eq_some_iff.1 hy).1
        simp at this; omega
      rw [this] at hy
      cases hy
      rw [show i = n from by omega]
      exact hx
theorem cut_of {cs r : List Value} {off k : Nat} (hr : r.length = k) (h : ∀ j, j < k → cs[off + j]? = r[j]?) : cut cs off k = some r := by
  have e : (cs.drop off).take k = r := by
    apply List.ext_getElem?
    intro j
    by_cases hj : j < k
    · rw [List.getElem?_take, if_pos hj, List.getElem?_drop]; exact h j hj
    · rw [List.getElem?_eq_none (by simp; omega), List.getElem?_eq_none (by omega)]
  unfold cut
  simp only [e, hr, Nat.beq_refl]
/-- A slice that is read, with its elements. -/
theorem arr_read {α : Type} {C : Ctx} {u e : TypeId} {v : Value} {k : Nat} {en : α → List Value} {Pr : α → Prop} (hB : C.B0 = w.heap.size + 1) (hold : ∀ b, C.old b = oldW w b) (hu : P.underlying u = some (.slice e)) (hk : P.cellsOf e = k) (hk0 : 0 < k)
    (hdec : ∀ cs m y, DataW.trod enc P w 0 spare held m e cs = some y → cs.length = k ∧ ∃ x, cs.map (normV w.heap.size) = en x ∧ Pr x) (h : ∃ m y, DataW.trod enc P w 0 spare held m u [v] = some y) :
    ∃ ad c L, normV w.heap.size v = .slice ad L.length c ∧ L.length ≤ c ∧ c ≤ maxLen ∧ Arr C [] ad k en L ∧ ∀ x ∈ L, Pr x := by
  obtain ⟨m, y, h⟩ := h
  rcases DataW.trod_slice hu h with ⟨h0, _⟩ | ⟨a, len, cap, el, _, n, _, h0, _, _, hl, hm, hel, hget, _⟩
  · cases h0; exact ⟨none, 0, [], rfl, Nat.le_refl _, Nat.zero_le _, ⟨fun i r hi => by simp at hi⟩, fun x hx => by simp at hx⟩
  · cases h0
    have hcell : ∀ i, i < len → ∃ x, (∃ b o cs, nAddr w.heap.size (some a) = some ⟨b, o, none⟩ ∧ RowIs C [] b cs ∧ cut cs (o + i * k) k = some (en x)) ∧ Pr x := by
      intro i hi
      have h1 := hget i hi
      rw [List.getElem?_eq_getElem (by omega), hk] at h1
      obtain ⟨cs', hc1, hc2⟩ := Option.bind_eq_some_iff.1 h1
      obtain ⟨hlen', x, hx, hp⟩ := hdec cs' n _ hc2
      obtain ⟨_, _, hat⟩ := World.cells?_some hc1
      obtain ⟨b, o, sp⟩ := a
      have hadd : ∀ q, 0 < q → (Addr.mk b o sp).add q = ⟨b, o + q, none⟩ := fun q hq => by unfold Addr.add; rw [if_neg (by omega)]
      have hsp : sp = none ∧ ∃ c t f, w.heap[b]? = some (.cells c t f) := by
        have h2 := hget 0 (by omega)
        rw [List.getElem?_eq_getElem (by omega), hk] at h2
        obtain ⟨c0, hd1, hd2⟩ := Option.bind_eq_some_iff.1 h2
        obtain ⟨_, hl0, hat0⟩ := World.cells?_some hd1
        have h3 := hat0 0 hk0
        rw [Nat.zero_mul, show ((Addr.mk b o sp).add 0).add 0 = ⟨b, o, sp⟩ from rfl, List.getElem?_eq_getElem (by omega)] at h3
        unfold World.cell? at h3
        split at h3
        · rename_i c t f hb
          cases sp with
          | none => exact ⟨rfl, c, t, f, hb⟩
          | some q => simp at h3
        · cases h3
      obtain ⟨rfl, c, t, f, hb⟩ := hsp
      have hlt : b < w.heap.size := (Array.getElem?_eq_some_iff.1 hb).1
      refine ⟨x, ⟨b, o, c.toList.map (normV w.heap.size), by show (if b < w.heap.size then _ else _) = _; rw [if_pos hlt], .old (by omega) (by rw [hold]; unfold oldW; rw [hb]), ?_⟩, hp⟩
      rw [← hx]
      refine cut_of (by rw [List.length_map, hlen']) fun j hj => ?_
      have h4 := hat j hj
      have e4 : ((Addr.mk b o none).add (i * k)).add j = ⟨b, o + i * k + j, none⟩ := by
        unfold Addr.add
        split <;> split <;> simp_all
      rw [e4] at h4
      simp only [World.cell?, hb] at h4
      rw [List.getElem?_map, List.getElem?_map, ← h4]
      simp
    obtain ⟨L, hL, hR⟩ := pick_list len hcell
    subst hL
    refine ⟨nAddr w.heap.size (some a), cap, L, ?_, hl, hm, ⟨fun i x hi => (hR i x hi).1⟩, fun x hx => ?_⟩
    · have : cap < EL := by unfold maxLen at hm; unfold EL; omega
      simp only [normV]
      rw [if_pos ⟨hl, this⟩]
    · obtain ⟨i, hi⟩ := List.getElem?_of_mem hx
      exact (hR i x hi).2
/-- The arguments read behind the call as before it. -/
theorem again {enc : TypeId × Value → H} {W W' : World} {sp : Nat → Bool} (hl : laidOutB P = true) (hold : ∀ b, b < W.heap.size → W'.heap[b]? = W.heap[b]?) : ∀ {ts : List TypeId} {vs : List Value} {ds : List (DataW H)} {ps : List MemPlace},
    (∀ t ∈ ts, P.readableRec t = true ∧ t < P.types.size) → DataW.TrodAll enc P W 0 (fun _ => true) true ts vs ds ps → (∀ p ∈ ps, p.block < W.heap.size) → (∀ p ∈ ps, sp p.block = true) → DataW.TrodAll enc P W' 0 sp true ts vs ds ps
  | [], [], [], _, _, h, _, _ => h
  | t :: ts, _ :: _, _ :: _, _, hr, ⟨p, q, h1, h2, e⟩, hlt, hs => by
    subst e
    refine ⟨p, q, WideElems.Trod_stays hl (hr t (List.Mem.head _)).1 (hr t (List.Mem.head _)).2 h1 (fun x hx => ?_) (fun x hx => hs x (List.mem_append_left _ hx)),
      again hl hold (fun u hu => hr u (List.Mem.tail _ hu)) h2 (fun x hx => hlt x (List.mem_append_right _ hx)) (fun x hx => hs x (List.mem_append_right _ hx)), rfl⟩
    have hb := hlt x (List.mem_append_left _ hx)
    cases x with
    | cell b off => show W'.cell? ⟨b, off, none⟩ = W.cell? ⟨b, off, none⟩; unfold World.cell?; rw [show W'.heap[(Addr.mk b off none).block]? = W.heap[(Addr.mk b off none).block]? from hold b hb]
    | map b => exact hold b hb
  | [], _ :: _, _, _, _, h, _, _ => h.elim
  | [], [], _ :: _, _, _, h, _, _ => h.elim
  | _ :: _, [], _, _, _, h, _, _ => h.elim
  | _ :: _, _ :: _, [], _, _, h, _, _ => h.elim
end
end Go.Proofs.Ythcohphflhkceaa.Abs
