/- Maps that are written; all operations of the spine that call nothing; the next entry of a walk over a map. -/
import Derived.Test.YtpdhkonifbdckaaAbs12
namespace Go.Proofs.Ytpdhkonifbdckaa.Abs
open Go
set_option linter.unusedSectionVars false
variable [Tok]
set_option linter.unusedSimpArgs false

section
variable {C : Ctx} {w0 : Base} {φ φ' : Nat → Option Loc} {s s' : St} {w w' : World} {N N' : Nat}

theorem run_setObj {P : Program} {b c : Nat} {es : Array MapEntry} (o : Obj) (h : w.heap[b]? = some (.map es c)) : (setObj b o).run P w = .ok () { w with heap := w.heap.setIfInBounds b o } := by
  simp only [Go.setObj, Sem.run, h]
theorem run_setIter {P : Program} {b since last : Nat} {m : Option Nat} {seen : Array Nat} (o : Obj) (h : w.heap[b]? = some (.mapIter m since seen last)) : (setObj b o).run P w = .ok () { w with heap := w.heap.setIfInBounds b o } := by
  simp only [Go.setObj, Sem.run, h]
theorem heap_set (w : World) (b : Nat) (o o1 : Obj) (h : w.heap[b]? = some o1) (k : Nat) : ({ w with heap := w.heap.setIfInBounds b o } : World).heap[k]? = if k = b then some o else w.heap[k]? := by
  have hlt := (Array.getElem?_eq_some_iff.1 h).1
  by_cases e : k = b
  · subst e; rw [if_pos rfl]; simp [hlt]
  · rw [if_neg e]; simp [Array.getElem?_setIfInBounds_ne (Ne.symm e)]

theorem EntsR.append : ∀ {es fs : List MEnt} {es' fs' : List MapEntry}, EntsR φ N es es' → EntsR φ N fs fs' → EntsR φ N (es ++ fs) (es' ++ fs')
  | [], _, [], _, _, h => h
  | _ :: _, _, _ :: _, _, ⟨h1, h2⟩, h => ⟨h1, h2.append h⟩
theorem EntsR.get : ∀ {es : List MEnt} {es' : List MapEntry}, EntsR φ N es es' → ∀ {i : Nat} {e : MEnt}, es[i]? = some e → ∃ e', es'[i]? = some e' ∧ EntR φ N e e'
  | [], [], _, i, e, h => by simp at h
  | _ :: _, e' :: _, ⟨h1, _⟩, 0, e, h => ⟨e', rfl, by simp at h; exact h ▸ h1⟩
  | _ :: _, _ :: _, ⟨_, h2⟩, i + 1, e, h => by simpa using h2.get (by simpa using h)
theorem EntsR.modify {f : MEnt → MEnt} {g : MapEntry → MapEntry} (hfg : ∀ e e', EntR φ N e e' → EntR φ N (f e) (g e')) : ∀ {es : List MEnt} {es' : List MapEntry} (i : Nat), EntsR φ N es es' → EntsR φ N (setNth f es i) (es'.modify i g)
  | [], [], i, _ => by cases i <;> trivial
  | _ :: _, _ :: _, 0, ⟨h1, h2⟩ => ⟨hfg _ _ h1, h2⟩
  | _ :: _, _ :: _, i + 1, ⟨h1, h2⟩ => by rw [List.modify_succ_cons]; exact ⟨h1, h2.modify hfg i⟩
theorem EntsR.erase : ∀ {es : List MEnt} {es' : List MapEntry} (i : Nat), EntsR φ N es es' → EntsR φ N (es.eraseIdx i) (es'.eraseIdx i)
  | [], [], i, _ => by cases i <;> trivial
  | _ :: _, _ :: _, 0, ⟨_, h2⟩ => h2
  | _ :: _, _ :: _, i + 1, ⟨h1, h2⟩ => by simp only [List.eraseIdx_cons_succ]; exact ⟨h1, h2.erase i⟩

theorem kt_of_key {n : Nat} {kt : TypeId} {k : Value} (h : akeyOk C n kt k = true) : ∃ d, C.P.underlying kt = some d := by
  cases hd : C.P.underlying kt with
  | none =>
    exfalso
    cases n with
    | zero => simp [akeyOk] at h
    | succ n => unfold akeyOk at h; rw [hd] at h; simp at h
  | some d => exact ⟨d, rfl⟩

theorem aupdate_sound (R : Rel C w0 φ s w) {t : TypeId} {m m' k k' v v' : Value} (h : aupdate C s t m k v = some s') (hm : VR φ s.next m m') (hk : VR φ s.next k k') (hv : VR φ s.next v v') :
    ∃ w', (Instr.mapUpdate t m' k' v').run C.P w = .ok () w' ∧ Step C w0 φ s φ s' w' := by
  unfold aupdate at h
  split at h
  case h_2 => cases h
  rename_i kt et b es clock hu hmo
  split at h
  · cases h
  rename_i hkey
  simp only [Bool.and_eq_true] at hkey
  have ek : k' = k := hk.scal_eq hkey.2
  subst ek
  obtain ⟨l, es', hbB, ho, hl, rfl, hh, he⟩ := mapOf_sound R hmo hm
  obtain ⟨kd, hkd⟩ := kt_of_key hkey.1
  split at h
  · cases h
  · rename_i i u hf
    split at h
    · rename_i e hei
      split at h
      · rename_i hsb
        cases h
        obtain ⟨r', h1, h2⟩ := find_sound hkd hkey.2 hf he w
        cases r' with
        | none => exact h2.elim
        | some p =>
          obtain ⟨i2, u'⟩ := p
          obtain ⟨rfl, _⟩ := h2
          obtain ⟨e', h3, h4⟩ := he.get hei
          have h3' : es'[i2]? = some e' := by simpa using h3
          have hks : ∀ w, (Instr.keyThatStays e.key k').run C.P w = .ok k' w := fun w => by simp [Instr.keyThatStays, hsb]
          refine ⟨_, ?_, R.put (o' := .map (es'.modify i2 fun e => { e with key := k', val := v' }) clock) hbB hl (heap_set w l.blk _ _ hh) (by simp) rfl rfl rfl ⟨rfl, ?_⟩⟩
          · simp only [Instr.mapUpdate, Sem.run_bind, run_und hu, Result.andThen_ok, run_getMap hh, keyOk_sound 10000 kt k' hkey.1 hkey.2 _ w, h1, h3', Option.map_some, Option.getD_some, h4.1, hks, run_setObj _ hh]
          · have := EntsR.modify (f := fun e => { e with key := k', val := v }) (g := fun e => { e with key := k', val := v' }) (fun e e' he => ⟨rfl, hkey.2, he.2.2.1, hv⟩) i2 he
            simpa using this
      · cases h
    · cases h
  · rename_i hf
    cases h
    obtain ⟨r', h1, h2⟩ := find_sound hkd hkey.2 hf he w
    cases r' with
    | some p => exact h2.elim
    | none =>
      refine ⟨_, ?_, R.put (o' := .map (es'.push { key := k', val := v', born := clock }) (clock + 1)) hbB hl (heap_set w l.blk _ _ hh) (by simp) rfl rfl rfl ⟨rfl, ?_⟩⟩
      · simp only [Instr.mapUpdate, Sem.run_bind, run_und hu, Result.andThen_ok, run_getMap hh, keyOk_sound 10000 kt k' hkey.1 hkey.2 _ w, h1, run_setObj _ hh]
      · have : EntsR φ s.next [{ key := k', val := v, born := clock }] [({ key := k', val := v', born := clock } : MapEntry)] := ⟨⟨rfl, hkey.2, rfl, hv⟩, trivial⟩
        simpa using he.append this

theorem adelete_sound (R : Rel C w0 φ s w) {t ty : TypeId} {ts : List TypeId} {vs : List Value} {m m' k k' : Value} (h : adelete C s t m k = some s') (hm : VR φ s.next m m') (hk : VR φ s.next k k') :
    ∃ w', (Builtin.delete_ (t :: ts).toArray ty (m' :: k' :: vs).toArray).run C.P w = .ok (.tuple #[]) w' ∧ Step C w0 φ s φ s' w' := by
  unfold adelete at h
  split at h
  case h_2 => cases h
  rename_i kt et hu
  split at h
  · cases h
  rename_i hkey
  simp only [Bool.and_eq_true] at hkey
  have ek : k' = k := hk.scal_eq hkey.2
  subst ek
  obtain ⟨kd, hkd⟩ := kt_of_key hkey.1
  split at h
  · cases h
    cases hm
    refine ⟨w, ?_, Step.refl R⟩
    simp [Builtin.delete_, run_und hu, keyOk_sound 10000 kt k' hkey.1 hkey.2]
  · split at h
    · rename_i b es clock hmo
      obtain ⟨l, es', hbB, ho, hl, rfl, hh, he⟩ := mapOf_sound R hmo hm
      split at h
      · cases h
      · rename_i i u hf
        cases h
        obtain ⟨r', h1, h2⟩ := find_sound hkd hkey.2 hf he w
        cases r' with
        | none => exact h2.elim
        | some p =>
          obtain ⟨i2, u'⟩ := p
          obtain ⟨rfl, _⟩ := h2
          refine ⟨_, ?_, R.put (o' := .map (es'.eraseIdxIfInBounds i2) clock) hbB hl (heap_set w l.blk _ _ hh) (by simp) rfl rfl rfl ⟨rfl, ?_⟩⟩
          · simp [Builtin.delete_, run_und hu, keyOk_sound 10000 kt k' hkey.1 hkey.2, run_getMap hh, h1, run_setObj _ hh]
          · have := he.erase i2
            simpa using this
      · rename_i hf
        cases h
        obtain ⟨r', h1, h2⟩ := find_sound hkd hkey.2 hf he w
        cases r' with
        | some p => exact h2.elim
        | none =>
          refine ⟨_, by simp [Builtin.delete_, run_und hu, keyOk_sound 10000 kt k' hkey.1 hkey.2, run_getMap hh, h1, run_setObj _ hh], R.put (o' := .map es' clock) hbB hl (heap_set w l.blk _ _ hh) (by simp) rfl rfl rfl ⟨rfl, he⟩⟩
    · cases h

theorem acopy_sound (R : Rel C w0 φ s w) {t ty : TypeId} {ts : List TypeId} {vs : List Value} {d d' x x' v : Value} (h : acopy C s t d x = some (v, s')) (hd : VR φ s.next d d') (hx : VR φ s.next x x') :
    ∃ v' w', (Builtin.copy_ (t :: ts).toArray ty (d' :: x' :: vs).toArray).run C.P w = .ok v' w' ∧ Step C w0 φ s φ s' w' ∧ VR φ s'.next v v' := by
  unfold acopy at h
  split at h
  case h_2 => cases h
  rename_i e n b o len cap hu hln
  have hlen := fun w => lenOf_sound hln hx C.P w
  split at h
  · cases h
  rename_i k hk
  cases hd with
  | slice _ _ _ _ a' c' hb hn hc ha =>
    split at h
    · rename_i h0
      cases h
      have hempty : ∃ xs : Array Value, (Builtin.firstCells k 0 x').run C.P w = .ok xs w ∧ xs.toList = [] := by
        unfold lenOf' at hln
        split at hln
        · cases hx with
          | sliceNil => exact ⟨#[], rfl, rfl⟩
          | slice => exact ⟨#[], by simp [Builtin.firstCells, loadCells, loadCellsFrom], rfl⟩
        · cases hx
          refine ⟨_, rfl, ?_⟩
          simp [ByteArray.data_extract]
        · cases hln
      obtain ⟨xs, h1, h2⟩ := hempty
      refine ⟨goInt 0, w, ?_, Step.refl R, .int _ _⟩
      simp only [Builtin.copy_, List.getElem?_toArray, List.getElem?_cons_zero, List.getElem?_cons_succ, Sem.run_bind, run_und hu, Result.andThen_ok, hlen, h0, run_size hk, h1, h2, storeCells, Sem.run_pure]
      rfl
    · rename_i h0
      cases hsrc : srcCells C s k (Nat.min n len) x with
      | none => simp [hsrc] at h
      | some xs =>
        simp only [hsrc, Option.bind_some] at h
        cases hput : putCells C s b o xs with
        | none => simp [hput] at h
        | some s1 =>
          simp only [hput, Option.map_some, Option.some.injEq] at h
          cases h
          obtain ⟨l, hl⟩ := live_of_put R hput
          obtain ⟨rfl, _⟩ := ha l hl
          obtain ⟨xs', h1, h2⟩ := srcCells_sound R hsrc hx
          obtain ⟨w', h3, h4⟩ := putCells_sound R hput h2 hl
          refine ⟨goInt (Nat.min n len : Nat), w', ?_, h4, .int _ _⟩
          simp only [Builtin.copy_, List.getElem?_toArray, List.getElem?_cons_zero, List.getElem?_cons_succ, Sem.run_bind, run_und hu, Result.andThen_ok, hlen, run_size hk, h1, h3, Sem.run_pure]

theorem aclear_sound (R : Rel C w0 φ s w) {t ty : TypeId} {ts : List TypeId} {vs : List Value} {x x' : Value} (h : aclear C s t x = some s') (hx : VR φ s.next x x') :
    ∃ w', (Builtin.clear_ (t :: ts).toArray ty (x' :: vs).toArray).run C.P w = .ok (.tuple #[]) w' ∧ Step C w0 φ s φ s' w' := by
  unfold aclear at h
  split at h
  · rename_i e n c hu
    cases h
    cases hx
    refine ⟨w, ?_, Step.refl R⟩
    simp [Builtin.clear_, run_und hu]
  · rename_i e b o n c hu
    cases hx with
    | slice _ _ _ _ a' c' hb hn hc ha =>
      cases n with
      | zero =>
        cases h
        refine ⟨w, ?_, Step.refl R⟩
        simp [Builtin.clear_, run_und hu]
      | succ n =>
        simp only at h
        split at h
        case h_2 => cases h
        rename_i z hz
        split at h
        case h_2 => cases h
        rename_i hpos
        have hpos := Nat.le_of_ble_eq_true hpos
        obtain ⟨zv, h1, rfl, h3⟩ := run_zero hz w
        obtain ⟨l, hl⟩ := live_of_put R h
        obtain ⟨rfl, _⟩ := ha l hl
        obtain ⟨w', h4, h5⟩ := putCells_sound R h (rep_rel (cells_plain (φ := φ) (N := s.next) h3) (n + 1)) hl
        have e0 : (Builtin.zeroCells zv.cells (n + 1)).toList = (List.replicate (n + 1) zv.cells.toList).flatten := by
          unfold Builtin.zeroCells
          rw [zero_row _ _ hpos]
        refine ⟨w', ?_, h5⟩
        rw [← e0] at h4
        simp [Builtin.clear_, run_und hu, h1, h4]
  · cases h

theorem seen_contains (a : Array Nat) (x : Nat) : a.contains x = a.toList.contains x := by simp

/-- A step that a walk over a map may take next, related. -/
def CR (φ : Nat → Option Loc) (N : Nat) : Option MEnt → Option MapEntry → Prop
  | none, none => True
  | some e, some e' => EntR φ N e e'
  | _, _ => False
inductive CandR (φ : Nat → Option Loc) (N : Nat) : List (Option MEnt) → List (Option MapEntry) → Prop where
  | nil : CandR φ N [] []
  | cons (c : Option MEnt) (c' : Option MapEntry) (l : List (Option MEnt)) (l' : List (Option MapEntry)) (h : CR φ N c c') (hl : CandR φ N l l') : CandR φ N (c :: l) (c' :: l')

theorem EntsR.filter {p : MEnt → Bool} {q : MapEntry → Bool} (hpq : ∀ e e', EntR φ N e e' → q e' = p e) : ∀ {es : List MEnt} {es' : List MapEntry}, EntsR φ N es es' → EntsR φ N (es.filter p) (es'.filter q)
  | [], [], _ => trivial
  | e :: _, e' :: _, ⟨h1, h2⟩ => by
    simp only [List.filter_cons, hpq e e' h1]
    split
    · exact ⟨h1, h2.filter hpq⟩
    · exact h2.filter hpq
theorem EntsR.cand : ∀ {es : List MEnt} {es' : List MapEntry}, EntsR φ N es es' → CandR φ N (es.map some) (es'.map some)
  | [], [], _ => .nil
  | _ :: _, _ :: _, ⟨h1, h2⟩ => .cons _ _ _ _ h1 h2.cand
theorem CandR.length {l : List (Option MEnt)} {l' : List (Option MapEntry)} (h : CandR φ N l l') : l'.length = l.length := by
  induction h with
  | nil => rfl
  | cons c c' l l' h hl ih => simp [ih]
theorem CandR.append {l m : List (Option MEnt)} {l' m' : List (Option MapEntry)} (h : CandR φ N l l') (k : CandR φ N m m') : CandR φ N (l ++ m) (l' ++ m') := by
  induction h with
  | nil => exact k
  | cons c c' l l' h hl ih => exact .cons c c' _ _ h ih
theorem CandR.get {l : List (Option MEnt)} {l' : List (Option MapEntry)} (h : CandR φ N l l') : ∀ {i : Nat} {c' : Option MapEntry}, l'[i]? = some c' → ∃ c, c ∈ l ∧ CR φ N c c' := by
  induction h with
  | nil => intro i c' h; simp at h
  | cons c c' l l' h hl ih =>
    intro i c2 e
    cases i with
    | zero => simp at e; subst e; exact ⟨c, by simp, h⟩
    | succ i =>
      obtain ⟨c3, h1, h2⟩ := ih (i := i) (by simpa using e)
      exact ⟨c3, by simp [h1], h2⟩

theorem EntsR.isEmpty : ∀ {es : List MEnt} {es' : List MapEntry}, EntsR φ N es es' → es'.isEmpty = es.isEmpty
  | [], [], _ => rfl
  | _ :: _, _ :: _, _ => rfl
theorem EntsR.all {p : MEnt → Bool} {q : MapEntry → Bool} (hpq : ∀ e e', EntR φ N e e' → q e' = p e) : ∀ {es : List MEnt} {es' : List MapEntry}, EntsR φ N es es' → es'.all q = es.all p
  | [], [], _ => rfl
  | e :: _, e' :: _, ⟨h1, h2⟩ => by simp only [List.all_cons, hpq e e' h1, h2.all hpq]

/-- The candidates for the next step of a walk over a map, in the concrete. -/
def cands' (since : Nat) (seen : Array Nat) (es : Array MapEntry) : Array (Option MapEntry) :=
  let left := es.filter fun e => !seen.contains e.born
  let old := left.filter (·.born < since)
  let new := left.filter (·.born ≥ since)
  (if old.isEmpty then #[none] else #[]) ++ (old ++ new).map some

theorem cands_rel {es : List MEnt} {es' : Array MapEntry} (h : EntsR φ N es es'.toList) (since : Nat) (seen : List Nat) (seen' : Array Nat) (hs : seen'.toList = seen) :
    CandR φ N (cands since seen es) (cands' since seen' es').toList := by
  subst hs
  have hleft : EntsR φ N (es.filter fun e => !seen'.toList.contains e.born) (es'.filter fun e => !seen'.contains e.born).toList := by
    rw [Array.toList_filter]
    exact h.filter fun e e' he => by rw [he.2.2.1]; simp
  have hold : EntsR φ N ((es.filter fun e => !seen'.toList.contains e.born).filter fun e => Nat.blt e.born since) ((es'.filter fun e => !seen'.contains e.born).filter (·.born < since)).toList := by
    rw [Array.toList_filter]
    refine hleft.filter fun e e' he => ?_
    rw [he.2.2.1]
    by_cases hb : e.born < since
    · simp [hb, Nat.blt, Nat.ble_eq_true_of_le hb]
    · have : Nat.blt e.born since = false := by
        cases hq : Nat.blt e.born since
        · rfl
        · exact absurd (Nat.le_of_ble_eq_true hq) hb
      simp [hb, this]
  have hnew : EntsR φ N ((es.filter fun e => !seen'.toList.contains e.born).filter fun e => !Nat.blt e.born since) ((es'.filter fun e => !seen'.contains e.born).filter (·.born ≥ since)).toList := by
    rw [Array.toList_filter]
    refine hleft.filter fun e e' he => ?_
    rw [he.2.2.1]
    by_cases hb : e.born < since
    · have : Nat.blt e.born since = true := Nat.ble_eq_true_of_le hb
      simp [this]; omega
    · have : Nat.blt e.born since = false := by
        cases hq : Nat.blt e.born since
        · rfl
        · exact absurd (Nat.le_of_ble_eq_true hq) hb
      simp [this]; omega
  unfold cands cands'
  simp only [Array.toList_append, Array.toList_map]
  refine CandR.append ?_ (EntsR.cand (hold.append hnew))
  have he : ((es'.filter fun e => !seen'.contains e.born).filter (·.born < since)).isEmpty = ((es.filter fun e => !seen'.toList.contains e.born).filter fun e => Nat.blt e.born since).isEmpty := by
    have e0 : ∀ (q : Array MapEntry), q.isEmpty = q.toList.isEmpty := fun q => by simp
    rw [e0, hold.isEmpty]
  rw [he]
  split
  · exact .cons _ _ _ _ trivial .nil
  · exact .nil

/-- The next step of a walk over a map. -/
theorem anext_sound (R : Rel C w0 φ s w) {it it' : Value} {ty : TypeId} {K : Value → St → Prop} (h : anext C ansP s it K) (hv : VR φ s.next it it') :
    ∃ v v' s' w', (Instr.next it' false ty).run C.P w = .ok v' w' ∧ Step C w0 φ s φ s' w' ∧ VR φ s'.next v v' ∧ K v s' := by
  unfold anext at h
  split at h
  case h_2 => exact h.elim
  rename_i r
  have hshape : ∃ a, it' = .pointer (some a) := by cases hv; exact ⟨_, rfl⟩
  obtain ⟨a, rfl⟩ := hshape
  split at h
  · -- a walk over nil
    rename_i since seen last hb ho
    obtain ⟨l, m', seen', hl, rfl, hh, hse, him⟩ := iterOf_sound R (Nat.le_of_ble_eq_true hb) ho hv
    cases m' with
    | some _ => exact him.elim
    | none => exact ⟨_, .tuple #[.bool false], s, w, by simp [Instr.next, run_getIter hh], Step.refl R, .tuple _ _ (.cons _ _ _ _ (.bool false) .nil), h⟩
  · rename_i m since seen last hb ho
    obtain ⟨l, m', seen', hl, rfl, hh, hse, him⟩ := iterOf_sound R (Nat.le_of_ble_eq_true hb) ho hv
    split at h
    case h_2 => exact h.elim
    rename_i es clock hbm hom
    obtain ⟨l2, es', hl2, hh2, hes⟩ := mapBlk_sound R (Nat.le_of_ble_eq_true hbm) hom
    cases m' with
    | none => exact him.elim
    | some mb =>
      have hmb : mb = l2.blk := him.2 l2 hl2
      subst hmb
      split at h
      · exact h.elim
      · rename_i hcond
        have hcond' : (!seen'.isEmpty && !es'.isEmpty && es'.all (·.born ≥ last)) = false := by
          have e1 : seen'.isEmpty = seen.isEmpty := by rw [← hse]; simp
          have e2 : es'.isEmpty = es.isEmpty := by rw [← hes.isEmpty]; simp
          have e3 : es'.all (·.born ≥ last) = es.all fun e => Nat.ble last e.born := by
            rw [← Array.all_toList]
            refine hes.all fun e e' he => ?_
            rw [he.2.2.1]
            by_cases hq : last ≤ e.born
            · simp [hq, Nat.ble_eq_true_of_le hq]
            · have : Nat.ble last e.born = false := by
                cases hq2 : Nat.ble last e.born
                · rfl
                · exact absurd (Nat.le_of_ble_eq_true hq2) hq
              simp [this]; omega
          rw [e1, e2, e3]
          exact hcond
        have hc := cands_rel hes since seen seen' hse
        have hall : ∀ c, c ∈ cands since seen es → (match c with
          | some e => K (.tuple #[.bool true, e.key, e.val]) (s.setObj r (.iter (some m) since (seen ++ [e.born]) clock))
          | none => K (.tuple #[.bool false]) s) := fun c hcm => h _ (List.mem_map.2 ⟨c, hcm, rfl⟩)
        have hne : 0 < (cands' since seen' es').size := by
          unfold cands'
          simp only [Array.size_append, Array.size_map]
          split
          · simp
            omega
          · rename_i hx
            have : 0 < ((es'.filter fun e => !seen'.contains e.born).filter (·.born < since)).size := by
              rcases Nat.eq_zero_or_pos ((es'.filter fun e => !seen'.contains e.born).filter (·.born < since)).size with h0 | h0
              · exact absurd (by simpa [Array.isEmpty] using h0) hx
              · exact h0
            omega
        -- the choice
        obtain ⟨i, w1, hi, hrunc, hw1⟩ : ∃ i w1, i < (cands' since seen' es').size ∧ (choose (.mapNext (cands' since seen' es').size)).run C.P w = .ok i w1 ∧ (w1 = w ∨ w1 = { w with drawn := w.drawn + 1 }) := by
          rw [run_choose]
          split
          · exact ⟨0, w, hne, rfl, .inl rfl⟩
          · exact ⟨_, _, Nat.mod_lt _ hne, rfl, .inr rfl⟩
        have R1 : Rel C w0 φ s w1 := by rcases hw1 with rfl | rfl; exact R; exact R.drawn _
        have hheap : w1.heap = w.heap := by rcases hw1 with rfl | rfl <;> rfl
        obtain ⟨c', hc'⟩ : ∃ c', (cands' since seen' es')[i]? = some c' := ⟨_, Array.getElem?_eq_getElem hi⟩
        obtain ⟨c, hcm, hcr⟩ := hc.get (i := i) (c' := c') (by simpa using hc')
        have hrun : (Instr.next (.pointer (some ⟨l.blk, 0, none⟩)) false ty).run C.P w = (match c' with
            | some e => (do
              setObj l.blk (.mapIter (some l2.blk) since (seen'.push e.born) clock)
              pure (.tuple #[.bool true, e.key, e.val]) : Sem Value)
            | none => pure (.tuple #[.bool false])).run C.P w1 := by
          have hcs : (cands' since seen' es')[i]? = some c' := hc'
          unfold cands' at hcs hrunc
          simp only [Instr.next, Sem.run_bind, run_getIter hh, Result.andThen_ok, run_getMap hh2, hcond', Bool.false_eq_true, if_false, hrunc, hcs]
          cases c' <;> rfl
        have hall' := hall c hcm
        cases c' with
        | none =>
          cases c with
          | some _ => exact hcr.elim
          | none => exact ⟨_, .tuple #[.bool false], s, w1, by rw [hrun]; rfl, Step.refl R1, .tuple _ _ (.cons _ _ _ _ (.bool false) .nil), hall'⟩
        | some e' =>
          cases c with
          | none => exact hcr.elim
          | some e =>
            have hh1 : w1.heap[l.blk]? = some (.mapIter (some l2.blk) since seen' last) := by rw [hheap]; exact hh
            have P := R1.put (o' := .mapIter (some l2.blk) since (seen'.push e'.born) clock) (ob := .iter (some m) since (seen ++ [e.born]) clock) (Nat.le_of_ble_eq_true hb) hl (heap_set w1 l.blk _ _ hh1) (by simp) rfl rfl rfl
              ⟨rfl, by simp [hse, hcr.2.2.1], rfl, him⟩
            refine ⟨_, .tuple #[.bool true, e'.key, e'.val], _, _, ?_, P, .tuple _ _ (.cons _ _ _ _ (.bool true) (.cons _ _ _ _ ?_ (.cons _ _ _ _ hcr.2.2.2 .nil))), hall'⟩
            · rw [hrun]
              simp only [Sem.run_bind, run_setIter _ hh1, Result.andThen_ok, Sem.run_pure]
            · rw [hcr.1]; exact key_refl hcr.2.1
  · exact h.elim
end
end Go.Proofs.Ytpdhkonifbdckaa.Abs
