/- Operations that read memory. -/
import Derived.Test.YtpdhkonifbdckaaAbs7
namespace Go.Proofs.Ytpdhkonifbdckaa.Abs
open Go
set_option linter.unusedSectionVars false
variable [Tok]
set_option linter.unusedSimpArgs false

section
variable {C : Ctx} {w0 : Base} {φ φ' : Nat → Option Loc} {s s' : St} {w w' : World} {N N' : Nat}

def FoundR (φ : Nat → Option Loc) (N : Nat) : Option (Nat × Value) → Option (Nat × Value) → Prop
  | none, none => True
  | some (i, v), some (i', v') => i' = i ∧ VR φ N v v'
  | _, _ => False

theorem key_refl {k : Value} (h : scal k = true) : VR φ N k k := by
  unfold scal at h
  split at h
  · rename_i cs
    obtain ⟨l⟩ := cs
    exact .agg _ _ (scal_rel (List.all_eq_true.1 h))
  · exact scalCell_refl h

theorem asking_sound {kt : TypeId} {k : Value} (hk : scal k = true) : ∀ (es : List MEnt) (es' : List MapEntry) (i : Nat) (r : Option (Nat × Value)), afind C kt k es i = some r → EntsR φ N es es' →
    ∀ w, ∃ r', (Instr.findAsking kt k es' i).run C.P w = .ok r' w ∧ FoundR φ N r r'
  | [], [], i, r, h, _, w => by simp only [afind, Option.some.injEq] at h; subst h; exact ⟨none, by simp [Instr.findAsking], trivial⟩
  | e :: es, e' :: es', i, r, h, ⟨⟨h1, h2, h3, h4⟩, hes⟩, w => by
    simp only [afind] at h
    have heq : ∀ b, aequal C Op.maxDepth kt k e.key = some b → (Op.equal kt k e'.key).run C.P w = .ok b w := fun b hb => by
      rw [h1]
      exact equal_sound (φ := φ) (N := N) _ _ _ _ _ _ _ hb (key_refl hk) (key_refl h2) w
    split at h
    · rename_i hb
      cases h
      exact ⟨some (i, e'.val), by simp [Instr.findAsking, heq _ hb], rfl, h4⟩
    · rename_i hb
      obtain ⟨r', h5, h6⟩ := asking_sound hk es es' (i + 1) r h hes w
      exact ⟨r', by simp [Instr.findAsking, heq _ hb, h5], h6⟩
    · cases h

theorem sameNow_eq {kt : TypeId} {d : TypeDesc} {k x : Value} {b b' : Bool} {n : Nat} (hu : C.P.underlying kt = some d) (h : Instr.sameNow d k x = some b) (h2 : aequal C (n + 1) kt k x = some b') : b' = b := by
  unfold Instr.sameNow at h
  unfold aequal at h2
  rw [hu] at h2
  split at h
  · rename_i kd ka a kb c
    simp only at h2
    split at h
    · rename_i e; rw [if_pos e] at h2; cases h; cases h2; rfl
    · cases h
  · simp only at h2; cases h; cases h2; rfl
  · simp only at h2; cases h; cases h2; rfl
  · cases h

theorem now_sound {kt : TypeId} {d : TypeDesc} {k : Value} (hu : C.P.underlying kt = some d) : ∀ (es : List MEnt) (es' : List MapEntry) (i : Nat) (r r' : Option (Nat × Value)), afind C kt k es i = some r → EntsR φ N es es' →
    Instr.findNow d k es' i = some r' → FoundR φ N r r'
  | [], [], i, r, r', h, _, h' => by simp only [afind, Option.some.injEq, Instr.findNow] at h h'; subst h; subst h'; trivial
  | e :: es, e' :: es', i, r, r', h, ⟨⟨h1, h2, h3, h4⟩, hes⟩, h' => by
    simp only [afind] at h
    simp only [Instr.findNow] at h'
    rw [h1] at h'
    split at h
    · rename_i hb
      split at h'
      · cases h; cases h'; exact ⟨rfl, h4⟩
      · rename_i hn; have := sameNow_eq hu hn hb; cases this
      · cases h'
    · rename_i hb
      split at h'
      · rename_i hn; have := sameNow_eq hu hn hb; cases this
      · exact now_sound hu es es' (i + 1) r r' h hes h'
      · cases h'
    · cases h

theorem find_sound {kt : TypeId} {d : TypeDesc} {k : Value} (hu : C.P.underlying kt = some d) (hk : scal k = true) {es : List MEnt} {es' : List MapEntry} {r : Option (Nat × Value)} (h : afind C kt k es 0 = some r) (hes : EntsR φ N es es') (w : World) :
    ∃ r', (Instr.findKey kt k es').run C.P w = .ok r' w ∧ FoundR φ N r r' := by
  cases hn : Instr.findNow d k es' 0 with
  | some r' => exact ⟨r', by simp [Instr.findKey, run_und hu, hn], now_sound hu es es' 0 r r' h hes hn⟩
  | none =>
    obtain ⟨r', h1, h2⟩ := asking_sound hk es es' 0 r h hes w
    exact ⟨r', by simp [Instr.findKey, run_und hu, hn, h1], h2⟩

def lookTail (kt et : TypeId) (k : Value) (ok : Bool) (es : Array MapEntry) : Sem Value := do
  Instr.checkKey es.isEmpty 10000 kt k
  let (v, ok') ← match ← Instr.findKey kt k es.toList with
    | some (_, v) => pure (v, true)
    | none => pure (← zeroValue et, false)
  pure (if ok then .tuple #[v, .bool ok'] else v)

theorem alookup_sound (R : Rel C w0 φ s w) {t : TypeId} {m m' k k' x : Value} {ok : Bool} (h : alookup C s t m k ok = some x) (hm : VR φ s.next m m') (hk : VR φ s.next k k') :
    ∃ x', (Instr.lookup t m' k' ok).run C.P w = .ok x' w ∧ VR φ s.next x x' := by
  unfold alookup at h
  split at h
  case h_2 => cases h
  rename_i kt et hu
  split at h
  case h_2 => cases h
  rename_i i hkey hi
  simp only [Bool.and_eq_true] at hkey
  have ek : k' = k := hk.scal_eq hkey.2
  subst ek
  split at h
  · cases h
  rename_i z hz
  split at h
  · cases h
  rename_i hp
  have hzero : (zeroValue et).run C.P w = .ok z w := by simp [zeroValue, run_tinfo hi, hz]
  obtain ⟨kd, hkd⟩ : ∃ d, C.P.underlying kt = some d := by
    cases hd : C.P.underlying kt with
    | none =>
      have := hkey.1
      unfold akeyOk at this
      rw [hd] at this
      simp at this
    | some d => exact ⟨d, rfl⟩
  split at h
  · cases h
  rename_i es hes
  have hgo : ∃ es' : Array MapEntry, EntsR φ s.next es es'.toList ∧ (Instr.lookup t m' k' ok).run C.P w = (lookTail kt et k' ok es').run C.P w := by
    unfold entsOf at hes
    split at hes
    · cases hm
      cases hes
      refine ⟨#[], trivial, ?_⟩
      unfold Instr.lookup
      rw [Sem.run_bind, run_und hu, Result.andThen_ok]
      rfl
    · split at hes
      · rename_i b es2 c hmo
        cases hes
        obtain ⟨l, es', _, _, _, rfl, hh, he⟩ := mapOf_sound R hmo hm
        refine ⟨es', he, ?_⟩
        unfold Instr.lookup
        rw [Sem.run_bind, run_und hu, Result.andThen_ok]
        simp only [lookTail, Sem.run_bind, run_getMap hh, Result.andThen_ok, Sem.run_pure]
        congr 1
      · cases hes
  obtain ⟨es', he, hgo⟩ := hgo
  rw [hgo]
  simp only [lookTail, Sem.run_bind, keyOk_sound 10000 kt k' hkey.1 hkey.2 _ w, Result.andThen_ok]
  split at h
  · cases h
  · rename_i i1 v hf
    obtain ⟨r', h1, h2⟩ := find_sound hkd hkey.2 hf he w
    cases r' with
    | none => exact h2.elim
    | some p =>
      obtain ⟨i2, v'⟩ := p
      obtain ⟨rfl, h3⟩ := h2
      cases h
      refine ⟨_, by simp only [h1, Result.andThen_ok, Sem.run_pure]; rfl, ?_⟩
      cases ok
      · exact h3
      · exact .tuple _ _ (.cons _ _ _ _ h3 (.cons _ _ _ _ (.bool true) .nil))
  · rename_i hf
    obtain ⟨r', h1, h2⟩ := find_sound hkd hkey.2 hf he w
    cases r' with
    | some p => exact h2.elim
    | none =>
      cases h
      refine ⟨_, by simp only [h1, Result.andThen_ok, Sem.run_bind, hzero, Sem.run_pure]; rfl, ?_⟩
      cases ok
      · exact VR.plain hp
      · exact .tuple _ _ (.cons _ _ _ _ (VR.plain hp) (.cons _ _ _ _ (.bool false) .nil))

theorem EntsR.length : ∀ {es : List MEnt} {es' : List MapEntry}, EntsR φ N es es' → es'.length = es.length
  | [], [], _ => rfl
  | _ :: _, _ :: _, ⟨_, h⟩ => by simp [h.length]

theorem bytes_sound {P : Program} (f : Value → ByteArray → Sem (ForInStep ByteArray)) (hf : ∀ n s, f (.int .u8 n) s = pure (ForInStep.yield (s.push (UInt8.ofNat n.toNat)))) :
    ∀ (r r' : List Value) (acc : List UInt8) (l : List UInt8), aR.bytesOf r acc = some l → VRs φ N r r' → ∀ (b : ByteArray), b.data.toList = acc.reverse → ∀ w,
    (forIn r' b f).run P w = .ok ⟨l.toArray⟩ w
  | [], r', acc, l, h, hr, b, hb, w => by
    cases hr
    simp only [aR.bytesOf, Option.some.injEq] at h
    subst h
    simp only [List.forIn_nil, Sem.run_pure]
    congr 1
    cases b; rename_i d; cases d; simp_all
  | v :: r, r', acc, l, h, hr, b, hb, w => by
    cases hr with
    | cons _ v' _ r2 hv hr2 =>
      cases hv
      case int k n =>
        cases k
        case u8 =>
          simp only [aR.bytesOf] at h
          have := bytes_sound (P := P) f hf r r2 _ l h hr2 (b.push (UInt8.ofNat n.toNat)) (by cases b; rename_i d; cases d; simp_all [ByteArray.push]) w
          simpa [hf] using this
        all_goals simp [aR.bytesOf] at h
      all_goals simp [aR.bytesOf] at h

theorem run_len_map {o : Oper} {args : Array Operand} {ts : Array TypeId} {ρ : Operand → Value} {P : Program} {x : Operand} {t k e : TypeId} {b c : Nat} {es : Array MapEntry}
    (ho : o.op = .call { callee := .builtin .len, args, argTypes := ts }) (ha : args.toList = [x]) (ht : ts.toList = [t]) (hu : P.underlying t = some (.map k e)) (hx : ρ x = .map (some b))
    (hh : w.heap[b]? = some (.map es c)) : (execOp ρ o).run P w = .ok (.value (goInt es.size)) w := by
  refine run_len_call ho ha ht ?_
  rw [hx]
  simp [Builtin.len_, run_und hu, run_getMap hh]

theorem iterOf_sound (R : Rel C w0 φ s w) {r since last : Nat} {m : Option Nat} {seen : List Nat} (hb : C.B0 ≤ r) (ho : s.obj r = some (.iter m since seen last)) {a : Addr}
    (hv : VR φ s.next (.pointer (some ⟨r, 0, none⟩)) (.pointer (some a))) :
    ∃ l m' seen', φ r = some l ∧ a = ⟨l.blk, 0, none⟩ ∧ w.heap[l.blk]? = some (.mapIter m' since seen' last) ∧ seen'.toList = seen ∧ IterR φ s.next m m' := by
  obtain ⟨l, hl, hob⟩ := R.objs r _ hb ho rfl
  cases hv with
  | ptr _ _ _ hr ha =>
    have := ha l hl
    subst this
    unfold ObjR at hob
    split at hob
    · rename_i hh _; cases hh
    · rename_i hh _; cases hh
    · rename_i m1 s1 se1 l1 m' s' se' l' hh hx
      injection hh with h1 h2 h3 h4
      subst h1; subst h2; subst h3; subst h4
      obtain ⟨rfl, h5, rfl, h6⟩ := hob
      exact ⟨l, m', se', hl, rfl, hx, h5, h6⟩
    · rename_i hh _; cases hh
    · rename_i hh _; cases hh
    · exact hob.elim

theorem run_getIter {P : Program} {b since last : Nat} {m : Option Nat} {seen : Array Nat} (h : w.heap[b]? = some (.mapIter m since seen last)) : (getObj b).run P w = .ok (.mapIter m since seen last) w := by
  simp only [getObj, Sem.run, h]

theorem mapBlk_sound (R : Rel C w0 φ s w) {b clock : Nat} {es : List MEnt} (hb : C.B0 ≤ b) (ho : s.obj b = some (.map es clock)) :
    ∃ l es', φ b = some l ∧ w.heap[l.blk]? = some (.map es' clock) ∧ EntsR φ s.next es es'.toList := by
  obtain ⟨l, hl, hob⟩ := R.objs b _ hb ho rfl
  unfold ObjR at hob
  split at hob
  · rename_i hh _; cases hh
  · rename_i hh hx
    injection hh with h1 h2
    subst h1; subst h2
    obtain ⟨rfl, h3⟩ := hob
    exact ⟨l, _, hl, hx, h3⟩
  · rename_i hh _; cases hh
  · rename_i hh _; cases hh
  · rename_i hh _; cases hh
  · exact hob.elim

theorem nat_beq (a b : Nat) : Nat.beq a b = (a == b) := by
  by_cases h : a = b
  · subst h; simp
  · have : Nat.beq a b = false := by
      cases hb : Nat.beq a b
      · rfl
      · exact absurd (Nat.eq_of_beq_eq_true hb) h
    rw [this]; simp [h]

theorem findEnt_sound (stamp : Nat) : ∀ (es : List MEnt) (es' : List MapEntry) (e : MEnt), EntsR φ N es es' → es.find? (fun e => Nat.beq e.born stamp) = some e →
    ∃ e', es'.find? (fun e => e.born == stamp) = some e' ∧ EntR φ N e e'
  | [], [], e, _, h => by simp at h
  | x :: es, x' :: es', e, ⟨hx, hes⟩, h => by
    have hbb : Nat.beq x.born stamp = (x'.born == stamp) := by rw [hx.2.2.1]; exact nat_beq _ _
    simp only [List.find?_cons, hbb] at h ⊢
    split at h
    · rename_i hq; cases h; exact ⟨x', by simp [hq], hx⟩
    · rename_i hq; obtain ⟨e', h1, h2⟩ := findEnt_sound stamp es es' e hes h; exact ⟨e', by simp [hq, h1], h2⟩

theorem aR_sound (R : Rel C w0 φ s w) {o : Oper} {ρ ρ' : Operand → Value} (hρ : RhoR φ s.next o.op ρ ρ') {v : Value} (h : aR C s o.op ρ = some v) :
    ∃ v', (execOp ρ' o).run C.P w = .ok (.value v') w ∧ VR φ s.next v v' := by
  have wrap : ∀ {q : Sem Value}, execOp ρ' o = (do pure (.value (← q))) → (∃ v', q.run C.P w = .ok v' w ∧ VR φ s.next v v') → ∃ v', (execOp ρ' o).run C.P w = .ok (.value v') w ∧ VR φ s.next v v' := by
    intro q e ⟨v', h1, h2⟩
    exact ⟨v', by rw [e, Sem.run_bind, h1]; rfl, h2⟩
  unfold aR at h
  split at h
  · rename_i t a ho
    exact wrap (q := Instr.loadAt t (ρ' a)) (by unfold execOp; rw [ho]) (aload_sound R h (hρ a (by rw [ho]; simp [Op.operands])))
  · rename_i t m k ok ho
    exact wrap (q := Instr.lookup t (ρ' m) (ρ' k) ok) (by unfold execOp; rw [ho]) (alookup_sound R h (hρ m (by rw [ho]; simp [Op.operands])) (hρ k (by rw [ho]; simp [Op.operands])))
  · rename_i args ts ho
    split at h
    · rename_i x t ha ht
      split at h
      · rename_i k e b es c hu hmo
        cases h
        obtain ⟨l, es', _, _, _, hv, hh, he⟩ := mapOf_sound R hmo (hρ x (by rw [ho]; simp [Op.operands, Call.operands, ha]))
        refine ⟨_, run_len_map ho ha ht hu hv hh, ?_⟩
        have : es'.size = es.length := by rw [← he.length]; simp
        rw [this]
        exact .int _ _
      · cases h
    · cases h
  · -- bytes to a string
    rename_i src dst x ho
    have hx := hρ x (by rw [ho]; simp [Op.operands])
    split at h
    · rename_i e hus hud
      split at h
      · rename_i n c hue ex
        cases h
        rw [ex] at hx
        generalize hc' : ρ' x = c' at hx
        cases hx
        refine ⟨_, ?_, .string _⟩
        unfold execOp; rw [ho]
        simp [convert, run_und hus, run_und hud, run_und hue, hc', Conv.bytesToString]
      · rename_i b off len c hue ex
        split at h
        · rename_i cs hcs
          split at h
          · rename_i r hr
            split at h
            · rename_i l hl
              cases h
              rw [ex] at hx
              generalize hc' : ρ' x = c' at hx
              cases hx with
              | slice _ _ _ _ a cc hb hn hc ha =>
                obtain ⟨loc, c1, e1, f1, hloc, hh, hrow⟩ := R.row hcs
                obtain ⟨rfl, _⟩ := ha loc hloc
                obtain ⟨r', h1, h2⟩ := run_loadCells_row hh hrow hr C.P
                have h3 := fun f hf => bytes_sound (P := C.P) f hf r r' [] l hl h2 ByteArray.empty rfl w
                refine ⟨_, ?_, .string _⟩
                unfold execOp; rw [ho]
                simp only [convert, Sem.run_bind, run_und hus, run_und hud, run_und hue, hc', Conv.bytesToString, Result.andThen_ok, h1]
                rw [← Array.forIn_toList]
                simp only
                rw [h3]
                · rfl
                · exact fun _ _ => rfl
            · cases h
          · cases h
        · cases h
      · cases h
    · cases h
  · -- the entry of a walk over a map
    rename_i it ho
    have hx := hρ it (by rw [ho]; simp [Op.operands])
    split at h
    · rename_i r er
      split at h
      · rename_i m since seen stepped hb hob
        split at h
        · rename_i stamp es clock hlast hbm hom
          split at h
          · rename_i hclk
            split at h
            · rename_i e hf
              cases h
              rw [er] at hx
              generalize hc' : ρ' it = c' at hx
              have hshape : ∃ a, c' = .pointer (some a) := by cases hx; exact ⟨_, rfl⟩
              obtain ⟨a, rfl⟩ := hshape
              obtain ⟨l, m', seen', hl, rfl, hh, hse, him⟩ := iterOf_sound R (Nat.le_of_ble_eq_true hb) hob hx
              cases m' with
              | none => exact him.elim
              | some mb =>
                obtain ⟨l2, es', hl2, hh2, hes⟩ := mapBlk_sound R (Nat.le_of_ble_eq_true hbm) hom
                have hmb : mb = l2.blk := him.2 l2 hl2
                subst hmb
                obtain ⟨e', h5, h6⟩ := findEnt_sound stamp es es'.toList e hes hf
                have hclk' : clock = stepped := Nat.eq_of_beq_eq_true hclk
                have hback : seen'.back? = some stamp := by rw [← hlast, ← hse]; simp
                have hfind : es'.find? (fun e => e.born == stamp) = some e' := by rw [← h5]; simp
                refine ⟨.tuple #[e'.key, e'.val], ?_, .tuple _ _ (.cons _ _ _ _ ?_ (.cons _ _ _ _ h6.2.2.2 .nil))⟩
                · unfold execOp; rw [ho]
                  simp only [Instr.entry, hc', Sem.run_bind, run_getIter hh, Result.andThen_ok, hback, run_getMap hh2, hclk', hfind]
                  simp
                · rw [h6.1]; exact key_refl h6.2.1
            · cases h
          · cases h
        · cases h
      · cases h
    · cases h
  · cases h
end
end Go.Proofs.Ytpdhkonifbdckaa.Abs
