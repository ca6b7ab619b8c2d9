/- Operations that only compute: what the abstract one answers, the concrete one answers too, in every world. -/
import Derived.Test.YtpdhkonifbdckaaAbs1
import Derived.Laws.StructEq
import Derived.Laws.Entries
namespace Go.Proofs.Ytpdhkonifbdckaa.Abs
open Go
set_option linter.unusedSectionVars false
variable [Tok]
set_option linter.unusedSimpArgs false

section
variable {C : Ctx} {φ : Nat → Option Loc} {N : Nat}

theorem run_und {P : Program} {t : TypeId} {d : TypeDesc} (h : P.underlying t = some d) (w : World) : (underlying t).run P w = .ok d w := by
  simp [underlying, h]
theorem run_tinfo {P : Program} {t : TypeId} {i : TypeInfo} (h : P.info? t = some i) (w : World) : (typeInfo t).run P w = .ok i w := by
  simp [typeInfo, h]
theorem run_size {t : TypeId} {n : Nat} (h : sizeAt C t = some n) (w : World) : (sizeOf t).run C.P w = .ok n w := by
  unfold sizeAt at h
  cases hi : C.P.info? t with
  | none => simp [hi] at h
  | some i =>
    simp only [hi, Option.some.injEq] at h
    simp [sizeOf, run_tinfo hi, h]
theorem run_agg {t : TypeId} {g : Bool} (h : aggAt C t = some g) (w : World) : (isAgg t).run C.P w = .ok g w := by
  unfold aggAt at h
  cases hu : C.P.underlying t with
  | none => simp [hu] at h
  | some d => cases d <;> simp [hu] at h <;> subst h <;> simp [isAgg, run_und hu]

theorem cut_some {cs : List Value} {o n : Nat} {r : List Value} (h : cut cs o n = some r) : r = (cs.drop o).take n ∧ r.length = n := by
  unfold cut at h
  simp only at h
  split at h
  · rename_i e
    cases h
    exact ⟨rfl, Nat.eq_of_beq_eq_true e⟩
  · cases h
theorem cut_len {cs : List Value} {o n : Nat} {r : List Value} (h : cut cs o n = some r) (hn : 0 < n) : o + n ≤ cs.length := by
  obtain ⟨rfl, hl⟩ := cut_some h
  simp at hl
  omega
theorem cut_get {cs : List Value} {o n : Nat} {r : List Value} (h : cut cs o n = some r) {j : Nat} (hj : j < n) : r[j]? = cs[o + j]? := by
  obtain ⟨rfl, -⟩ := cut_some h
  simp [List.getElem?_take, hj]

theorem run_part {t : TypeId} {cs cs' : List Value} {off : Nat} {v : Value} (h : apart' C t cs off = some v) (hr : VRs φ N cs cs') (w : World) :
    ∃ v', (part t ⟨cs'⟩ off).run C.P w = .ok v' w ∧ VR φ N v v' := by
  unfold apart' at h
  split at h
  · rename_i n hg hs
    cases hc : cut cs off n with
    | none => simp [hc] at h
    | some r =>
      simp only [hc, Option.bind_some, valueOf, Option.some.injEq] at h
      subst h
      obtain ⟨rfl, hl⟩ := cut_some hc
      refine ⟨.agg ⟨(cs'.drop off).take n⟩, ?_, .agg _ _ ((hr.drop off).take n)⟩
      simp [part, run_agg hg, run_size hs]
  · rename_i n hg hs
    obtain ⟨v', h1, h2⟩ := hr.get h
    exact ⟨v', by simp [part, run_agg hg, h1], h2⟩
  · cases h

theorem zeroCells_some {t : TypeId} {z : Array Value} (h : zeroCellsOf C t = some z) :
    ∃ i zv, C.P.info? t = some i ∧ i.zero = some zv ∧ plainConst zv = true ∧ zv.cells = z := by
  unfold zeroCellsOf at h
  split at h
  · rename_i i hi
    split at h
    · rename_i zv hz
      split at h
      · rename_i hp
        cases h
        exact ⟨i, zv, hi, hz, hp, rfl⟩
      · cases h
    · cases h
  · cases h
theorem run_zero {t : TypeId} {z : Array Value} (h : zeroCellsOf C t = some z) (w : World) : ∃ zv, (zeroValue t).run C.P w = .ok zv w ∧ zv.cells = z ∧ plainConst zv = true := by
  obtain ⟨i, zv, hi, hz, hp, e⟩ := zeroCells_some h
  exact ⟨zv, by simp [zeroValue, run_tinfo hi, hz], e, hp⟩
theorem cells_plain {v : Value} (h : plainConst v = true) : VRs φ N v.cells.toList v.cells.toList := by
  unfold plainConst at h
  split at h
  · rename_i cs
    have h' : ∀ x, x ∈ cs.toList → plainCell x = true := List.all_eq_true.1 h
    simpa [Value.cells] using VRs.map (f := id) (g := id) (φ := φ) (N := N) cs.toList fun x hx => plainCell_refl (h' x hx)
  · rename_i cs
    obtain ⟨l⟩ := cs
    cases l with
    | nil => exact .cons _ _ _ _ (.tuple _ _ .nil) .nil
    | cons _ _ => simp at h
  · cases v <;> simp_all [Value.cells] <;> exact .cons _ _ _ _ (plainCell_refl h) .nil

/-- The cells of related values, where the abstract ones are values of one cell each. -/
theorem VR.cells {v v' : Value} (h : VR φ N v v') (h1 : v.cells.toList.all Value.oneCell' = true) : VRs φ N v.cells.toList v'.cells.toList := by
  cases h with
  | any => simp [Value.cells, Value.oneCell'] at h1
  | tok => simp [Value.cells, Value.oneCell'] at h1
  | agg cs cs' h => exact h
  | tuple cs cs' h => simp [Value.cells, Value.oneCell'] at h1
  | func f a b a' b' k1 k2 => exact .cons _ _ _ _ (.func f a b a' b' k1 k2) .nil
  | yield b m hb h => exact .cons _ _ _ _ (.yield b m hb h) .nil
  | ptr b o a hb h => exact .cons _ _ _ _ (.ptr b o a hb h) .nil
  | slice b o n c a c' hb hn hc h => exact .cons _ _ _ _ (.slice b o n c a c' hb hn hc h) .nil
  | map b m hb h => exact .cons _ _ _ _ (.map b m hb h) .nil
  | iface t v v' h => exact .cons _ _ _ _ (.iface t v v' h) .nil
  | bool b => exact .cons _ _ _ _ (.bool b) .nil
  | int k n => exact .cons _ _ _ _ (.int k n) .nil
  | string s => exact .cons _ _ _ _ (.string s) .nil
  | nilFunc => exact .cons _ _ _ _ .nilFunc .nil
  | nilIface => exact .cons _ _ _ _ .nilIface .nil
  | ptrNil => exact .cons _ _ _ _ .ptrNil .nil
  | sliceNil => exact .cons _ _ _ _ .sliceNil .nil
  | mapNil => exact .cons _ _ _ _ .mapNil .nil

theorem setAll_eq (off : Nat) : ∀ (vs : List Value) (k : Nat) (cs : Array Value),
    ((vs.zipIdx k).foldl (fun cs (c, j) => cs.setIfInBounds (off + j) c) cs).size = cs.size := by
  intro vs
  induction vs with
  | nil => intro k cs; rfl
  | cons v vs ih => intro k cs; simp only [List.zipIdx_cons, List.foldl_cons]; rw [ih]; simp
theorem setAll_rel (off : Nat) : ∀ (vs vs' : List Value) (k : Nat) (cs cs' : Array Value), VRs φ N vs vs' → VRs φ N cs.toList cs'.toList →
    VRs φ N ((vs.zipIdx k).foldl (fun cs (c, j) => cs.setIfInBounds (off + j) c) cs).toList ((vs'.zipIdx k).foldl (fun cs (c, j) => cs.setIfInBounds (off + j) c) cs').toList := by
  intro vs
  induction vs with
  | nil => intro vs' k cs cs' h hc; cases h; simpa using hc
  | cons v vs ih =>
    intro vs' k cs cs' h hc
    cases h with
    | cons _ v' _ l' hv hl =>
      simp only [List.zipIdx_cons, List.foldl_cons]
      refine ih l' (k + 1) _ _ hl ?_
      simp only [Array.toList_setIfInBounds]
      refine VRs.mk (by simpa using hc.length) fun j x x' h1 h2 => ?_
      rw [List.getElem?_set] at h1 h2
      have hlen := hc.length
      split at h1
      · rename_i e
        rw [if_pos e] at h2
        split at h1
        · rw [if_pos (by omega)] at h2; cases h1; cases h2; exact hv
        · cases h1
      · rename_i e
        rw [if_neg e] at h2
        obtain ⟨y, hy, hr⟩ := hc.get h1
        rw [h2] at hy; cases hy; exact hr

/-- Parts of an aggregate: the same places, related values of one-cell cells. -/
def PartsR (φ : Nat → Option Loc) (N : Nat) : List (Nat × Value) → List (Nat × Value) → Prop
  | [], [] => True
  | (i, v) :: l, (i', v') :: l' => i = i' ∧ VR φ N v v' ∧ v.cells.toList.all Value.oneCell' = true ∧ PartsR φ N l l'
  | _, _ => False

theorem fill_rel (place : Nat → Option (Nat × Nat)) : ∀ (ps ps' : List (Nat × Value)) (cs cs' : Array Value) (r : Array Value), PartsR φ N ps ps' → VRs φ N cs.toList cs'.toList →
    Instr.fill place cs ps = some r → ∃ r', Instr.fill place cs' ps' = some r' ∧ VRs φ N r.toList r'.toList
  | [], [], cs, cs', r, _, hc, h => by simp only [Instr.fill, Option.some.injEq] at h; subst h; exact ⟨cs', rfl, hc⟩
  | (i, v) :: ps, (i', v') :: ps', cs, cs', r, hp, hc, h => by
    obtain ⟨rfl, hv, h1, hps⟩ := hp
    simp only [Instr.fill] at h ⊢
    cases hpl : place i with
    | none => simp [hpl] at h
    | some x =>
      obtain ⟨off, size⟩ := x
      simp only [hpl] at h ⊢
      have hcv := hv.cells h1
      have hl1 : v'.cells.size = v.cells.size := by simpa using hcv.length.symm
      have hl2 : cs'.size = cs.size := by simpa using hc.length.symm
      rw [hl1, hl2]
      split at h
      · cases h
      · rename_i hcond
        rw [if_neg hcond]
        refine fill_rel place ps ps' _ _ r hps ?_ h
        have := setAll_rel (φ := φ) (N := N) off v.cells.toList v'.cells.toList 0 cs cs' hcv hc
        have e1 : ∀ (a : Array Value) (c : Array Value), Array.foldl (fun (cs : Array Value) (x : Value × Nat) => cs.setIfInBounds (off + x.2) x.1) c a.zipIdx = (a.toList.zipIdx 0).foldl (fun cs (c, j) => cs.setIfInBounds (off + j) c) c := by
          intro a c
          rw [← Array.foldl_toList, Array.toList_zipIdx]
        rw [← e1, ← e1] at this
        exact this
  | [], _ :: _, _, _, _, hp, _, _ => hp.elim
  | _ :: _, [], _, _, _, hp, _, _ => hp.elim

theorem partsR_map (l : Array (Nat × Operand)) (ρ ρ' : Operand → Value) (h : ∀ p, p ∈ l.toList → VR φ N (ρ p.2) (ρ' p.2)) (ok : partsOk (l.toList.map fun p => (p.1, ρ p.2)) = true) :
    PartsR φ N (l.toList.map fun p => (p.1, ρ p.2)) (l.map fun (i, x) => (i, ρ' x)).toList := by
  obtain ⟨l⟩ := l
  simp only [List.map_toArray]
  induction l with
  | nil => trivial
  | cons p l ih =>
    have ok' : (p.2, ()).1 = p.2 := rfl
    simp only [partsOk, List.map_cons, List.all_cons, Bool.and_eq_true] at ok
    exact ⟨rfl, h p (by simp), ok.1, ih (fun q hq => h q (by simp at hq ⊢; exact .inr hq)) ok.2⟩

theorem run_places : ∀ (fs : List Field) (ps : List (Nat × Nat)), places C fs = some ps → ∀ w, (fs.mapM (fun f => (do pure (f.offset, ← sizeOf f.type) : Sem (Nat × Nat)))).run C.P w = .ok ps w
  | [], ps, h, w => by simp only [places, Option.some.injEq] at h; subst h; simp
  | f :: fs, ps, h, w => by
    simp only [places] at h
    split at h
    · rename_i n l h1 h2
      cases h
      simp only [List.mapM_cons, Sem.run_bind, run_size h1, Result.andThen_ok, Sem.run_pure, run_places fs l h2]
    · cases h

theorem build_sound {t : TypeId} {parts parts' : List (Nat × Value)} {v : Value} (h : abuild C t parts = some v) (hp : partsOk parts = true → PartsR φ N parts parts') (w : World) :
    ∃ v', (Instr.build t parts'.toArray).run C.P w = .ok v' w ∧ VR φ N v v' := by
  unfold abuild at h
  split at h
  · cases h
  rename_i hok
  have hp := hp hok
  split at h
  · rename_i z fs hz hu
    obtain ⟨zv, hr, rfl, hpl⟩ := run_zero hz w
    split at h
    · rename_i ps hps
      cases hf : Instr.fill (fun i => ps[i]?) zv.cells parts with
      | none => simp [hf] at h
      | some r =>
        simp only [hf, Option.map_some, Option.some.injEq] at h
        subst h
        obtain ⟨r', h1, h2⟩ := fill_rel (φ := φ) (N := N) _ parts parts' _ _ r hp (cells_plain hpl) hf
        refine ⟨.agg r', ?_, by obtain ⟨r⟩ := r; obtain ⟨r'⟩ := r'; exact .agg _ _ h2⟩
        have hm : (fs.mapM (fun f => (do pure (f.offset, ← sizeOf f.type) : Sem (Nat × Nat)))).run C.P w = .ok ps.toArray w := by
          have := run_places fs.toList ps hps w
          rw [Array.mapM_eq_mapM_toList]
          simp only [Sem.run_bind, Sem.run_map, this, Result.andThen_ok, Sem.run_pure]
        simp only [Instr.build, Sem.run_bind, hr, Result.andThen_ok, run_und hu, hm]
        have e : (fun i : Nat => (ps.toArray)[i]?) = fun i : Nat => ps[i]? := by funext i; simp
        simp [e, h1]
    · cases h
  · rename_i z n e hz hu
    obtain ⟨zv, hr, rfl, hpl⟩ := run_zero hz w
    split at h
    · rename_i k hk
      cases hf : Instr.fill (fun i => some (i * k, k)) zv.cells parts with
      | none => simp [hf] at h
      | some r =>
        simp only [hf, Option.map_some, Option.some.injEq] at h
        subst h
        obtain ⟨r', h1, h2⟩ := fill_rel (φ := φ) (N := N) _ parts parts' _ _ r hp (cells_plain hpl) hf
        refine ⟨.agg r', ?_, by obtain ⟨r⟩ := r; obtain ⟨r'⟩ := r'; exact .agg _ _ h2⟩
        simp [Instr.build, hr, run_und hu, run_size hk, h1]
    · cases h
  · cases h
end
end Go.Proofs.Ytpdhkonifbdckaa.Abs
