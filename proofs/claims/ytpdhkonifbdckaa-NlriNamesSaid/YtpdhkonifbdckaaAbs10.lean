/- Operations that make one block. -/
import Derived.Test.YtpdhkonifbdckaaAbs9
import Derived.IntWalk
namespace Go.Proofs.Ytpdhkonifbdckaa.Abs
open Go
set_option linter.unusedSectionVars false
variable [Tok]
set_option linter.unusedSimpArgs false

section
variable {C : Ctx} {w0 : Base} {φ φ' : Nat → Option Loc} {s s' : St} {w w' : World} {N N' : Nat}

theorem rep_get {α : Type} (l : List α) (hl : 0 < l.length) : ∀ (len i : Nat), i < len * l.length → ((List.replicate len l).flatten)[i]? = l[i % l.length]?
  | 0, i, h => by omega
  | len + 1, i, h => by
    rw [List.replicate_succ, List.flatten_cons]
    by_cases hi : i < l.length
    · rw [List.getElem?_append_left hi, Nat.mod_eq_of_lt hi]
    · rw [List.getElem?_append_right (by omega), rep_get l hl len (i - l.length) (by rw [Nat.add_mul] at h; omega)]
      congr 1
      rw [Nat.mod_eq_sub_mod (by omega : i ≥ l.length)]
theorem rep_length {α : Type} (l : List α) : ∀ (len : Nat), ((List.replicate len l).flatten).length = len * l.length
  | 0 => by simp
  | len + 1 => by rw [List.replicate_succ, List.flatten_cons, List.length_append, rep_length l len, Nat.add_mul]; omega

theorem zero_row (z : Array Value) (len : Nat) (hz : 0 < z.size) : (Array.range (len * z.size)).map (fun i => z[i % z.size]!) = ((List.replicate len z.toList).flatten).toArray := by
  apply Array.ext'
  apply List.ext_getElem?
  intro i
  have hl : z.toList.length = z.size := by simp
  by_cases hi : i < len * z.size
  · have h1 : i % z.size < z.size := Nat.mod_lt _ hz
    simp only [Array.toList_map, Array.toList_range, List.getElem?_map, List.getElem?_range hi, Option.map_some]
    rw [rep_get z.toList (by simpa using hz) len i (by simpa using hi), hl]
    simp [h1]
  · have e1 : ((Array.range (len * z.size)).map (fun i => z[i % z.size]!)).toList[i]? = none := by
      apply List.getElem?_eq_none; simp; omega
    have e2 : ((List.replicate len z.toList).flatten).toArray.toList[i]? = none := by
      apply List.getElem?_eq_none; simp only [rep_length, hl]; omega
    rw [e1, e2]

theorem rep_rel {l l' : List Value} (h : VRs φ N l l') : ∀ (n : Nat), VRs φ N (List.replicate n l).flatten (List.replicate n l').flatten
  | 0 => by simpa using .nil
  | n + 1 => by simpa [List.replicate_succ] using h.append (rep_rel h n)

theorem rowR_of {l l' : List Value} (h : VRs φ N l l') : RowR φ N l l'.toArray := fun j v hj => by
  obtain ⟨v', h1, h2⟩ := h.get hj
  exact ⟨v', by simpa using h1, h2⟩

/-- What an operation that makes one block does: the block that it makes, and the value, whatever the block's number. -/
def Makes (C : Ctx) (φ : Nat → Option Loc) (N : Nat) (o : Oper) (ρ' : Operand → Value) (ob : AObj) (mk : Nat → Value) (w : World) : Prop :=
  ∃ o' v' sz, (execOp ρ' o).run C.P w = .ok (.value v') (w.alloc o') ∧ ObjR φ N ob ⟨w.heap.size, sz, 0⟩ (some o') ∧
    ∀ (φ' : Nat → Option Loc) (N' b : Nat), b < N' → (∀ l, φ' b = some l → l.blk = w.heap.size) → VR φ' N' (mk b) v'

theorem newVar_run (P : Program) (t : TypeId) (v : Value) (w : World) : (newVar t v).run P w = .ok ⟨w.heap.size, 0, none⟩ (w.alloc (.cells v.cells t)) := rfl
theorem newRow_run (P : Program) (t : TypeId) (c : Array Value) (w : World) : (newRow t c).run P w = .ok ⟨w.heap.size, 0, none⟩ (w.alloc (.cells c t)) := rfl

theorem ptr_any {φ' : Nat → Option Loc} {N' b k : Nat} (hb : b < N') (h : ∀ l, φ' b = some l → l.blk = k) : VR φ' N' (.pointer (some ⟨b, 0, none⟩)) (.pointer (some ⟨k, 0, none⟩)) :=
  .ptr _ _ _ hb fun l hl => by rw [h l hl]

theorem slice_any {φ' : Nat → Option Loc} {N' b k n c : Nat} (hc : c < EL) (hn : n ≤ c) (hb : b < N') (h : ∀ l, φ' b = some l → l.blk = k) : VR φ' N' (.slice (some ⟨b, 0, none⟩) n c) (.slice (some ⟨k, 0, none⟩) n c) :=
  .slice _ _ _ _ _ _ hb hn (fun _ => rfl) fun l hl => ⟨by rw [h l hl], fun k' hk => by omega⟩

theorem run_makeSlice {P : Program} {t e : TypeId} {i : TypeInfo} {z : Value} {l c : Nat} {kl kc : IntKind} (hu : P.underlying t = some (.slice e)) (hi : P.info? e = some i) (hz : i.zero = some z) (hlc : l ≤ c)
    (hb : i.bytes * c ≤ 1099511627776) (hc : c ≤ 1099511627776) (w : World) :
    (Instr.makeSlice t (.int kl l) (.int kc c)).run P w =
      .ok (.slice (some ⟨w.heap.size, 0, none⟩) l c) (w.alloc (.cells ((Array.range (c * i.size)).map (fun j => (if c * i.size = 0 then #[] else z.cells)[j % (if c * i.size = 0 then #[] else z.cells).size]!)) e)) := by
  have hl64 : IntKind.i64.wrap (l : Int) = l := IntWalk.i64_in _ (by omega)
  have hc64 : IntKind.i64.wrap (c : Int) = c := IntWalk.i64_in _ (by omega)
  have hb' : ¬ ((i.bytes : Int) * (c : Int) > 2 ^ 48) := by
    have : ((i.bytes * c : Nat) : Int) ≤ 1099511627776 := by generalize i.bytes * c = q at hb ⊢; omega
    rw [Int.natCast_mul] at this
    omega
  simp only [Instr.makeSlice, Sem.run_bind, run_und hu, Result.andThen_ok, asInt, asIntOf, Sem.run_pure, run_tinfo hi, hl64, hc64]
  have hcond : ((decide ((c : Int) < 0) || decide ((i.bytes : Int) * (c : Int) > 2 ^ 48)) || decide ((l : Int) < 0) || decide ((l : Int) > (c : Int))) = false := by
    simp only [Bool.or_eq_false_iff, decide_eq_false_iff_not]
    refine ⟨⟨⟨by omega, hb'⟩, by omega⟩, by omega⟩
  rw [if_neg (by rw [hcond]; exact Bool.false_ne_true)]
  simp only [run_askRoom, Sem.run_bind, Sem.run_pure, Result.andThen_ok, sizeOf, run_tinfo hi, Int.toNat_natCast]
  split
  · rename_i h0
    simp [h0, newRow_run]
  · rename_i h0
    simp [zeroValue, run_tinfo hi, hz, newRow_run, h0]

theorem aA_sound {o : Oper} {ρ ρ' : Operand → Value} (hρ : RhoR φ N o.op ρ ρ') {ob : AObj} {mk : Nat → Value} (h : aA C o.op ρ = some (ob, mk)) (w : World) :
    Makes C φ N o ρ' ob mk w := by
  unfold aA at h
  split at h
  · -- alloc
    rename_i e ho
    split at h
    · rename_i z n hz hn
      split at h
      · rename_i hsz
        cases h
        obtain ⟨zv, h1, rfl, h3⟩ := run_zero hz w
        refine ⟨.cells zv.cells e, .pointer (some ⟨w.heap.size, 0, none⟩), zv.cells.size, ?_, ⟨rfl, rfl, ?_⟩, fun _ _ _ => ptr_any⟩
        · unfold execOp; rw [ho]
          simp only [Instr.alloc, Sem.run_bind, h1, Result.andThen_ok, newVar_run, Sem.run_pure]
        · simpa using rowR_of (cells_plain (φ := φ) (N := N) h3)
      · cases h
    · cases h
  · -- box
    rename_i e x ho
    split at h
    · rename_i n hn
      split at h
      · rename_i hsz h1c
        cases h
        have hx := (hρ x (by rw [ho]; simp [Op.operands])).cells h1c
        refine ⟨.cells (ρ' x).cells e, .pointer (some ⟨w.heap.size, 0, none⟩), (ρ' x).cells.size, ?_, ⟨rfl, rfl, ?_⟩, fun _ _ _ => ptr_any⟩
        · unfold execOp; rw [ho]
          simp only [Instr.box, Sem.run_bind, Result.andThen_ok, newVar_run, Sem.run_pure]
        · simpa using rowR_of hx
      · cases h
    · cases h
  · -- a slice's literal
    rename_i t len ps ho
    unfold abuildSlice at h
    split at h
    case h_2 => cases h
    rename_i e hu
    split at h
    case h_2 => cases h
    rename_i n z hn hz
    split at h
    case h_2 => cases h
    rename_i hle hpos hzs
    split at h
    · cases h
    rename_i hok
    split at h
    case h_2 => cases h
    rename_i cells hf
    cases h
    obtain ⟨zv, h1, rfl, h3⟩ := run_zero hz w
    have hzs' : zv.cells.size = n := Nat.eq_of_beq_eq_true hzs
    have hpos' : 0 < n := Nat.le_of_ble_eq_true hpos
    have hle' : len * n ≤ 16777216 := Nat.le_of_ble_eq_true hle
    have hp := partsR_map (φ := φ) (N := N) ps ρ ρ' (fun p hp => hρ p.2 (by rw [ho]; simp [Op.operands]; exact ⟨p.1, by simpa using hp⟩)) hok
    have hrow := rep_rel (cells_plain (φ := φ) (N := N) h3) len
    obtain ⟨r', h4, h5⟩ := fill_rel (φ := φ) (N := N) (fun i => some (i * n, n)) _ _ ((List.replicate len zv.cells.toList).flatten).toArray ((List.replicate len zv.cells.toList).flatten).toArray cells hp (by simpa using hrow) hf
    rw [Array.toArray_toList] at h4
    have hlen : len < EL := by
      have : len ≤ len * n := Nat.le_mul_of_pos_right len hpos'
      unfold EL; omega
    refine ⟨.cells r' e, .slice (some ⟨w.heap.size, 0, none⟩) len len, r'.size, ?_, ⟨rfl, rfl, ?_⟩, fun _ _ _ => slice_any hlen (Nat.le_refl _)⟩
    · unfold execOp; rw [ho]
      have hno : ¬ (len * n > 2 ^ 24) := by omega
      simp only [Instr.buildSlice, Sem.run_bind, run_und hu, run_size hn, Result.andThen_ok, if_neg hno]
      by_cases e0 : len * n = 0
      · have hlen0 : len = 0 := by
          rcases Nat.mul_eq_zero.1 e0 with h6 | h6 <;> omega
        subst hlen0
        simp only [if_pos e0, Sem.run_bind, Sem.run_pure, Result.andThen_ok]
        have h4' : Instr.fill (fun i => some (i * n, n)) (Array.map (fun x => (#[] : Array Value)[x % (#[] : Array Value).size]!) (Array.range (0 * n))) (Array.map (fun (x : Nat × Operand) => (x.fst, ρ' x.snd)) ps).toList = some r' := by
          rw [← h4]; congr 1; simp
        rw [h4']
        rfl
      · simp only [if_neg e0, Sem.run_bind, Sem.run_pure, Result.andThen_ok, h1]
        have h4' : Instr.fill (fun i => some (i * n, n)) (Array.map (fun x => zv.cells[x % zv.cells.size]!) (Array.range (len * n))) (Array.map (fun (x : Nat × Operand) => (x.fst, ρ' x.snd)) ps).toList = some r' := by
          rw [← h4]; congr 1
          rw [← hzs']
          exact zero_row zv.cells len (by omega)
        rw [h4']
        rfl
    · simpa using rowR_of h5
  · -- a map
    rename_i t r ho
    split at h
    · rename_i k e hu hr
      cases h
      have hr' : r = none := by cases r <;> simp_all
      subst hr'
      refine ⟨.map #[] 0, .map (some w.heap.size), 0, ?_, ⟨rfl, trivial⟩, fun φ' N' b hb h2 => .map _ _ hb fun l hl => (h2 l hl).symm⟩
      unfold execOp; rw [ho]
      simp [Instr.makeMap]
    · rename_i k e kd n hu hr
      cases h
      obtain ⟨x, rfl⟩ : ∃ x, r = some x := by cases r with
        | none => simp at hr
        | some x => exact ⟨x, rfl⟩
      have hx := hρ x (by rw [ho]; simp [Op.operands])
      simp only [Option.map_some, Option.some.injEq] at hr
      rw [hr] at hx
      generalize hc' : ρ' x = c' at hx
      cases hx
      refine ⟨.map #[] 0, .map (some w.heap.size), 0, ?_, ⟨rfl, trivial⟩, fun φ' N' b hb h2 => .map _ _ hb fun l hl => (h2 l hl).symm⟩
      unfold execOp; rw [ho]
      simp [Instr.makeMap, run_und hu, hc', asInt, asIntOf]
    · cases h
  · -- make of a slice
    rename_i t ln cp ho
    split at h
    case h_2 => cases h
    rename_i e l c hu hl hc
    split at h
    case h_2 => cases h
    rename_i i z hi hz
    split at h
    case h_2 => cases h
    rename_i h1 h2 h3 h4
    split at h
    case h_2 => cases h
    rename_i h5
    cases h
    obtain ⟨kl, el⟩ := natOf_some hl (hρ ln (by rw [ho]; simp [Op.operands]))
    obtain ⟨kc, ec⟩ := natOf_some hc (hρ cp (by rw [ho]; simp [Op.operands]))
    obtain ⟨i2, zv, hi2, hz2, hp, rfl⟩ := zeroCells_some hz
    rw [hi] at hi2; cases hi2
    have hsz : zv.cells.size = i.size := Nat.eq_of_beq_eq_true h4
    have hlc := Nat.le_of_ble_eq_true h1
    have hcb := Nat.le_of_ble_eq_true h3
    have hrun := run_makeSlice (kl := kl) (kc := kc) hu hi hz2 hlc (Nat.le_of_ble_eq_true h2) hcb w
    have hpos : 0 < i.size := Nat.le_of_ble_eq_true h5
    have hcells : (Array.range (c * i.size)).map (fun j => (if c * i.size = 0 then #[] else zv.cells)[j % (if c * i.size = 0 then (#[] : Array Value) else zv.cells).size]!) = ((List.replicate c zv.cells.toList).flatten).toArray := by
      by_cases e0 : c * i.size = 0
      · have : c = 0 := by
          rcases Nat.mul_eq_zero.1 e0 with h6 | h6 <;> omega
        subst this
        simp
      · simp only [if_neg e0]
        rw [← hsz]
        exact zero_row zv.cells c (by omega)
    rw [hcells] at hrun
    refine ⟨.cells ((List.replicate c zv.cells.toList).flatten).toArray e, .slice (some ⟨w.heap.size, 0, none⟩) l c, ((List.replicate c zv.cells.toList).flatten).toArray.size, ?_, ⟨rfl, rfl, ?_⟩, fun _ _ _ => slice_any (by unfold EL; omega) hlc⟩
    · unfold execOp; rw [ho]
      simp only [el, ec, Sem.run_bind, hrun, Result.andThen_ok, Sem.run_pure]
    · exact rowR_of (rep_rel (cells_plain (φ := φ) (N := N) hp) c)
  · cases h
end
end Go.Proofs.Ytpdhkonifbdckaa.Abs
