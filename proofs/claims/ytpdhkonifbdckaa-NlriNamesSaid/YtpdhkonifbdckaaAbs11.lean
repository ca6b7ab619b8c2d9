/- Append. -/
import Derived.Test.YtpdhkonifbdckaaAbs10
namespace Go.Proofs.Ytpdhkonifbdckaa.Abs
open Go
set_option linter.unusedSectionVars false
variable [Tok]
set_option linter.unusedSimpArgs false

section
variable {C : Ctx} {w0 : Base} {φ φ' : Nat → Option Loc} {s s' : St} {w w' : World} {N N' : Nat}

/-- A block that dies. -/
theorem Rel.kill (R : Rel C w0 φ s w) {b : Nat} (hb : C.B0 ≤ b) : Step C w0 φ s (kill φ b) (s.setObj b .dead) w := by
  have L : Later φ s.next (Abs.kill φ b) s.next := ⟨Nat.le_refl _, fun x _ => by unfold Abs.kill; split; exact .inr rfl; exact .inl rfl⟩
  refine ⟨{ old := R.old, base := R.base, size := R.size, os := R.os, tape := R.tape, output := R.output, next := R.next, nowhere := ?_, fresh := ?_, lows := ?_, inj := ?_, lt := ?_, own := ?_, objs := ?_, thaw := R.thaw, held := ?_, nd := R.nd }, L⟩
  · unfold Abs.kill; split; rfl; exact R.nowhere
  · intro x hx; unfold Abs.kill; split; rfl; exact R.fresh x hx
  · intro x hx; unfold Abs.kill; rw [if_neg (by omega)]; exact R.lows x hx
  · intro x y l l' h1 h2 e
    unfold Abs.kill at h1 h2
    split at h1
    · cases h1
    · split at h2
      · cases h2
      · exact R.inj _ _ _ _ h1 h2 e
  · intro x l h1
    unfold Abs.kill at h1
    split at h1
    · cases h1
    · exact R.lt _ _ h1
  · intro x l hx h1
    unfold Abs.kill at h1
    split at h1
    · cases h1
    · exact R.own _ _ hx h1
  · intro x o hx ho hlive
    by_cases e : x = b
    · subst e
      have : AObj.dead = o := by simpa [St.obj, St.setObj, Trie.get_set] using ho
      subst this
      cases hlive
    · have ho' : s.obj x = some o := by simpa [St.obj, St.setObj, Trie.get_set, e] using ho
      obtain ⟨l, hl, hob⟩ := R.objs x o hx ho' hlive
      exact ⟨l, by unfold Abs.kill; rw [if_neg e]; exact hl, hob.later L⟩
  · intro x hx
    obtain ⟨h1, h2, h3⟩ := R.held x hx
    refine ⟨h1, h2, fun b' l hl => ?_⟩
    unfold Abs.kill at hl
    split at hl
    · cases hl
    · exact h3 b' l hl

/-- A new abstract block over a concrete one that no other has. -/
theorem Rel.adopt (R : Rel C w0 φ s w) {l : Loc} {ob : AObj} {o' : Obj} (hfree : ∀ b l', φ b = some l' → l'.blk ≠ l.blk) (hnh : ∀ x, x ∈ w0.held → x.1 ≠ l.blk) (hown : w0.heap.size ≤ l.blk) (hlt : l.blk < w.heap.size)
    (hheap : ∀ k, w'.heap[k]? = if k = l.blk then some o' else w.heap[k]?) (hsz : w'.heap.size = w.heap.size) (hos : w'.os = w.os) (htape : w'.tape = w.tape) (hout : w'.output = w.output)
    (h : ObjR φ s.next ob l (some o')) : Step C w0 φ s (upd φ s.next l) (s.alloc ob) w' := by
  have L := later_upd φ s l
  refine ⟨{ old := R.old, base := ?_, size := by rw [hsz]; exact R.size, os := by rw [hos]; exact R.os, tape := by rw [htape]; exact R.tape, output := by rw [hout]; exact R.output, next := ?_, nowhere := ?_, fresh := ?_, lows := ?_, inj := ?_, lt := ?_, own := ?_, objs := ?_, thaw := fun k x hk hx => (by rw [hheap] at hx; split at hx; cases hx; exact h.thawed; exact R.thaw _ _ hk hx), held := ?_, nd := R.nd }, L⟩
  · intro k hk
    rw [hheap, if_neg (by omega)]
    exact R.base k hk
  · show C.B0 < s.next + 1; have := R.next; omega
  · unfold upd; rw [if_neg (by have := R.next; omega)]; exact R.nowhere
  · intro b hb
    have hb' : s.next + 1 ≤ b := hb
    unfold upd; rw [if_neg (by omega)]; exact R.fresh b (by omega)
  · intro b hb
    unfold upd; rw [if_neg (by have := R.next; omega)]; exact R.lows b hb
  · intro b b' l1 l2 h1 h2 e
    unfold upd at h1 h2
    split at h1 <;> split at h2
    · omega
    · cases h1; exact absurd e.symm (hfree _ _ h2)
    · cases h2; exact absurd e (hfree _ _ h1)
    · exact R.inj _ _ _ _ h1 h2 e
  · intro b l1 h1
    rw [hsz]
    unfold upd at h1
    split at h1
    · cases h1; exact hlt
    · exact R.lt _ _ h1
  · intro b l1 hb h1
    unfold upd at h1
    split at h1
    · cases h1; exact hown
    · exact R.own _ _ hb h1
  · intro b o hb ho hlive
    by_cases e : b = s.next
    · subst e
      have : ob = o := by simpa [St.obj, St.alloc, Trie.get_set] using ho
      subst this
      refine ⟨l, by unfold upd; rw [if_pos rfl], ?_⟩
      rw [hheap, if_pos rfl]
      exact h.later L
    · have ho' : s.obj b = some o := by simpa [St.obj, St.alloc, Trie.get_set, e] using ho
      obtain ⟨l', hl, hob⟩ := R.objs b o hb ho' hlive
      refine ⟨l', by unfold upd; rw [if_neg e]; exact hl, ?_⟩
      rw [hheap, if_neg (hfree _ _ hl)]
      exact hob.later L
  · intro x hx
    obtain ⟨h1, h2, h3⟩ := R.held x hx
    refine ⟨h1, by rw [hheap, if_neg (hnh x hx)]; exact h2, fun b l1 hl => ?_⟩
    unfold upd at hl
    split at hl
    · cases hl; exact (hnh x hx).symm
    · exact h3 b l1 hl

theorem srcCells_sound (R : Rel C w0 φ s w) {k n : Nat} {x x' : Value} {xs : List Value} (h : srcCells C s k n x = some xs) (hx : VR φ s.next x x') :
    ∃ xs' : Array Value, (Builtin.firstCells k n x').run C.P w = .ok xs' w ∧ VRs φ s.next xs xs'.toList := by
  unfold srcCells at h
  split at h
  · rename_i b o len c
    split at h
    · rename_i cs hcs
      obtain ⟨l, c1, e1, f1, hl, hh, hr⟩ := R.row hcs
      cases hx with
      | slice _ _ _ _ a c' hb hle hc ha =>
        obtain ⟨rfl, _⟩ := ha l hl
        obtain ⟨r', h1, h2⟩ := run_loadCells_row hh hr h C.P
        exact ⟨⟨r'⟩, h1, h2⟩
    · cases h
  · rename_i str
    cases h
    cases hx
    refine ⟨(str.extract 0 n).data.map fun b => .int .u8 b.toNat, rfl, ?_⟩
    have e : ((str.extract 0 n).data.map fun b => Value.int .u8 b.toNat).toList = (str.data.toList.take n).map fun b => .int .u8 b.toNat := by
      simp [ByteArray.data_extract]
    rw [e]
    exact VRs.map _ fun b _ => .int _ _
  · cases h

theorem lenOf_sound {x x' : Value} {n : Nat} (h : lenOf' x = some n) (hx : VR φ N x x') (P : Program) (w : World) : (Builtin.lenOf x').run P w = .ok n w := by
  unfold lenOf' at h
  split at h
  · cases h; cases hx <;> rfl
  · cases h; cases hx; rfl
  · cases h

theorem nextcap_le (need c : Nat) (h : c < need) : Builtin.nextslicecap need c ≤ 2 * need + 192 := by
  unfold Builtin.nextslicecap
  split
  · omega
  · split
    · omega
    · have key : ∀ (r c : Nat), c ≤ 2 * need + 192 → (c < need ∨ c ≤ 2 * need + 192) → Builtin.growBy need r c ≤ 2 * need + 192 := by
        intro r
        induction r with
        | zero => intro c h1 _; exact h1
        | succ r ih =>
          intro c h1 _
          unfold Builtin.growBy
          split
          · exact h1
          · exact ih _ (by omega) (.inr (by omega))
      exact key 4 c (by omega) (.inl h)

section runs
variable {P : Program} {st xt e ty : TypeId} {xd : TypeDesc} {i : TypeInfo} {x' : Value} {n len cap : Nat}

def storeBase (base : Option Addr) (n : Nat) (xs : List Value) : Sem Unit := match base with
  | some a => storeCells (a.add n) xs
  | none => pure ()

/-- Append that fits. -/
theorem run_append_fits (hu : P.underlying st = some (.slice e)) (hx : P.underlying xt = some xd) (hxd : notInt xd = true) (hi : P.info? e = some i)
    (hn : ∀ w, (Builtin.lenOf x').run P w = .ok n w) (hle : len + n ≤ cap) {base : Option Addr} {xs : Array Value} (hf : (Builtin.firstCells i.size n x').run P w = .ok xs w)
    (hst : (storeBase base (len * i.size) xs.toList).run P w = .ok () w') :
    (Builtin.append_ #[st, xt] ty #[.slice base len cap, x']).run P w = .ok (.slice base (len + n) cap) w' := by
  have key : (Builtin.append_ #[st, xt] ty #[.slice base len cap, x']).run P w =
      ((storeBase base (len * i.size) xs.toList).run P w).andThen fun _ w' => .ok (.slice base (len + n) cap) w' := by
    cases xd <;> first
      | (simp [notInt] at hxd; done)
      | (simp only [Builtin.append_, List.getElem?_toArray, List.getElem?_cons_zero, List.getElem?_cons_succ, Sem.run_bind, run_und hu, run_und hx, Result.andThen_ok, sizeOf, run_tinfo hi, Sem.run_pure,
          Bool.false_eq_true, if_false, Bool.not_false, if_true, hn, if_pos hle, hf]
         cases base with
         | none => rfl
         | some a => simp only [storeBase, Sem.run_bind, Sem.run_pure])
  rw [key, hst]
  rfl

/-- Append that needs a new row. -/
theorem run_append_grows (hu : P.underlying st = some (.slice e)) (hx : P.underlying xt = some xd) (hxd : notInt xd = true) (hi : P.info? e = some i)
    {z : Value} (hz0 : i.zero = some z) (hn : ∀ w, (Builtin.lenOf x').run P w = .ok n w) (hgt : ¬ len + n ≤ cap) (hb : (2 * (len + n) + 192) * i.bytes ≤ 281474976710656)
    {base : Option Addr} {old xs : Array Value} (hold : (Builtin.firstCells i.size len (.slice base len cap)).run P w.drew = .ok old w.drew)
    (hf : (Builtin.firstCells i.size n x').run P w.drew = .ok xs w.drew) (hneed : len + n ≤ 9223372036854775807) :
    ∃ nc, len + n ≤ nc ∧ (Builtin.append_ #[st, xt] ty #[.slice base len cap, x']).run P w =
      .ok (.slice (some ⟨w.heap.size, 0, none⟩) (len + n) nc) (w.drew.alloc (.cells (old ++ xs ++ Builtin.zeroCells z.cells (nc - (len + n))) e)) := by
  refine ⟨(Question.appendCap (len + n) cap e).cut (w.tape w.drawn (.appendCap (len + n) cap e)), by simp [Question.cut], ?_⟩
  have h1 : ¬ (((len + n : Nat) : Int) > IntKind.i64.max ∧ (False ∨ i.bytes = 0)) := by
    have : IntKind.i64.max = 9223372036854775807 := by rfl
    rw [this]; omega
  have h2 : ¬ (Builtin.nextslicecap (len + n) cap * i.bytes > 2 ^ 48) := by
    have := nextcap_le (len + n) cap (by omega)
    have h3 : Builtin.nextslicecap (len + n) cap * i.bytes ≤ (2 * (len + n) + 192) * i.bytes := Nat.mul_le_mul_right _ this
    omega
  cases xd <;> first
    | (simp [notInt] at hxd; done)
    | (simp only [Builtin.append_, List.getElem?_toArray, List.getElem?_cons_zero, List.getElem?_cons_succ, Sem.run_bind, run_und hu, run_und hx, Result.andThen_ok, sizeOf, run_tinfo hi, Sem.run_pure,
        Bool.false_eq_true, if_false, Bool.not_false, if_true, hn, if_neg hgt, Sem.run_ite, if_neg h2, if_neg h1, run_choose, Question.forced, World.drew_eq, run_askRoom, hold, hf, zeroValue, hz0, newRow_run]
       rfl)
end runs
end
end Go.Proofs.Ytpdhkonifbdckaa.Abs
