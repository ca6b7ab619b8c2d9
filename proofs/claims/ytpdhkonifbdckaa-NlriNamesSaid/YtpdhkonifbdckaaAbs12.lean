/- Append, in the abstract and in the concrete. -/
import Derived.Test.YtpdhkonifbdckaaAbs11
namespace Go.Proofs.Ytpdhkonifbdckaa.Abs
open Go
set_option linter.unusedSectionVars false
variable [Tok]
set_option linter.unusedSimpArgs false

section
variable {C : Ctx} {w0 : Base} {φ φ' : Nat → Option Loc} {s s' : St} {w w' : World} {N N' : Nat}

theorem zeroCells_size (z : Array Value) (n : Nat) : (Builtin.zeroCells z n).size = n * z.size := by simp [Builtin.zeroCells]

theorem bound_need {q b : Nat} (h : (2 * q + 192) * (b + 1) ≤ 281474976710656) : (2 * q + 192) * b ≤ 281474976710656 ∧ q ≤ 9223372036854775807 := by
  have h1 : (2 * q + 192) * (b + 1) = (2 * q + 192) * b + (2 * q + 192) := by rw [Nat.mul_add, Nat.mul_one]
  omega

/-- The row that a growing append makes. -/
theorem grown_row {old xs : List Value} {old' xs' : Array Value} (h1 : VRs φ N old old'.toList) (h2 : VRs φ N xs xs'.toList) (rest : Array Value) : RowR φ N (old ++ xs) (old' ++ xs' ++ rest) := by
  intro j v hj
  obtain ⟨v', h3, h4⟩ := (h1.append h2).get hj
  refine ⟨v', ?_, h4⟩
  have hlt : j < (old'.toList ++ xs'.toList).length := (List.getElem?_eq_some_iff.1 h3).1
  rw [Array.getElem?_append_left (by simpa using hlt), ← h3, ← Array.toList_append, Array.getElem?_toList]

def NextIs (n : Next) (v' : Value) : Prop := n = .value v' ∨ (n = .skip ∧ v' = undef)

/-- What an operation of the spine that calls nothing does. -/
def Does (C : Ctx) (w0 : Base) (φ : Nat → Option Loc) (s : St) (w : World) (o : Oper) (ρ' : Operand → Value) (v : Value) (s' : St) : Prop :=
  ∃ n v' φ' w', (execOp ρ' o).run C.P w = .ok n w' ∧ NextIs n v' ∧ Step C w0 φ s φ' s' w' ∧ VR φ' s'.next v v'

section app
variable {st xt ty e : TypeId} {xd : TypeDesc} {i : TypeInfo} {zv : Value} {x x' : Value} {n : Nat} {xs : List Value}

/-- Growing into a new row, whatever the old one is in the abstract. -/
theorem grow_sound (R : Rel C w0 φ s w) (hx : VR φ s.next x x') (hu : C.P.underlying st = some (.slice e)) (hxu : C.P.underlying xt = some xd) (hni : notInt xd = true) (hi : C.P.info? e = some i)
    (hz0 : i.zero = some zv) (hln : lenOf' x = some n) (hsrc : srcCells C s i.size n x = some xs) (hxl : xs.length = n * i.size) (hzs : zv.cells.size = i.size)
    {φ1 : Nat → Option Loc} {s1 : St} {base' : Option Addr} {len cap' : Nat} {old : List Value} {old' : Array Value} (R1 : Rel C w0 φ1 s1 w) (L1 : Later φ s.next φ1 s1.next)
    (hold : VRs φ1 s1.next old old'.toList) (hgt : ¬ len + n ≤ cap') (hb : (2 * (len + n) + 192) * (i.bytes + 1) ≤ 281474976710656) (hol : old.length = len * i.size)
    (hrun : (Builtin.firstCells i.size len (.slice base' len cap')).run C.P w.drew = .ok old' w.drew) :
    ∃ v' φ' w', (Builtin.append_ #[st, xt] ty #[.slice base' len cap', x']).run C.P w = .ok v' w' ∧ Step C w0 φ1 s1 φ' (s1.alloc (.row (old ++ xs) i.size true)) w' ∧
      VR φ' (s1.next + 1) (.slice (some ⟨s1.next, 0, none⟩) (len + n) (EL + i.size)) v' := by
  have hlen := fun w => lenOf_sound hln hx C.P w
  obtain ⟨xs', h1, h2⟩ := srcCells_sound (R.drawn (w.drawn + 1)) hsrc hx
  obtain ⟨hb1, hb2⟩ := bound_need hb
  obtain ⟨nc, hnc, hrun2⟩ := run_append_grows (ty := ty) hu hxu hni hi hz0 hlen hgt hb1 hrun h1 hb2
  have hrow : ObjR φ1 s1.next (.row (old ++ xs) i.size true) ⟨w.drew.heap.size, (old' ++ xs' ++ Builtin.zeroCells zv.cells (nc - (len + n))).size, 0⟩
      (some (.cells (old' ++ xs' ++ Builtin.zeroCells zv.cells (nc - (len + n))) e)) := ⟨rfl, rfl, grown_row hold (h2.later L1) _⟩
  have hst := (R1.drawn (w.drawn + 1)).alloc hrow
  refine ⟨_, _, _, hrun2, hst, ?_⟩
  refine .slice _ _ _ _ _ _ (Nat.lt_succ_self _) hnc (fun hlt => by omega) fun l hl => ?_
  have hl' : l = ⟨w.drew.heap.size, (old' ++ xs' ++ Builtin.zeroCells zv.cells (nc - (len + n))).size, 0⟩ := by
    unfold upd at hl; rw [if_pos rfl] at hl; cases hl; rfl
  subst hl'
  refine ⟨rfl, fun k hk => ?_⟩
  have : k = i.size := by omega
  subst this
  have ho' : old'.size = len * i.size := by rw [← hol]; simpa using hold.length.symm
  have hx' : xs'.size = n * i.size := by rw [← hxl]; simpa using h2.length.symm
  simp only [Array.size_append, zeroCells_size, ho', hx', hzs, Nat.zero_add]
  rw [← Nat.add_mul, ← Nat.add_mul]
  congr 1
  omega

theorem live_of_put {b o : Nat} {vs : List Value} (R : Rel C w0 φ s w) (h : putCells C s b o vs = some s') : ∃ l, φ b = some l := by
  unfold putCells at h
  split at h
  · rename_i cs es el hb ho
    obtain ⟨l, hl, _⟩ := R.objs b _ (Nat.le_of_ble_eq_true hb) ho rfl
    exact ⟨l, hl⟩
  · cases h

theorem put_next {b o : Nat} {vs : List Value} (h : putCells C s b o vs = some s') : s'.next = s.next := by
  unfold putCells at h
  split at h
  · split at h
    · cases h; rfl
    · cases h
  · cases h

/-- An append that fits the concrete capacity, into a row of the run's own. -/
theorem fits_sound (R : Rel C w0 φ s w) (hx : VR φ s.next x x') (hu : C.P.underlying st = some (.slice e)) (hxu : C.P.underlying xt = some xd) (hni : notInt xd = true) (hi : C.P.info? e = some i)
    (hln : lenOf' x = some n) (hsrc : srcCells C s i.size n x = some xs) {b o len cap c' : Nat} {a' : Addr} (hb : b < s.next) (hle : len + n ≤ c') (hc : cap < EL → c' = cap)
    (ha : ∀ l, φ b = some l → a' = ⟨l.blk, o, none⟩ ∧ CapOk l o cap c') (hput : putCells C s b (o + len * i.size) xs = some s') :
    ∃ v' φ' w', (Builtin.append_ #[st, xt] ty #[.slice (some a') len c', x']).run C.P w = .ok v' w' ∧ Step C w0 φ s φ' s' w' ∧ VR φ' s'.next (.slice (some ⟨b, o, none⟩) (len + n) cap) v' := by
  have hlen := fun w => lenOf_sound hln hx C.P w
  obtain ⟨l, hl⟩ := live_of_put R hput
  obtain ⟨rfl, hcap⟩ := ha l hl
  obtain ⟨xs', h1, h2⟩ := srcCells_sound R hsrc hx
  obtain ⟨w', h3, h4⟩ := putCells_sound R hput h2 hl
  have := run_append_fits (ty := ty) (w' := w') hu hxu hni hi hlen hle (base := some ⟨l.blk, o, none⟩) h1 (by simp only [storeBase, add_off]; exact h3)
  refine ⟨_, φ, w', this, h4, ?_⟩
  rw [put_next hput]
  exact .slice _ _ _ _ _ _ hb hle hc fun l2 hl2 => by
    rw [hl] at hl2; cases hl2
    exact ⟨rfl, hcap⟩

theorem rowR_len {cs : List Value} {c : Array Value} (hc : RowR φ N cs c) : cs.length ≤ c.size := by
  rcases Nat.eq_zero_or_pos cs.length with e | e
  · omega
  · obtain ⟨v', h3, _⟩ := hc (cs.length - 1) cs[cs.length - 1] (List.getElem?_eq_getElem (by omega))
    have := (Array.getElem?_eq_some_iff.1 h3).1
    omega

theorem Rel.ownRow (R : Rel C w0 φ s w) {b es : Nat} {cs : List Value} {el : Bool} (hb : C.B0 ≤ b) (ho : s.obj b = some (.row cs es el)) :
    ∃ l c t f, φ b = some l ∧ w.heap[l.blk]? = some (.cells c t f) ∧ Unm c.size f ∧ c.size = l.size ∧ RowR φ s.next cs c := by
  obtain ⟨l, hl, hob⟩ := R.objs b _ hb ho rfl
  unfold ObjR at hob
  split at hob
  · rename_i c t f hh hx
    injection hh with e1 e2 e3
    subst e1
    obtain ⟨h0, h1, h2⟩ := hob
    exact ⟨l, c, t, f, hl, hx, h0, h1, h2⟩
  · rename_i hh _; cases hh
  · rename_i hh _; cases hh
  · rename_i hh _; cases hh
  · rename_i hh _; cases hh
  · exact hob.elim

theorem oneCell_rel {vs vs' : List Value} (hv : VRs φ N vs vs') (h : vs.all Value.oneCell' = true) : ∀ v' ∈ vs', v'.oneCell' = true := by
  intro v' hv'
  obtain ⟨j, hj⟩ := List.getElem?_of_mem hv'
  obtain ⟨v, hvj⟩ : ∃ v, vs[j]? = some v := by
    have : j < vs.length := by have := (List.getElem?_eq_some_iff.1 hj).1; have := hv.length; omega
    exact ⟨_, List.getElem?_eq_getElem this⟩
  obtain ⟨u, hu, hr⟩ := hv.get hvj
  rw [hj] at hu; cases hu
  have h1c := List.all_eq_true.1 h v (List.mem_of_getElem? hvj)
  cases hr <;> first | rfl | simp [Value.oneCell'] at h1c

/-- A row whose head stays, with new cells behind it. -/
theorem splice_row {cs vs vs' : List Value} {c : Array Value} {m : Nat} (hc : RowR φ N cs c) (hv : VRs φ N vs vs') (hm : m ≤ cs.length) :
    RowR φ N (cs.take m ++ vs) (c.toList.take m ++ vs' ++ c.toList.drop (m + vs'.length)).toArray := by
  intro j v hj
  have hcl := rowR_len hc
  have hlen := hv.length
  by_cases e1 : j < m
  · have h5 : cs[j]? = some v := by
      rw [List.getElem?_append_left (by simp; omega), List.getElem?_take, if_pos e1] at hj
      exact hj
    obtain ⟨v', h6, h7⟩ := hc j v h5
    refine ⟨v', ?_, h7⟩
    simp only [List.getElem?_toArray]
    rw [List.append_assoc, List.getElem?_append_left (by simp; omega), List.getElem?_take, if_pos e1]
    simpa using h6
  · have h5 : vs[j - m]? = some v := by
      rw [List.getElem?_append_right (by simp; omega)] at hj
      rw [← hj]; congr 1; simp; omega
    obtain ⟨v', h6, h7⟩ := hv.get h5
    have hlt := (List.getElem?_eq_some_iff.1 h6).1
    refine ⟨v', ?_, h7⟩
    simp only [List.getElem?_toArray]
    rw [List.append_assoc, List.getElem?_append_right (by simp; omega), List.getElem?_append_left (by simp; omega), ← h6]
    congr 1; simp; omega

theorem appendTo_sound (R : Rel C w0 φ s w) (hx : VR φ s.next x x') (hu : C.P.underlying st = some (.slice e)) (hxu : C.P.underlying xt = some xd) (hni : notInt xd = true) (hi : C.P.info? e = some i)
    (hz0 : i.zero = some zv) (hln : lenOf' x = some n) (hsrc : srcCells C s i.size n x = some xs) (hxl : xs.length = n * i.size) (hzs : zv.cells.size = i.size) (hpos : 0 < i.size) (h1c : xs.all Value.oneCell' = true) (hn0 : n ≠ 0)
    {sv sv' v : Value} (hs : VR φ s.next sv sv') (h : appendTo C s i.size i.bytes n xs sv = some (v, s')) :
    ∃ v' φ' w', (Builtin.append_ #[st, xt] ty #[sv', x']).run C.P w = .ok v' w' ∧ Step C w0 φ s φ' s' w' ∧ VR φ' s'.next v v' := by
  unfold appendTo at h
  split at h
  · -- to nil
    split at h
    · rename_i hb
      cases h
      cases hs
      have hg := grow_sound (ty := ty) R hx hu hxu hni hi hz0 hln hsrc hxl hzs (φ1 := φ) (s1 := s) (base' := none) (len := 0) (cap' := 0) (old := []) (old' := #[]) R (Later.refl _ _) .nil (by omega) (by simpa using hb) (by simp) rfl
      simp only [List.nil_append, Nat.zero_add] at hg
      exact hg
    · cases h
  · rename_i b o len cap
    split at h
    case isFalse => cases h
    rename_i hb
    split at h
    · -- elastic
      rename_i hcap
      unfold appendEl at h
      split at h
      case h_2 => cases h
      rename_i cs es ho
      split at h
      · cases h
      rename_i hbB
      split at h
      · rename_i hfit
        cases hput : putCells C s b (o + len * i.size) xs with
        | none => simp [hput] at h
        | some s1 =>
          simp only [hput, Option.map_some, Option.some.injEq] at h
          cases h
          cases hs with
          | slice _ _ _ _ a' c' hbN hn hc ha =>
            obtain ⟨l, c, te, fz, hl, hh, hfz, hsz, hrow⟩ := R.ownRow (by omega) ho
            have hcap' := (ha l hl).2 i.size hcap
            have hlen2 := rowR_len hrow
            have hle : len + n ≤ c' := by
              rcases Nat.lt_or_ge c' (len + n) with h5 | h5
              · have : c' * i.size < (len + n) * i.size := Nat.mul_lt_mul_of_pos_right h5 hpos
                omega
              · exact h5
            have := fits_sound (ty := ty) R hx hu hxu hni hi hln hsrc hbN hle hc ha hput
            rw [hcap] at this
            exact this
      · split at h
        · rename_i hcond
          obtain ⟨rfl, hle2⟩ := hcond
          cases h
          cases hs with
          | slice _ _ _ _ a' c' hbN hn hc ha =>
            have hbB' : C.B0 ≤ b := by omega
            obtain ⟨l, c, te, fz, hl, hh, hfz, hsz, hrow⟩ := R.ownRow hbB' ho
            obtain ⟨rfl, hcap0⟩ := ha l hl
            have hcap' := hcap0 i.size hcap
            simp only [Nat.zero_add] at hcap'
            have K := R.kill hbB'
            by_cases hle : len + n ≤ c'
            · -- in place
              obtain ⟨xs', h1, h2⟩ := srcCells_sound R hsrc hx
              have hlen := fun w => lenOf_sound hln hx C.P w
              have hx1c := oneCell_rel h2 h1c
              have hxl' : xs'.toList.length = n * i.size := by rw [← hxl]; exact h2.length.symm
              have hfit2 : (len + n) * i.size ≤ c.size := by rw [hsz, ← hcap']; exact Nat.mul_le_mul_right _ hle
              have hst := run_stores (P := C.P) l.blk (len * i.size) te fz xs'.toList 0 c w hh hfz (by rw [hxl']; rw [Nat.add_mul] at hfit2; omega) hx1c
              simp only [Nat.add_zero] at hst
              have hrun := run_append_fits (ty := ty) hu hxu hni hi hlen hle (base := some ⟨l.blk, 0, none⟩) h1 (by simp only [storeBase, add_off, Nat.zero_add]; exact hst)
              have hA := K.rel.adopt (l := l) (ob := .row (cs.take (len * i.size) ++ xs) i.size true) (w' := w.setRow l.blk (c.toList.take (len * i.size) ++ xs'.toList ++ c.toList.drop (len * i.size + xs'.toList.length)).toArray)
                (fun b2 l2 hl2 e2 => by
                  unfold Abs.kill at hl2
                  split at hl2
                  · cases hl2
                  · rename_i hne; exact hne (R.inj _ _ _ _ hl2 hl e2))
                (fun x hx e => (R.held x hx).2.2 _ _ hl e.symm)
                (R.own _ _ hbB' hl) (R.lt _ _ hl) (fun k => heap_setRow w l.blk _ c te fz hh k) (by simp [World.setRow]) rfl rfl rfl
                ⟨by rw [show (c.toList.take (len * i.size) ++ xs'.toList ++ c.toList.drop (len * i.size + xs'.toList.length)).toArray.size = c.size by simp; rw [Nat.add_mul] at hfit2; simp at hxl'; omega]; exact hfz, by simp; rw [hsz] at hfit2; rw [Nat.add_mul] at hfit2; simp at hxl'; omega, (splice_row hrow h2 hle2).later K.later⟩
              refine ⟨_, _, _, hrun, Step.trans K hA, ?_⟩
              refine .slice _ _ _ _ _ _ (Nat.lt_succ_self _) hle (fun hlt => by omega) fun l2 hl2 => ?_
              have : l2 = l := by
                change upd (Abs.kill φ b) s.next l s.next = some l2 at hl2
                unfold upd at hl2; rw [if_pos rfl] at hl2; cases hl2; rfl
              subst this
              refine ⟨rfl, fun k hk => ?_⟩
              have : k = i.size := by omega
              subst this
              rw [Nat.zero_add]; exact hcap'
            · -- a new row
              have hcut : cut cs 0 (len * i.size) = some (cs.take (len * i.size)) := by
                unfold cut
                simp only [List.drop_zero]
                have e5 : (cs.take (len * i.size)).length = len * i.size := by simp; omega
                rw [e5]
                have : Nat.beq (len * i.size) (len * i.size) = true := by simp
                rw [this]
              obtain ⟨r', h1, h2⟩ := run_loadCells_row (w := w.drew) hh hrow hcut C.P
              have hg := grow_sound (ty := ty) R hx hu hxu hni hi hz0 hln hsrc hxl hzs (base' := some ⟨l.blk, 0, none⟩) (old' := ⟨r'⟩) K.rel K.later (h2.later K.later) hle hb (by simp; omega) h1
              obtain ⟨v', φ', w', h3, h4, h5⟩ := hg
              exact ⟨v', φ', w', h3, Step.trans K h4, h5⟩
        · cases h
    · rename_i hcap
      split at h
      · cases h
      rename_i hEL
      split at h
      · rename_i hle
        cases hput : putCells C s b (o + len * i.size) xs with
        | none => simp [hput] at h
        | some s1 =>
          simp only [hput, Option.map_some, Option.some.injEq] at h
          cases h
          cases hs with
          | slice _ _ _ _ a' c' hbN hn hc ha =>
            exact fits_sound R hx hu hxu hni hi hln hsrc hbN (by rw [hc (by omega)]; exact hle) hc ha hput
      · rename_i hgt
        cases hold : oldCells C s b o (len * i.size) with
        | none => simp [hold] at h
        | some old =>
          simp only [hold, Option.map_some, Option.some.injEq] at h
          cases h
          cases hs with
          | slice _ _ _ _ a' c' hbN hn hc ha =>
            have hcc : c' = cap := hc (by omega)
            subst hcc
            have hrd : ∃ r' : List Value, (Builtin.firstCells i.size len (.slice (some a') len c')).run C.P w.drew = .ok ⟨r'⟩ w.drew ∧ VRs φ s.next old r' ∧ old.length = len * i.size := by
              unfold oldCells at hold
              split at hold
              · rename_i h0
                cases hold
                refine ⟨[], ?_, .nil, by simp [h0]⟩
                simp [Builtin.firstCells, loadCells, h0, loadCellsFrom]
              · cases hr : rowOf C s b with
                | none => simp [hr] at hold
                | some cs =>
                  simp only [hr, Option.bind_some] at hold
                  obtain ⟨l, c1, e1, f1, hl, hh, hrow⟩ := R.row hr
                  obtain ⟨rfl, _⟩ := ha l hl
                  obtain ⟨r', h1, h2⟩ := run_loadCells_row (w := w.drew) hh hrow hold C.P
                  exact ⟨r', h1, h2, (cut_some hold).2⟩
            obtain ⟨r', h1, h2, h3⟩ := hrd
            exact grow_sound (ty := ty) R hx hu hxu hni hi hz0 hln hsrc hxl hzs (old' := ⟨r'⟩) R (Later.refl _ _) h2 hgt hb h3 h1
  · cases h
end app

theorem aappend_sound (R : Rel C w0 φ s w) {st xt ty : TypeId} {sv sv' x x' v : Value} (h : aappend C s st xt sv x = some (v, s')) (hs : VR φ s.next sv sv') (hx : VR φ s.next x x') :
    ∃ v' φ' w', (Builtin.append_ #[st, xt] ty #[sv', x']).run C.P w = .ok v' w' ∧ Step C w0 φ s φ' s' w' ∧ VR φ' s'.next v v' := by
  unfold aappend at h
  split at h
  case h_2 => cases h
  rename_i e xd n hu hxu hln
  split at h
  case h_2 => cases h
  rename_i i z hni hi hz
  have hlen := fun w => lenOf_sound hln hx C.P w
  obtain ⟨i2, zv, hi2, hz0, hzp, rfl⟩ := zeroCells_some hz
  rw [hi] at hi2; cases hi2
  split at h
  · -- nothing is appended
    rename_i hn0
    subst hn0
    split at h
    · rename_i a len cap
      cases h
      have hempty : ∃ xs : Array Value, (Builtin.firstCells i.size 0 x').run C.P w = .ok xs w ∧ xs.toList = [] := by
        unfold lenOf' at hln
        split at hln
        · cases hx with
          | sliceNil => exact ⟨#[], rfl, rfl⟩
          | slice => exact ⟨#[], by simp [Builtin.firstCells, loadCells, loadCellsFrom], rfl⟩
        · cases hx
          refine ⟨_, rfl, ?_⟩
          simp [ByteArray.data_extract]
        · cases hln
      obtain ⟨xs, h1, h2⟩ := hempty
      cases hs with
      | sliceNil =>
        have := run_append_fits (ty := ty) (len := 0) (cap := 0) (w' := w) hu hxu hni hi hlen (Nat.le_refl _) (base := none) h1 rfl
        exact ⟨_, φ, w, this, Step.refl R, .sliceNil⟩
      | slice b o _ _ a' c' hb hn hc ha =>
        have := run_append_fits (ty := ty) (len := len) (cap := c') (w' := w) hu hxu hni hi hlen (by omega) (base := some a') h1 (by simp [storeBase, h2, storeCells])
        exact ⟨_, φ, w, this, Step.refl R, .slice b o _ _ a' c' hb hn hc ha⟩
    · cases h
  · rename_i hn0
    split at h
    case h_2 => cases h
    rename_i xs hsrc
    split at h
    case isFalse => cases h
    rename_i hk
    obtain ⟨hxl, hpos, hzs, h1c⟩ := hk
    exact appendTo_sound R hx hu hxu hni hi hz0 hln hsrc hxl hzs hpos h1c hn0 hs h
end
end Go.Proofs.Ytpdhkonifbdckaa.Abs
