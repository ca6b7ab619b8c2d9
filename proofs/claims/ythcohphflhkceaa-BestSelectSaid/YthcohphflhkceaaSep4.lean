/- Symbolic runs: append; equality of structs and arrays. -/
import Derived.Test.YthcohphflhkceaaSep3
namespace Go.Proofs.Ythcohphflhkceaa.Abs
open Go
set_option linter.unusedVariables false

section
variable {C : Ctx} {hd : HH Prop} {nt : Nat} {ops : Array Oper} {o : Oper} {os : List Oper} {l l' : Sl} {H H' : Hp} {v : Value} {x y z : Operand} {t yt : TypeId}
variable {Ψ : Sl → Hp → Prop} {Θ : Value → Hp → Prop} {op : Op}

/-- One block fewer. -/
inductive Del : Hp → Nat → AObj → Hp → Prop where
  | here (b : Nat) (o : AObj) (H : Hp) : Del ((b, o) :: H) b o H
  | there (c : Nat) (p : AObj) {H : Hp} {b : Nat} {o : AObj} {H' : Hp} (h : Del H b o H') : Del ((c, p) :: H) b o ((c, p) :: H')
theorem de0 {b : Nat} {o : AObj} : Del ((b, o) :: H) b o H := .here _ _ _
theorem de1 {b : Nat} {o : AObj} {a1 : Nat × AObj} : Del (a1 :: (b, o) :: H) b o (a1 :: H) := .there _ _ de0
theorem de2 {b : Nat} {o : AObj} {a1 a2 : Nat × AObj} : Del (a1 :: a2 :: (b, o) :: H) b o (a1 :: a2 :: H) := .there _ _ de1
theorem de3 {b : Nat} {o : AObj} {a1 a2 a3 : Nat × AObj} : Del (a1 :: a2 :: a3 :: (b, o) :: H) b o (a1 :: a2 :: a3 :: H) := .there _ _ de2
theorem de4 {b : Nat} {o : AObj} {a1 a2 a3 a4 : Nat × AObj} : Del (a1 :: a2 :: a3 :: a4 :: (b, o) :: H) b o (a1 :: a2 :: a3 :: a4 :: H) := .there _ _ de3
theorem Del.mem {b : Nat} {o : AObj} (h : Del H b o H') : (b, o) ∈ H := by
  induction h with
  | here => exact List.Mem.head _
  | there c p _ ih => exact List.Mem.tail _ ih
theorem Del.sub {b : Nat} {o : AObj} (h : Del H b o H') : H'.Sublist H := by
  induction h with
  | here => exact List.Sublist.cons _ (List.Sublist.refl _)
  | there c p _ ih => exact ih.cons_cons _
theorem Del.other {b : Nat} {o : AObj} (h : Del H b o H') : (H.Pairwise fun a b => a.1 ≠ b.1) → ∀ p ∈ H', p.1 ≠ b := by
  induction h with
  | here b o H => intro hn p hp; cases hn with
    | cons h1 _ => exact fun e => h1 p hp e.symm
  | there c q h ih => intro hn p hp; cases hn with
    | cons h1 h2 => cases hp with
      | head => exact h1 _ h.mem
      | tail _ hp => exact ih h2 p hp
theorem MS.kill {s : St} {b : Nat} {o : AObj} (hm : MS C H s) (h : Del H b o H') : MS C H' (s.setObj b .dead) := by
  have h1 := hm.sub h.sub
  refine ⟨h1.nd, fun c p hp => ?_, hm.low⟩
  obtain ⟨g1, g2, g3⟩ := h1.has c p hp
  exact ⟨g1, g2, (Trie.get_set_other _ _ _ _ (h.other hm.nd _ hp)).trans g3⟩

/-- The type of what is appended to: the cells and the bytes of an element. -/
def appT (C : Ctx) (st xt : TypeId) : Option (Nat × Nat) := match C.P.underlying st, C.P.underlying xt with
  | some (.slice e), some xd => match notInt xd, C.P.info? e, zeroCellsOf C e with
    | true, some i, some z => match Nat.blt 0 i.size, Nat.beq z.size i.size with
      | true, true => some (i.size, i.bytes)
      | _, _ => none
    | _, _, _ => none
  | _, _ => none
/-- The cells of what is appended. -/
inductive Src (C : Ctx) (H : Hp) (k : Nat) : Value → Nat → List Value → Prop where
  | slice (b o n c : Nat) (cs xs : List Value) (hrow : RowIs C H b cs) (hc : cut cs o (n * k) = some xs) : Src C H k (.slice (some ⟨b, o, none⟩) n c) n xs
  | str (s : ByteArray) (hk : k = 1) : Src C H k (.string s) s.size (s.data.toList.map fun b => .int .u8 b.toNat)
theorem cut_size {cs r : List Value} {o n : Nat} (h : cut cs o n = some r) : r.length = n := by
  unfold cut at h
  simp only at h
  split at h
  · rename_i e; cases h; exact Nat.eq_of_beq_eq_true e
  · cases h
theorem Src.cells {k n : Nat} {w : Value} {xs : List Value} {s : St} (h : Src C H k w n xs) (hm : MS C H s) : lenOf' w = some n ∧ srcCells C s k n w = some xs ∧ xs.length = n * k := by
  cases h with
  | slice b o n c cs xs hrow hc =>
    refine ⟨rfl, ?_, cut_size hc⟩
    simp only [srcCells, hrow.rowOf hm, hc]
  | str s' hk =>
    subst hk
    refine ⟨rfl, ?_, by rw [List.length_map, Nat.mul_one]; show s'.data.toList.length = s'.data.size; simp⟩
    simp only [srcCells, Option.some.injEq]
    rw [List.take_of_length_le (by show s'.data.toList.length ≤ s'.data.size; simp)]
theorem aappend_is {s : St} {st xt : TypeId} {k by' n : Nat} {sv w : Value} {xs : List Value} (ht : appT C st xt = some (k, by')) (hs : Src C H k w n xs) (hm : MS C H s) (hn : n ≠ 0) (h1 : xs.all Value.oneCell' = true) :
    aappend C s st xt sv w = appendTo C s k by' n xs sv := by
  obtain ⟨g1, g2, g3⟩ := hs.cells hm
  unfold appT at ht
  unfold aappend
  split at ht
  · rename_i e xd e1 e2
    split at ht
    · rename_i i z e3 e4 e5
      split at ht
      · rename_i e6 e7
        cases ht
        simp only [e1, e2, g1, e3, e4, e5, if_neg hn, g2]
        have e6 : 0 < i.size := Nat.le_of_ble_eq_true e6
        have e7 := Nat.eq_of_beq_eq_true e7
        rw [if_pos ⟨g3, e6, e7, h1⟩]
      · cases ht
    · cases ht
  · cases ht
theorem aappend_none {s : St} {st xt : TypeId} {kb : Nat × Nat} {ad : Option Addr} {n c : Nat} {w : Value} (ht : appT C st xt = some kb) (hw : lenOf' w = some 0) : aappend C s st xt (.slice ad n c) w = some (.slice ad n c, s) := by
  unfold appT at ht
  unfold aappend
  split at ht
  · rename_i e xd e1 e2
    split at ht
    · rename_i i z e3 e4 e5
      simp only [e1, e2, hw, e3, e4, e5, if_true]
    · cases ht
  · cases ht
theorem cut_one {cs : List Value} {o : Nat} {v : Value} (h : cut cs o 1 = some [v]) : cs[o]? = some v := by
  have h1 : (cs.drop o).take 1 = [v] := by
    unfold cut at h
    simp only at h
    split at h
    · exact Option.some.inj h
    · cases h
  have h2 := congrArg (fun l : List Value => l[0]?) h1
  simpa [List.getElem?_take, List.getElem?_drop] using h2
/-- Nothing is appended. -/
theorem st_app0 {st xt : TypeId} {kb : Nat × Nat} {ad : Option Addr} {n c : Nat} {w : Value} (hx : evalL l x = some (.slice ad n c)) (hy : evalL l y = some w) (ht : appT C st xt = some kb) (hw : lenOf' w = some 0) (hk : Θ (.slice ad n c) H) :
    StepT C hd (.call { callee := .builtin .append, args := #[x, y], argTypes := #[st, xt] }) l H Θ :=
  st_W (cov2 hx hy) rfl (fun _ => rfl) rfl fun s hm => by
    refine ⟨_, H, s, ?_, hm, hk⟩
    show aappend C s st xt (rhoL l x) (rhoL l y) = _
    rw [rhoL_eq hx, rhoL_eq hy, aappend_none ht hw]
/-- To a nil slice. -/
theorem st_appNil {st xt : TypeId} {k by' n : Nat} {w : Value} {xs : List Value} (hx : evalL l x = some (.slice none 0 0)) (hy : evalL l y = some w) (ht : appT C st xt = some (k, by')) (hs : Src C H k w n xs) (hn : n ≠ 0) (h1 : xs.all Value.oneCell' = true)
    (hb : (2 * n + 192) * (by' + 1) ≤ 281474976710656) (hk : ∀ b, Θ (.slice (some ⟨b, 0, none⟩) n (EL + k)) ((b, .row xs k true) :: H)) :
    StepT C hd (.call { callee := .builtin .append, args := #[x, y], argTypes := #[st, xt] }) l H Θ :=
  st_W (cov2 hx hy) rfl (fun _ => rfl) rfl fun s hm => by
    refine ⟨_, _, _, ?_, hm.alloc (.row xs k true), hk s.next⟩
    show aappend C s st xt (rhoL l x) (rhoL l y) = _
    rw [rhoL_eq hx, rhoL_eq hy, aappend_is ht hs hm hn h1]
    simp only [appendTo]
    rw [if_pos hb]
/-- To a slice that an append has made, and that is full. -/
theorem st_appEl {st xt : TypeId} {k by' n b len es : Nat} {w : Value} {cs xs : List Value} (hx : evalL l x = some (.slice (some ⟨b, 0, none⟩) len (EL + k))) (hy : evalL l y = some w) (ht : appT C st xt = some (k, by')) (hs : Src C H k w n xs) (hn : n ≠ 0) (h1 : xs.all Value.oneCell' = true)
    (hdel : Del H b (.row cs es true) H') (hlen : cs.length = len * k) (hb : (2 * (len + n) + 192) * (by' + 1) ≤ 281474976710656) (hk : ∀ b', Θ (.slice (some ⟨b', 0, none⟩) (len + n) (EL + k)) ((b', .row (cs ++ xs) k true) :: H')) :
    StepT C hd (.call { callee := .builtin .append, args := #[x, y], argTypes := #[st, xt] }) l H Θ :=
  st_W (cov2 hx hy) rfl (fun _ => rfl) rfl fun s hm => by
    obtain ⟨g1, g2, g3⟩ := hm.has _ _ hdel.mem
    have hkpos : 0 < k := by
      unfold appT at ht
      split at ht
      · split at ht
        · split at ht
          · rename_i e6 e7; cases ht; exact Nat.le_of_ble_eq_true e6
          · cases ht
        · cases ht
      · cases ht
    have hroom : ¬ 0 + (len + n) * k ≤ cs.length := by
      rw [hlen, Nat.add_mul]
      have : 0 < n * k := Nat.mul_pos (Nat.pos_of_ne_zero hn) hkpos
      omega
    refine ⟨_, _, _, ?_, (hm.kill hdel).alloc (.row (cs ++ xs) k true), hk s.next⟩
    show aappend C s st xt (rhoL l x) (rhoL l y) = _
    rw [rhoL_eq hx, rhoL_eq hy, aappend_is ht hs hm hn h1]
    simp only [appendTo]
    rw [if_pos hb, if_pos trivial]
    simp only [appendEl, g3]
    rw [if_neg (by omega), if_neg hroom, if_pos ⟨trivial, by rw [hlen]; exact Nat.le_refl _⟩, List.take_of_length_le (by rw [hlen]; exact Nat.le_refl _)]
/-- To a slice of known capacity that is full. -/
theorem st_appFull {st xt : TypeId} {k by' n b off len cap : Nat} {w : Value} {cs old xs : List Value} (hx : evalL l x = some (.slice (some ⟨b, off, none⟩) len cap)) (hy : evalL l y = some w) (ht : appT C st xt = some (k, by')) (hs : Src C H k w n xs) (hn : n ≠ 0) (h1 : xs.all Value.oneCell' = true)
    (hcap : cap < EL) (hfull : cap < len + n) (hold : len = 0 ∧ old = [] ∨ RowIs C H b cs ∧ cut cs off (len * k) = some old) (hb : (2 * (len + n) + 192) * (by' + 1) ≤ 281474976710656)
    (hk : ∀ b', Θ (.slice (some ⟨b', 0, none⟩) (len + n) (EL + k)) ((b', .row (old ++ xs) k true) :: H)) :
    StepT C hd (.call { callee := .builtin .append, args := #[x, y], argTypes := #[st, xt] }) l H Θ :=
  st_W (cov2 hx hy) rfl (fun _ => rfl) rfl fun s hm => by
    refine ⟨_, _, _, ?_, hm.alloc (.row (old ++ xs) k true), hk s.next⟩
    show aappend C s st xt (rhoL l x) (rhoL l y) = _
    rw [rhoL_eq hx, rhoL_eq hy, aappend_is ht hs hm hn h1]
    have ho : oldCells C s b off (len * k) = some old := by
      unfold oldCells
      rcases hold with ⟨rfl, rfl⟩ | ⟨h2, h3⟩
      · simp
      · split
        · rename_i e
          rw [e] at h3
          have := cut_size h3
          rw [List.eq_nil_of_length_eq_zero this]
        · simp only [h2.rowOf hm, Option.bind_some, h3]
    simp only [appendTo]
    rw [if_pos hb, if_neg (by omega), if_neg (by omega), if_neg (by omega), ho]
    rfl

/-! ### Equality of structs and arrays -/
def okLeaf (P : Program) (u : TypeId) (v : Value) : Bool := match P.underlying u, v with
  | some (.int k), .int k' _ => decide (k = k')
  | some .bool, .bool _ => true
  | some .string, .string _ => true
  | _, _ => false
def leafEq : Value → Value → Bool
  | .int _ a, .int _ b => a == b
  | .bool a, .bool b => a == b
  | .string a, .string b => a == b
  | _, _ => false
def leafsEq : List Value → List Value → Bool
  | [], [] => true
  | a :: x, b :: y => leafEq a b && leafsEq x y
  | _, _ => false
def okLeaves (P : Program) : List TypeId → List Value → Bool
  | [], [] => true
  | u :: us, v :: vs => okLeaf P u v && okLeaves P us vs
  | _, _ => false
theorem okLeaf_inv {P : Program} {u : TypeId} {v : Value} (h : okLeaf P u v = true) :
    (∃ k n, P.underlying u = some (.int k) ∧ v = .int k n) ∨ (∃ b, P.underlying u = some .bool ∧ v = .bool b) ∨ (∃ s, P.underlying u = some .string ∧ v = .string s) := by
  unfold okLeaf at h
  split at h
  · rename_i k k' n hu
    have e := of_decide_eq_true h
    subst e
    exact .inl ⟨_, _, hu, rfl⟩
  · rename_i b hu; exact .inr (.inl ⟨_, hu, rfl⟩)
  · rename_i b hu; exact .inr (.inr ⟨_, hu, rfl⟩)
  · cases h
theorem aequal_leaf {d : Nat} {u : TypeId} {a b : Value} (ha : okLeaf C.P u a = true) (hb : okLeaf C.P u b = true) : aequal C (d + 1) u a b = some (leafEq a b) := by
  rcases okLeaf_inv ha with ⟨k, n, hu, rfl⟩ | ⟨p, hu, rfl⟩ | ⟨p, hu, rfl⟩ <;> rcases okLeaf_inv hb with ⟨k', n', hu', rfl⟩ | ⟨p', hu', rfl⟩ | ⟨p', hu', rfl⟩ <;>
    first | (rw [hu] at hu'; cases hu'; simp [aequal, hu, leafEq]) | (rw [hu] at hu'; cases hu')
theorem okLeaves_length : ∀ {P : Program} {ls : List TypeId} {cs : List Value}, okLeaves P ls cs = true → cs.length = ls.length
  | _, [], [], _ => rfl
  | _, [], _ :: _, h => by cases h
  | _, _ :: _, [], h => by cases h
  | P, u :: us, v :: vs, h => by
    simp only [okLeaves, Bool.and_eq_true] at h
    simp [okLeaves_length h.2]
theorem okLeaves_append {P : Program} {l2 : List TypeId} : ∀ {l1 : List TypeId} {cs : List Value}, okLeaves P (l1 ++ l2) cs = true → okLeaves P l1 (cs.take l1.length) = true ∧ okLeaves P l2 (cs.drop l1.length) = true
  | [], cs, h => by simpa [okLeaves] using h
  | u :: us, [], h => by cases h
  | u :: us, v :: vs, h => by
    simp only [List.cons_append, okLeaves, Bool.and_eq_true] at h
    obtain ⟨h1, h2⟩ := okLeaves_append h.2
    exact ⟨by simp [okLeaves, h.1, h1], by simpa using h2⟩
theorem leafsEq_split : ∀ (n : Nat) (xs ys : List Value), xs.length = ys.length → leafsEq xs ys = (leafsEq (xs.take n) (ys.take n) && leafsEq (xs.drop n) (ys.drop n))
  | 0, xs, ys, _ => by simp [leafsEq]
  | n + 1, [], [], _ => by simp [leafsEq]
  | n + 1, [], _ :: _, h => by simp at h
  | n + 1, _ :: _, [], h => by simp at h
  | n + 1, a :: xs, b :: ys, h => by
    simp only [leafsEq, List.take_succ_cons, List.drop_succ_cons, Bool.and_assoc]
    rw [leafsEq_split n xs ys (by simpa using h)]
/-- The types of the cells of a type whose values are compared cell by cell. -/
def fieldsE (f : TypeId → Option (List TypeId)) (sz : TypeId → Option Nat) : List Field → Nat → Option (List TypeId)
  | [], _ => some []
  | fd :: fds, off => match decide (fd.name ≠ "_"), Nat.beq fd.offset off, f fd.type, sz fd.type with
    | true, true, some ls, some n => match Nat.beq ls.length n, fieldsE f sz fds (off + ls.length) with
      | true, some r => some (ls ++ r)
      | _, _ => none
    | _, _, _, _ => none
def leavesE (C : Ctx) : Nat → TypeId → Option (List TypeId)
  | 0, _ => none
  | d + 1, t => match C.P.underlying t with
    | some (.struct fs) => match C.P.stoodInHeld t with
      | true => none
      | false => fieldsE (leavesE C d) (sizeAt C) fs.toList 0
    | some (.array n e) => match leavesE C d e, sizeAt C e with
      | some ls, some k => match Nat.beq ls.length k with
        | true => some (repLeaves ls n)
        | false => none
      | _, _ => none
    | some (.int _) | some .bool | some .string => match sizeAt C t with
      | some 1 => some [t]
      | _ => none
    | _ => none
def EqOk (C : Ctx) (d : Nat) : Prop := ∀ (t : TypeId) (ls : List TypeId), leavesE C d t = some ls → ∃ g, aggAt C t = some g ∧ ∀ (xs ys : List Value), okLeaves C.P ls xs = true → okLeaves C.P ls ys = true → ∀ m, d ≤ m →
  ∃ a b, valueOf g xs = some a ∧ valueOf g ys = some b ∧ (g = false → xs = [a] ∧ ys = [b]) ∧ aequal C m t a b = some (leafsEq xs ys)
theorem apart_is {t : TypeId} {g : Bool} {n off : Nat} {xs : List Value} {a : Value} (hg : aggAt C t = some g) (hn : sizeAt C t = some n) (hl : ((xs.drop off).take n).length = n) (hv : valueOf g ((xs.drop off).take n) = some a) (h1 : g = false → (xs.drop off).take n = [a]) : apart' C t xs off = some a := by
  unfold apart'
  rw [hg, hn]
  cases g with
  | true =>
    have : cut xs off n = some ((xs.drop off).take n) := by unfold cut; simp only [hl, Nat.beq_refl]
    simp only [this, Option.bind_some, hv]
  | false =>
    have h2 := h1 rfl
    rw [h2] at hl
    have hn1 : n = 1 := by simpa using hl.symm
    subst hn1
    have h3 := congrArg (fun l : List Value => l[0]?) h2
    simp only [List.getElem?_take, List.getElem?_drop] at h3
    simpa using h3
theorem okLeaves_take {P : Program} {ls : List TypeId} {zs : List Value} {off : Nat} (h : okLeaves P ls ((zs.drop off).take ls.length) = true) : ((zs.drop off).take ls.length).length = ls.length := okLeaves_length h
theorem fieldsE_ok {d m : Nat} (ih : EqOk C d) (hm : d ≤ m) {xs ys : List Value} : ∀ (fds : List Field) (off : Nat) (r : List TypeId), fieldsE (leavesE C d) (sizeAt C) fds off = some r → okLeaves C.P r ((xs.drop off).take r.length) = true → okLeaves C.P r ((ys.drop off).take r.length) = true →
    fieldsEq C (aequal C m) fds xs ys = some (leafsEq ((xs.drop off).take r.length) ((ys.drop off).take r.length))
  | [], off, r, h, _, _ => by cases h; simp [fieldsEq, leafsEq]
  | fd :: fds, off, r, h, hx, hy => by
    unfold fieldsE at h
    split at h
    · rename_i ls n e1 e2 e3 e4
      have e1 := of_decide_eq_true e1
      have e2 := Nat.eq_of_beq_eq_true e2
      split at h
      · rename_i r' e5 e6
        have e5 := Nat.eq_of_beq_eq_true e5
        cases h
        have spl : ∀ zs : List Value, (zs.drop off).take (ls ++ r').length = (zs.drop off).take ls.length ++ (zs.drop (off + ls.length)).take r'.length := fun zs => by
          rw [List.length_append, ← List.drop_drop, List.take_add]
        have lenOf : ∀ zs : List Value, okLeaves C.P (ls ++ r') ((zs.drop off).take (ls ++ r').length) = true → okLeaves C.P ls ((zs.drop off).take ls.length) = true ∧ okLeaves C.P r' ((zs.drop (off + ls.length)).take r'.length) = true := fun zs hz => by
          obtain ⟨h1, h2⟩ := okLeaves_append hz
          have hL := okLeaves_length hz
          rw [List.take_take, Nat.min_eq_left (by simp)] at h1
          have e7 : ((zs.drop off).take (ls ++ r').length).drop ls.length = (zs.drop (off + ls.length)).take r'.length := by
            rw [List.drop_take, List.drop_drop, List.length_append, Nat.add_sub_cancel_left]
          rw [e7] at h2
          exact ⟨h1, h2⟩
        obtain ⟨x1, x2⟩ := lenOf xs hx
        obtain ⟨y1, y2⟩ := lenOf ys hy
        obtain ⟨g, hg, hE⟩ := ih fd.type ls e3
        obtain ⟨a, b, ha, hb, hab, heq⟩ := hE _ _ x1 y1 m hm
        have rest := fieldsE_ok ih hm fds (off + ls.length) r' e6 x2 y2
        have pa : apart' C fd.type xs fd.offset = some a := by
          rw [e2]; subst e5; exact apart_is hg e4 (okLeaves_length x1) ha fun hgf => (hab hgf).1
        have pb : apart' C fd.type ys fd.offset = some b := by
          rw [e2]; subst e5; exact apart_is hg e4 (okLeaves_length y1) hb fun hgf => (hab hgf).2
        rw [spl xs, spl ys, leafsEq_split ls.length _ _ (by rw [List.length_append, List.length_append, okLeaves_length x1, okLeaves_length y1, okLeaves_length x2, okLeaves_length y2])]
        have tk : ∀ (p q : List Value), p.length = ls.length → (p ++ q).take ls.length = p ∧ (p ++ q).drop ls.length = q := fun p q hp => by
          rw [← hp]; exact ⟨List.take_left, List.drop_left⟩
        rw [(tk _ _ (okLeaves_length x1)).1, (tk _ _ (okLeaves_length x1)).2, (tk _ _ (okLeaves_length y1)).1, (tk _ _ (okLeaves_length y1)).2]
        unfold fieldsEq
        rw [if_pos e1]
        simp only [pa, pb, heq]
        cases leafsEq ((xs.drop off).take ls.length) ((ys.drop off).take ls.length) with
        | true => simp only [Bool.true_and]; exact rest
        | false => simp only [Bool.false_and]
      · cases h
    · cases h
theorem elemsE_ok {d m : Nat} (ih : EqOk C d) (hm : d ≤ m) {e : TypeId} {ls : List TypeId} (hle : leavesE C d e = some ls) (hsz : sizeAt C e = some ls.length) {xs ys : List Value} : ∀ (n i : Nat), okLeaves C.P (repLeaves ls n) ((xs.drop (i * ls.length)).take (repLeaves ls n).length) = true → okLeaves C.P (repLeaves ls n) ((ys.drop (i * ls.length)).take (repLeaves ls n).length) = true →
    elemsEq C (aequal C m) e ls.length xs ys n i = some (leafsEq ((xs.drop (i * ls.length)).take (repLeaves ls n).length) ((ys.drop (i * ls.length)).take (repLeaves ls n).length))
  | 0, i, _, _ => by simp [elemsEq, repLeaves, leafsEq]
  | n + 1, i, hx, hy => by
    rw [repLeaves] at hx hy ⊢
    have spl : ∀ zs : List Value, (zs.drop (i * ls.length)).take (ls ++ repLeaves ls n).length = (zs.drop (i * ls.length)).take ls.length ++ (zs.drop ((i + 1) * ls.length)).take (repLeaves ls n).length := fun zs => by
      rw [List.length_append, Nat.succ_mul, ← List.drop_drop, List.take_add]
    have lenOf : ∀ zs : List Value, okLeaves C.P (ls ++ repLeaves ls n) ((zs.drop (i * ls.length)).take (ls ++ repLeaves ls n).length) = true → okLeaves C.P ls ((zs.drop (i * ls.length)).take ls.length) = true ∧ okLeaves C.P (repLeaves ls n) ((zs.drop ((i + 1) * ls.length)).take (repLeaves ls n).length) = true := fun zs hz => by
      obtain ⟨h1, h2⟩ := okLeaves_append hz
      rw [List.take_take, Nat.min_eq_left (by simp)] at h1
      have e7 : ((zs.drop (i * ls.length)).take (ls ++ repLeaves ls n).length).drop ls.length = (zs.drop ((i + 1) * ls.length)).take (repLeaves ls n).length := by
        rw [List.drop_take, List.drop_drop, List.length_append, Nat.add_sub_cancel_left, Nat.succ_mul]
      rw [e7] at h2
      exact ⟨h1, h2⟩
    obtain ⟨x1, x2⟩ := lenOf xs hx
    obtain ⟨y1, y2⟩ := lenOf ys hy
    obtain ⟨g, hg, hE⟩ := ih e ls hle
    obtain ⟨a, b, ha, hb, hab, heq⟩ := hE _ _ x1 y1 m hm
    have rest := elemsE_ok ih hm hle hsz n (i + 1) x2 y2
    have pa : apart' C e xs (i * ls.length) = some a := apart_is hg hsz (okLeaves_length x1) ha fun hgf => (hab hgf).1
    have pb : apart' C e ys (i * ls.length) = some b := apart_is hg hsz (okLeaves_length y1) hb fun hgf => (hab hgf).2
    rw [spl xs, spl ys, leafsEq_split ls.length _ _ (by rw [List.length_append, List.length_append, okLeaves_length x1, okLeaves_length y1, okLeaves_length x2, okLeaves_length y2])]
    have tk : ∀ (p q : List Value), p.length = ls.length → (p ++ q).take ls.length = p ∧ (p ++ q).drop ls.length = q := fun p q hp => by
      rw [← hp]; exact ⟨List.take_left, List.drop_left⟩
    rw [(tk _ _ (okLeaves_length x1)).1, (tk _ _ (okLeaves_length x1)).2, (tk _ _ (okLeaves_length y1)).1, (tk _ _ (okLeaves_length y1)).2]
    unfold elemsEq
    simp only [pa, pb, heq]
    cases leafsEq ((xs.drop (i * ls.length)).take ls.length) ((ys.drop (i * ls.length)).take ls.length) with
    | true => simp only [Bool.true_and]; exact rest
    | false => simp only [Bool.false_and]
theorem eqOk : ∀ d, EqOk C d
  | 0 => fun t ls h => by cases h
  | d + 1 => fun t ls h => by
    have ih := eqOk d
    unfold leavesE at h
    split at h
    · rename_i fs hu
      split at h
      · cases h
      · rename_i hh
        refine ⟨true, by simp [aggAt, hu], fun xs ys hx hy m hm => ⟨.agg xs.toArray, .agg ys.toArray, rfl, rfl, (fun h => by cases h), ?_⟩⟩
        obtain ⟨m, rfl⟩ : ∃ q, m = q + 1 := ⟨m - 1, by omega⟩
        have e : ∀ zs : List Value, okLeaves C.P ls zs = true → (zs.drop 0).take ls.length = zs := fun zs hz => by rw [List.drop_zero, ← okLeaves_length hz, List.take_length]
        have := fieldsE_ok (xs := xs) (ys := ys) ih (show d ≤ m by omega) fs.toList 0 ls h (by rw [e xs hx]; exact hx) (by rw [e ys hy]; exact hy)
        rw [e xs hx, e ys hy] at this
        unfold aequal
        simp only [hu, hh]
        exact this
    · rename_i n el hu
      split at h
      · rename_i ls' k h1 h2
        split at h
        · rename_i h3
          have h3 := Nat.eq_of_beq_eq_true h3
          subst h3
          cases h
          refine ⟨true, by simp [aggAt, hu], fun xs ys hx hy m hm => ⟨.agg xs.toArray, .agg ys.toArray, rfl, rfl, (fun h => by cases h), ?_⟩⟩
          obtain ⟨m, rfl⟩ : ∃ q, m = q + 1 := ⟨m - 1, by omega⟩
          have e : ∀ zs : List Value, okLeaves C.P (repLeaves ls' n) zs = true → (zs.drop (0 * ls'.length)).take (repLeaves ls' n).length = zs := fun zs hz => by rw [Nat.zero_mul, List.drop_zero, ← okLeaves_length hz, List.take_length]
          have := elemsE_ok (xs := xs) (ys := ys) ih (show d ≤ m by omega) h1 h2 n 0 (by rw [e xs hx]; exact hx) (by rw [e ys hy]; exact hy)
          rw [e xs hx, e ys hy] at this
          unfold aequal
          simp only [hu, h2]
          exact this
        · cases h
      · cases h
    all_goals first
      | cases h
      | (rename_i hu
         split at h
         · cases h
           refine ⟨false, by simp [aggAt, hu], fun xs ys hx hy m hm => ?_⟩
           obtain ⟨m, rfl⟩ : ∃ q, m = q + 1 := ⟨m - 1, by omega⟩
           obtain ⟨x, rfl⟩ : ∃ x, xs = [x] := List.length_eq_one_iff.1 (okLeaves_length hx)
           obtain ⟨y, rfl⟩ : ∃ y, ys = [y] := List.length_eq_one_iff.1 (okLeaves_length hy)
           simp only [okLeaves, Bool.and_true] at hx hy
           refine ⟨x, y, rfl, rfl, fun _ => ⟨rfl, rfl⟩, ?_⟩
           rw [aequal_leaf hx hy]
           simp [leafsEq]
         · cases h)
/-- Equality of structs or arrays of numbers. -/
theorem p_eqlA {xs ys : List Value} {ls : List TypeId} (h : evalL l x = some (.agg ⟨xs⟩)) (h2 : evalL l y = some (.agg ⟨ys⟩)) (hl : leavesE C 20 t = some ls) (hg : aggAt C t = some true) (hi : C.P.eqGuardType C.P.depth t = false) (hx : okLeaves C.P ls xs = true) (hy : okLeaves C.P ls ys = true) :
    PureT C (.binOp .eql t x y yt) l (.bool (leafsEq xs ys)) := by
  obtain ⟨g, hg', hE⟩ := eqOk 20 t ls hl
  rw [hg] at hg'
  cases hg'
  obtain ⟨a, b, ha, hb, _, he⟩ := hE xs ys hx hy Op.maxDepth (by decide)
  cases ha
  cases hb
  unfold PureT
  refine ⟨cov2 h h2, ?_⟩
  simp only [aP, rhoL_eq h, rhoL_eq h2, abin, eqIdle, hi, Bool.not_false]
  rw [show (aequal C Op.maxDepth t (.agg ⟨xs⟩) (.agg ⟨ys⟩)) = some (leafsEq xs ys) from he]
  rfl
theorem p_neqA {xs ys : List Value} {ls : List TypeId} (h : evalL l x = some (.agg ⟨xs⟩)) (h2 : evalL l y = some (.agg ⟨ys⟩)) (hl : leavesE C 20 t = some ls) (hg : aggAt C t = some true) (hi : C.P.eqGuardType C.P.depth t = false) (hx : okLeaves C.P ls xs = true) (hy : okLeaves C.P ls ys = true) :
    PureT C (.binOp .neq t x y yt) l (.bool !(leafsEq xs ys)) := by
  obtain ⟨g, hg', hE⟩ := eqOk 20 t ls hl
  rw [hg] at hg'
  cases hg'
  obtain ⟨a, b, ha, hb, _, he⟩ := hE xs ys hx hy Op.maxDepth (by decide)
  cases ha
  cases hb
  unfold PureT
  refine ⟨cov2 h h2, ?_⟩
  simp only [aP, rhoL_eq h, rhoL_eq h2, abin, eqIdle, hi, Bool.not_false]
  rw [show (aequal C Op.maxDepth t (.agg ⟨xs⟩) (.agg ⟨ys⟩)) = some (leafsEq xs ys) from he]
  rfl
theorem leafEq_self {P : Program} {u : TypeId} {v : Value} (h : okLeaf P u v = true) : leafEq v v = true := by
  rcases okLeaf_inv h with ⟨_, _, _, rfl⟩ | ⟨_, _, rfl⟩ | ⟨s, _, rfl⟩
  · simp [leafEq]
  · simp [leafEq]
  · obtain ⟨d⟩ := s
    show (d == d) = true
    simp
theorem leafsEq_self {P : Program} : ∀ {ls : List TypeId} {xs : List Value}, okLeaves P ls xs = true → leafsEq xs xs = true
  | [], [], _ => rfl
  | [], _ :: _, h => by cases h
  | _ :: _, [], h => by cases h
  | u :: us, v :: vs, h => by
    simp only [okLeaves, Bool.and_eq_true] at h
    simp [leafsEq, leafEq_self h.1, leafsEq_self h.2]
def EqT (C : Ctx) (t : TypeId) (ls : List TypeId) : Prop := leavesE C 20 t = some ls ∧ aggAt C t = some true ∧ C.P.eqGuardType C.P.depth t = false
theorem p_eqlT {xs ys : List Value} {ls : List TypeId} (h : evalL l x = some (.agg ⟨xs⟩)) (h2 : evalL l y = some (.agg ⟨ys⟩)) (he : EqT C t ls) (hx : okLeaves C.P ls xs = true) (hy : okLeaves C.P ls ys = true) :
    PureT C (.binOp .eql t x y yt) l (.bool (leafsEq xs ys)) := p_eqlA h h2 he.1 he.2.1 he.2.2 hx hy
theorem p_neqT {xs ys : List Value} {ls : List TypeId} (h : evalL l x = some (.agg ⟨xs⟩)) (h2 : evalL l y = some (.agg ⟨ys⟩)) (he : EqT C t ls) (hx : okLeaves C.P ls xs = true) (hy : okLeaves C.P ls ys = true) :
    PureT C (.binOp .neq t x y yt) l (.bool !(leafsEq xs ys)) := p_neqA h h2 he.1 he.2.1 he.2.2 hx hy
theorem p_eqlB {p q : Bool} (h : evalL l x = some (.bool p)) (h2 : evalL l y = some (.bool q)) (ht : C.P.underlying t = some .bool) : PureT C (.binOp .eql t x y yt) l (.bool (p == q)) := by
  unfold PureT
  refine ⟨cov2 h h2, ?_⟩
  have e : aequal C Op.maxDepth t (.bool p) (.bool q) = some (p == q) := by
    have := aequal_leaf (C := C) (d := 9999) (u := t) (a := .bool p) (b := .bool q) (by simp [okLeaf, ht]) (by simp [okLeaf, ht])
    exact this
  simp only [aP, rhoL_eq h, rhoL_eq h2, abin, eqIdle, e, Option.map_some]
theorem p_neqB {p q : Bool} (h : evalL l x = some (.bool p)) (h2 : evalL l y = some (.bool q)) (ht : C.P.underlying t = some .bool) : PureT C (.binOp .neq t x y yt) l (.bool !(p == q)) := by
  unfold PureT
  refine ⟨cov2 h h2, ?_⟩
  have e : aequal C Op.maxDepth t (.bool p) (.bool q) = some (p == q) := by
    have := aequal_leaf (C := C) (d := 9999) (u := t) (a := .bool p) (b := .bool q) (by simp [okLeaf, ht]) (by simp [okLeaf, ht])
    exact this
  simp only [aP, rhoL_eq h, rhoL_eq h2, abin, eqIdle, e, Option.map_some]
/-! ### A slice that is appended to, one element a time -/
def appV {α : Type} (k : Nat) (L : List α) (b : Nat) : Value := match L with
  | [] => .slice none 0 0
  | L => .slice (some ⟨b, 0, none⟩) L.length (EL + k)
def appH {α : Type} (en : α → List Value) (k : Nat) (L : List α) (b : Nat) (H : Hp) : Hp := match L with
  | [] => H
  | L => (b, .row (L.flatMap en) k true) :: H
theorem appV_snoc {α : Type} (k : Nat) (L : List α) (q : α) (b : Nat) : appV k (L ++ [q]) b = .slice (some ⟨b, 0, none⟩) (L.length + 1) (EL + k) := by
  cases L <;> simp [appV]
theorem appH_snoc {α : Type} (en : α → List Value) (k : Nat) (L : List α) (q : α) (b : Nat) (H : Hp) : appH en k (L ++ [q]) b H = (b, .row ((L ++ [q]).flatMap en) k true) :: H := by
  cases L <;> simp [appH]
theorem flat_length {α : Type} {en : α → List Value} {k : Nat} (hl : ∀ x, (en x).length = k) : ∀ L : List α, (L.flatMap en).length = L.length * k
  | [] => by simp
  | a :: L => by rw [List.flatMap_cons, List.length_append, flat_length hl L, hl, List.length_cons, Nat.succ_mul]; omega
theorem st_app1 {α : Type} {en : α → List Value} {st : TypeId} {k by' b bs es : Nat} {el : Bool} {L : List α} {q : α} {cs : List Value} {H0 : Hp} (hl : ∀ x, (en x).length = k) (hone : (en q).all Value.oneCell' = true) (hx : evalL l x = some (appV k L b)) (hy : evalL l y = some (.slice (some ⟨bs, 0, none⟩) 1 1)) (ht : appT C st st = some (k, by'))
    (hc : cut cs 0 (1 * k) = some (en q)) (hb : (2 * (L.length + 1) + 192) * (by' + 1) ≤ 281474976710656) (hk : ∀ b', Θ (appV k (L ++ [q]) b') ((b', .row ((L ++ [q]).flatMap en) k true) :: (bs, .row cs es el) :: H0)) :
    StepT C hd (.call { callee := .builtin .append, args := #[x, y], argTypes := #[st, st] }) l ((bs, .row cs es el) :: appH en k L b H0) Θ := by
  cases L with
  | nil =>
    refine st_appNil (xs := en q) hx hy ht (.slice bs 0 1 1 cs (en q) (.own es el hm0) hc) (by decide) hone hb fun b' => ?_
    have := hk b'
    rw [appV_snoc] at this
    simpa [appH] using this
  | cons a L =>
    refine st_appEl (xs := en q) (cs := (a :: L).flatMap en) hx hy ht (.slice bs 0 1 1 cs (en q) (.own es el hm0) hc) (by decide) hone (de1 (b := b) (o := .row ((a :: L).flatMap en) k true)) (flat_length hl _) hb fun b' => ?_
    have := hk b'
    rw [appV_snoc] at this
    rw [List.flatMap_append] at this
    simpa using this
theorem appV_len {α : Type} (k : Nat) (L : List α) (b : Nat) : ∃ ad c, appV k L b = .slice ad L.length c := by
  cases L with
  | nil => exact ⟨none, 0, rfl⟩
  | cons a L => exact ⟨_, _, rfl⟩
theorem appV_arr {α : Type} {en : α → List Value} {k : Nat} (hl : ∀ x, (en x).length = k) (L : List α) (b : Nat) : ∃ ad c, appV k L b = .slice ad L.length c ∧ ∀ H, Arr C (appH en k L b H) ad k en L := by
  cases L with
  | nil => exact ⟨none, 0, rfl, fun H => ⟨fun i r h => by simp at h⟩⟩
  | cons a L => exact ⟨some ⟨b, 0, none⟩, EL + k, rfl, fun H => arr_flat hl (a :: L) (es := k) (el := true) hm0⟩
theorem appH_sub {α : Type} (en : α → List Value) (k : Nat) (L : List α) (b : Nat) (H : Hp) : H.Sublist (appH en k L b H) := by
  cases L with
  | nil => exact List.Sublist.refl _
  | cons a L => exact List.Sublist.cons _ (List.Sublist.refl _)
/-- All elements of a slice, in one row. -/
structure ArrW {α : Type} (C : Ctx) (H : Hp) (ad : Option Addr) (w : Nat) (enc : α → List Value) (L : List α) : Prop where
  els : L ≠ [] → ∃ b o cs, ad = some ⟨b, o, none⟩ ∧ RowIs C H b cs ∧ cut cs o (L.length * w) = some (L.flatMap enc)
theorem ArrW.nil {α : Type} {ad : Option Addr} {w : Nat} {enc : α → List Value} : ArrW C H ad w enc [] := ⟨fun h => absurd rfl h⟩
theorem ArrW.weak {α : Type} {ad : Option Addr} {w : Nat} {enc : α → List Value} {L : List α} (h : ArrW C H ad w enc L) (hs : H.Sublist H') : ArrW C H' ad w enc L :=
  ⟨fun hn => let ⟨b, o, cs, h1, h2, h3⟩ := h.els hn; ⟨b, o, cs, h1, h2.weak hs, h3⟩⟩
theorem arrW_flat {α : Type} {enc : α → List Value} {w : Nat} (hl : ∀ x, (enc x).length = w) (L : List α) {b es : Nat} {el : Bool} (hm : (b, .row (L.flatMap enc) es el) ∈ H) : ArrW C H (some ⟨b, 0, none⟩) w enc L :=
  ⟨fun _ => ⟨b, 0, _, rfl, .own _ _ hm, cut_of (flat_length hl L) fun j _ => by rw [Nat.zero_add]⟩⟩
end
end Go.Proofs.Ythcohphflhkceaa.Abs
