/- Maps from numbers whose entries come and go; parts of slices that are written; appends in place. -/
import Derived.Test.YthcohphflhkceaaSep7
namespace Go.Proofs.Ythcohphflhkceaa.Abs
open Go
set_option linter.unusedVariables false
section
variable {C : Ctx} {hd : HH Prop} {nt : Nat} {ops : Array Oper} {o : Oper} {os : List Oper} {l l' : Sl} {H H' H0 pre Hs : Hp} {v : Value} {x y z : Operand} {t yt st xt : TypeId}
variable {Ψ : Sl → Hp → Prop} {Θ : Value → Hp → Prop} {op : Op} {α : Type} {en : α → List Value} {k : Nat} {L M : List α}
theorem StepT.permPost {Θ' : Value → Hp → Prop} (h : StepT C hd op l H Θ') (hm : ∀ v H', Θ' v H' → ∃ H2, H2.Perm H' ∧ Θ v H2) : StepT C hd op l H Θ := by
  unfold StepT at *
  exact ⟨h.1, fun s k h1 h2 => h.2 s k h1 fun v H' s' h3 h4 => by
    obtain ⟨H2, h5, h6⟩ := hm v H' h3
    exact h2 v H2 s' h6 (h4.perm h5)⟩
/-- Appending a slice's elements, in place. -/
theorem st_appP {by' c : Nat} {ad : Option Addr} (h : Own en k L v Hs) (hl : ∀ x, (en x).length = k) (hone : ∀ q, (en q).all Value.oneCell' = true)
    (hx : evalL l x = some v) (hy : evalL l y = some (.slice ad M.length c)) (ht : appT C st xt = some (k, by')) (ha : ArrW C (pre ++ (Hs ++ H0)) ad k en M)
    (hb : (2 * (L.length + M.length) + 192) * (by' + 1) ≤ 281474976710656) (hk : ∀ v' Hs', Own en k (L ++ M) v' Hs' → Θ v' (pre ++ (Hs' ++ H0))) :
    StepT C hd (.call { callee := .builtin .append, args := #[x, y], argTypes := #[st, xt] }) l (pre ++ (Hs ++ H0)) Θ :=
  StepT.permPost (Θ' := fun v' H' => ∃ Hs', H' = Hs' ++ (pre ++ H0) ∧ Θ v' (pre ++ (Hs' ++ H0))) (st_appO h hl hone hx hy ht ha hb fun v' Hs' ho => ⟨Hs', rfl, hk v' Hs' ho⟩)
    fun v' H' ⟨Hs', e, h⟩ => ⟨_, by rw [e]; exact mid_perm, h⟩
/-- One element, from a slice literal. -/
theorem arrW_one {b : Nat} {a : α} {es : Nat} {el : Bool} (hl : ∀ x, (en x).length = k) (hm : (b, .row (en a) es el) ∈ H) : ArrW C H (some ⟨b, 0, none⟩) k en [a] :=
  arrW_flat hl [a] (es := es) (el := el) (by simpa using hm)
/-- A part that is written. -/
theorem Own.cutW (h : Own en k L v Hs) (e : TypeId) {lo hi : Option Value} {m q : Nat} (hu : C.P.underlying t = some (.slice e)) (hn : sizeAt C e = some k) (h1 : m < q) (h2 : q ≤ L.length) (h5 : lo.bind natOf = some m ∨ lo = none ∧ m = 0) (h6 : hi.bind natOf = some q ∨ hi = none ∧ q = L.length) :
    ∃ b es el junk, Hs = [(b, .row (L.flatMap en ++ junk) es el)] ∧ (∃ c, aslice C t v lo hi none = some (.slice (some ⟨b, 0 + m * k, none⟩) (q - m) c)) ∧ ∀ L' : List α, L'.length = L.length → Own en k L' v [(b, .row (L'.flatMap en ++ junk) es el)] := by
  cases h with
  | nil => simp at h2; omega
  | emp b o => simp at h2; omega
  | el _ b es junk =>
    refine ⟨b, es, true, junk, rfl, ?_, fun L' hL' => by rw [← hL']; exact .el L' b es junk⟩
    refine ⟨EL + k, ?_⟩
    simp only [aslice, hu, hn]
    rw [if_pos (Nat.le_add_right _ _), if_pos trivial, bnds_is (Nat.le_of_lt h1) h2 h5 h6]
    by_cases c1 : m = 0
    · subst c1; simp [cutSlice]
    · simp [cutSlice, c1, Nat.ne_of_lt h1]
  | fix _ b es hL =>
    refine ⟨b, es, false, [], by rw [List.append_nil], ?_, fun L' hL' => by rw [List.append_nil, ← hL']; exact .fix L' b es (by rw [hL']; exact hL)⟩
    refine ⟨L.length - m, ?_⟩
    simp only [aslice, hu, hn]
    rw [if_neg (Nat.not_le.2 hL), bnds_is (Nat.le_of_lt h1) h2 h5 h6]
    simp only [Option.bind_some, cutSlice]
    rw [if_pos (by omega), if_neg (by omega)]

theorem p_neMS {b : Nat} {kt et : TypeId} (h : evalL l x = some (.map (some b))) (h2 : evalL l y = some (.map none)) (hu : C.P.underlying t = some (.map kt et)) : PureT C (.binOp .neq t x y yt) l (.bool true) := by
  unfold PureT
  refine ⟨cov2 h h2, ?_⟩
  have e : aequal C Op.maxDepth t (.map (some b)) (.map none) = some false := by show aequal C (9999 + 1) _ _ _ = _; simp only [aequal, hu]
  simp only [aP, rhoL_eq h, rhoL_eq h2, abin, eqIdle, e, Option.map_some, Bool.not_false]
theorem p_eqMS {b : Nat} {kt et : TypeId} (h : evalL l x = some (.map (some b))) (h2 : evalL l y = some (.map none)) (hu : C.P.underlying t = some (.map kt et)) : PureT C (.binOp .eql t x y yt) l (.bool false) := by
  unfold PureT
  refine ⟨cov2 h h2, ?_⟩
  have e : aequal C Op.maxDepth t (.map (some b)) (.map none) = some false := by show aequal C (9999 + 1) _ _ _ = _; simp only [aequal, hu]
  simp only [aP, rhoL_eq h, rhoL_eq h2, abin, eqIdle, e, Option.map_some]
theorem pl_st' {E masks rest : List Nat} {rs : List RdE} {i m b off : Nat} {a : Operand} (hL : LateT C nt ops E masks (i :: rest) l) (ho : ops.toList[i]? = some o) (hm : masks[i]? = some m) (hw : wantedL ops o l = some true) (hfl : isFloat o.op = false) (hd' : o.dst = none)
    (hop : o.op = .store t a x) (ha : evalL l a = some (.pointer (some ⟨b, off, none⟩))) (hx : evalL l x = some v) (hp : StP C t b off v H H') (hr : RecT C m H' rs) (h : PlanT C hd nt ops E masks rest rs l H' Ψ) : PlanT C hd nt ops E masks (i :: rest) rs l H Ψ := by
  obtain ⟨cs, es, el, cs', n, h1, h2, h3, h4⟩ := hp.swap
  exact pl_S0' hL ho hm hw hfl hd' (by rw [hop]; exact st_store ha hx h1 h2 h3 h4 ⟨hr, h⟩)
theorem pl_st {masks rest : List Nat} {rs : List RdE} {i m b off : Nat} {a : Operand} (ho : ops.toList[i]? = some o) (hm : masks[i]? = some m) (hw : wantedL ops o l = some true) (hfl : isFloat o.op = false) (hd' : o.dst = none)
    (hop : o.op = .store t a x) (ha : evalL l a = some (.pointer (some ⟨b, off, none⟩))) (hx : evalL l x = some v) (hp : StP C t b off v H H') (hr : RecT C m H' rs) (h : PlanT C hd nt ops [] masks rest rs l H' Ψ) : PlanT C hd nt ops [] masks (i :: rest) rs l H Ψ :=
  pl_st' late_nil ho hm hw hfl hd' hop ha hx hp hr h
/-- What may run ahead is made: a slice, a variable. -/
theorem made_slice {x e n len : Nat} {ps : Array (Nat × Operand)} {zc r : List Value} {pv : List (Nat × Value)} (hx : ops.toList[x]? = some o) (hop : o.op = .buildSlice t len ps) (hu : C.P.underlying t = some (.slice e)) (hz : zeroL C e = some (zc, n)) (hp : partsL l ps.toList = some pv) (ho : partsOk pv = true)
    (hb : Nat.ble (len * n) 16777216 = true) (h0 : Nat.blt 0 n = true) (hlen : Nat.beq pv.length len = true) (hf : catL n pv 0 = some r) : Made C ops l x := by
  obtain ⟨h1, h2⟩ := partsL_eq hp
  have hlen := Nat.eq_of_beq_eq_true hlen
  unfold zeroL at hz
  split at hz
  · rename_i z m' hz1 hz2
    split at hz
    · rename_i hz3
      cases hz
      have hzl : z.toList.length = n := Nat.eq_of_beq_eq_true hz3
      have hf2 := fill_cat (p := []) (q := (List.replicate len z.toList).flatten) (i := 0) (by simp) (by simp [hlen, hzl]) hf
      simp only [List.nil_append] at hf2
      refine ⟨o, .row r n false, fun b => .slice (some ⟨b, 0, none⟩) len len, hx, by rw [hop]; simpa [Op.operands] using h2, ?_⟩
      rw [hop]
      simp only [aA, h1, abuildSlice, hu, hz1, hz2, hb, h0, hz3, ho]
      rw [show (List.replicate len z.toList).flatten.toArray = ⟨(List.replicate len z.toList).flatten⟩ from rfl, fill_is hf2]
    · cases hz
  · cases hz
theorem made_alloc {x n : Nat} {cs : List Value} (hx : ops.toList[x]? = some o) (hop : o.op = .alloc t) (hz : zeroL C t = some (cs, n)) : Made C ops l x := by
  unfold zeroL at hz
  split at hz
  · rename_i z m h1 h2
    split at hz
    · rename_i h3
      cases hz
      exact ⟨o, .row z.toList n false, fun b => .pointer (some ⟨b, 0, none⟩), hx, by rw [hop]; rfl, by rw [hop]; simp only [aA, h1, h2, h3]⟩
    · cases hz
  · cases hz
theorem late_has {E masks r : List Nat} (x : Nat) (hE : E = [x]) (h : Made C ops l x) : LateT C nt ops E masks r l := by
  subst hE
  exact late_all fun y hy => .inr (by rw [List.mem_singleton.1 hy]; exact h)
theorem late_no {E masks r : List Nat} (h : (E.all fun x => lateNo masks E r x) = true) : LateT C nt ops E masks r l := late_all fun x hx => .inl (List.all_eq_true.1 h x hx)
/-- Ways of a region that draws meet again behind it. -/
theorem pl_mid {E masks plan : List Nat} {rs : List RdE} {rd : Bool} {b : Code} {Φ : AX → Sl → Hp → Prop} (l1 : Sl) (H1 : Hp) (h : PlanT C hd nt ops E masks plan rs l H (fun l' H' => SubL l1 l' ∧ H1.Sublist H')) (h2 : CodeT C hd rd nt b l1 H1 Φ) :
    PlanT C hd nt ops E masks plan rs l H (seqΦ (fun l' H' => CodeT C hd rd nt b l' H' Φ) Φ .normal) := by
  unfold PlanT at *
  refine fun fr s k ns h3 h4 h5 h6 => h fr s k ns h3 h4 h5 fun l' H' fr' s' h7 => h6 l' H' fr' s' ?_
  unfold seqΦ
  exact h2.weak h7.1 h7.2
/-- A part of an array. -/
theorem aslice_arr {b o m q len : Nat} {e : TypeId} {lo hi : Option Value} (hu : C.P.underlying t = some (.array len e)) (hn : sizeAt C e = some k) (hE : len < EL) (h1 : m ≤ q) (h2 : q ≤ len) (h5 : lo.bind natOf = some m ∨ lo = none ∧ m = 0) (h6 : hi.bind natOf = some q ∨ hi = none ∧ q = len) :
    aslice C t (.pointer (some ⟨b, o, none⟩)) lo hi none = some (.slice (some ⟨b, if len = m then o else o + m * k, none⟩) (q - m) (len - m)) := by
  simp only [aslice, hu, hn]
  rw [bnds_is h1 h2 h5 h6]
  simp only [Option.bind_some, cutSlice]
  rw [if_pos (by omega)]
theorem p_nePN {u : TypeId} (h : evalL l x = some (.pointer none)) (h2 : evalL l y = some (.pointer none)) (hu : C.P.underlying t = some (.pointer u)) : PureT C (.binOp .neq t x y yt) l (.bool false) := by
  unfold PureT
  refine ⟨cov2 h h2, ?_⟩
  have e : aequal C Op.maxDepth t (.pointer none) (.pointer none) = some true := by show aequal C (9999 + 1) _ _ _ = _; simp only [aequal, hu, Option.isNone]
  simp only [aP, rhoL_eq h, rhoL_eq h2, abin, eqIdle, e, Option.map_some, Bool.not_true]
/-- A whole element is read. -/
theorem Arr.agg {w : Nat} {ad : Option Addr} {i : Nat} {a : α} (h : Arr C H ad w en L) (hi : L[i]? = some a) : ∃ b o, ad = some ⟨b, o, none⟩ ∧ ∀ (t : TypeId) (H' : Hp) (l : Sl) (y : Operand), H.Sublist H' → aggAt C t = some true → sizeAt C t = some w →
    evalL l y = some (.pointer (some ⟨b, o + i * w, none⟩)) → ReadT C (.load t y) l H' (.agg ⟨en a⟩) := by
  obtain ⟨b, o, cs, h1, h2, h3⟩ := h.els i a hi
  exact ⟨b, o, h1, fun t H' l y hs hg hn hy => rd_loadP hy (h2.weak hs) hg hn h3⟩
/-! ### Maps from numbers -/
def mkG (kk : IntKind) (f : α → Value) (ms : List (Int × α × Nat)) : List MEnt := ms.map fun p => { key := .int kk p.1, val := f p.2.1, born := p.2.2 }
def fG : List (Int × α × Nat) → Int → Option (Nat × α)
  | [], _ => none
  | (a, m, _) :: r, k => if k = a then some (0, m) else (fG r k).map fun p => (p.1 + 1, p.2)
theorem fG_none {ms : List (Int × α × Nat)} {k : Int} : fG ms k = none ↔ ∀ p ∈ ms, p.1 ≠ k := by
  induction ms with
  | nil => simp [fG]
  | cons p ms ih =>
    obtain ⟨a, m, n⟩ := p
    unfold fG
    by_cases e : k = a
    · subst e; simp
    · rw [if_neg e]
      simp only [Option.map_eq_none_iff, ih, List.mem_cons, forall_eq_or_imp]
      exact ⟨fun h => ⟨fun h2 => e h2.symm, h⟩, fun h => h.2⟩
theorem afind_G {kk : IntKind} {f : α → Value} {kt : TypeId} (hk : C.P.underlying kt = some (.int kk)) (k : Int) : ∀ (ms : List (Int × α × Nat)) (i : Nat), afind C kt (.int kk k) (mkG kk f ms) i = some ((fG ms k).map fun p => (i + p.1, f p.2))
  | [], i => rfl
  | (a, m, n) :: ms, i => by
    have e : aequal C Op.maxDepth kt (.int kk k) (.int kk a) = some (k == a) := aequal_int (d := 9999) hk k a
    have ih := afind_G (f := f) hk k ms (i + 1)
    unfold mkG at ih ⊢
    simp only [List.map_cons, afind, e]
    by_cases hka : k = a
    · subst hka; simp [fG]
    · rw [show (k == a) = false by simpa using hka]
      simp only [ih, fG, if_neg hka]
      cases fG ms k with
      | none => rfl
      | some p => simp only [Option.map_some]; congr 3; omega
theorem lookE_G {kk : IntKind} {f : α → Value} {zv : Value} (ht : NumMap C t kk zv) (ms : List (Int × α × Nat)) (k : Int) (ok : Bool) :
    lookE C t (mkG kk f ms) (.int kk k) ok = some (match fG ms k with | some p => if ok then .tuple #[f p.2, .bool true] else f p.2 | none => if ok then .tuple #[zv, .bool false] else zv) := by
  obtain ⟨kt, et, i, h1, h2, h3, h4, h5⟩ := ht.und
  have e1 : akeyOk C 10000 kt (.int kk k) = true := by simp [akeyOk, h2]
  unfold lookE
  simp only [h1, e1, scal, scalCell, Bool.and_true, h3, h4, h5, afind_G h2]
  cases hq : fG ms k with
  | none => rfl
  | some m => rfl
theorem updE_G {kk : IntKind} {f : α → Value} {zv : Value} (ht : NumMap C t kk zv) (ms : List (Int × α × Nat)) (c : Nat) (k : Int) (m : α) (hq : fG ms k = none) :
    updE C t (mkG kk f ms) c (.int kk k) (f m) = some (mkG kk f (ms ++ [(k, m, c)]), c + 1) := by
  obtain ⟨kt, et, i, h1, h2, h3, h4, h5⟩ := ht.und
  have e1 : akeyOk C 10000 kt (.int kk k) = true := by simp [akeyOk, h2]
  unfold updE
  simp only [h1, e1, scal, scalCell, Bool.and_true, afind_G h2, hq, Option.map_none]
  simp [mkG]
theorem eraseIdx_mapp {β γ : Type} (f : β → γ) : ∀ (l : List β) (i : Nat), (l.map f).eraseIdx i = (l.eraseIdx i).map f
  | [], i => rfl
  | a :: l, 0 => rfl
  | a :: l, i + 1 => by simp [eraseIdx_mapp f l i]
/-- The entries after a deletion. -/
def delE (C : Ctx) (t : TypeId) (es : List MEnt) (k : Value) : Option (List MEnt) := match C.P.underlying t with
  | some (.map kt _) => match akeyOk C 10000 kt k && scal k with
    | false => none
    | true => match afind C kt k es 0 with
      | none => none
      | some (some (i, _)) => some (es.eraseIdx i)
      | some none => some es
  | _ => none
theorem delE_G {kk : IntKind} {f : α → Value} {zv : Value} (ht : NumMap C t kk zv) (ms : List (Int × α × Nat)) (k : Int) :
    delE C t (mkG kk f ms) (.int kk k) = some (mkG kk f (match fG ms k with | some p => ms.eraseIdx p.1 | none => ms)) := by
  obtain ⟨kt, et, i, h1, h2, h3, h4, h5⟩ := ht.und
  have e1 : akeyOk C 10000 kt (.int kk k) = true := by simp [akeyOk, h2]
  unfold delE
  simp only [h1, e1, scal, scalCell, Bool.and_true, afind_G h2]
  cases hq : fG ms k with
  | none => rfl
  | some p => simp only [mkG, eraseIdx_mapp, Option.map_some, Nat.zero_add]
theorem st_delete {b c : Nat} {es es' : List MEnt} {kv : Value} (h1 : evalL l x = some (.map (some b))) (h2 : evalL l y = some kv) (hu : delE C t es kv = some es') (hsw : Swap H b (.map es c) (.map es' c) H') (h : Θ (.tuple #[]) H') :
    StepT C hd (.call { callee := .builtin .delete, args := #[x, y], argTypes := #[t, yt] }) l H Θ :=
  st_W (cov2 h1 h2) rfl (fun _ => rfl) rfl fun s hm => by
    refine ⟨.tuple #[], H', s.setObj b (.map es' c), ?_, hm.swap hsw, h⟩
    show (adelete C s t (rhoL l x) (rhoL l y)).map _ = _
    rw [rhoL_eq h1, rhoL_eq h2]
    have hmo := mapOf_is hm hsw.mem
    unfold delE at hu
    unfold adelete
    split at hu
    · rename_i kt et he
      simp only [he]
      split at hu
      · cases hu
      · rename_i e1
        simp only [e1, hmo]
        split at hu
        · cases hu
        · rename_i i w e2
          simp only [e2]
          cases hu; rfl
        · rename_i e2
          simp only [e2]
          cases hu; rfl
    · cases hu
end
end Go.Proofs.Ythcohphflhkceaa.Abs
