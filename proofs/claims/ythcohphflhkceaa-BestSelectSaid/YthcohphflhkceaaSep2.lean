/- Symbolic runs: maps from numbers to values; stores into maps. -/
import Derived.Test.YthcohphflhkceaaSep1
namespace Go.Proofs.Ythcohphflhkceaa.Abs
open Go
set_option linter.unusedVariables false

section
variable {C : Ctx} {hd : HH Prop} {nt : Nat} {ops : Array Oper} {o : Oper} {os : List Oper} {l l' : Sl} {H H' : Hp} {v : Value} {x y z : Operand} {t yt : TypeId}
variable {Ψ : Sl → Hp → Prop} {Θ : Value → Hp → Prop} {op : Op}

theorem beq_of {a b : Nat} (h : a = b) : Nat.beq a b = true := by subst h; exact Nat.beq_refl a

/-! ### Structs and arrays out of parts -/
def setsL : List Value → Nat → List Value → List Value
  | cs, _, [] => cs
  | cs, off, v :: vs => setsL (cs.set off v) (off + 1) vs
theorem setsL_length : ∀ (vs cs : List Value) (off : Nat), (setsL cs off vs).length = cs.length
  | [], cs, off => rfl
  | v :: vs, cs, off => by rw [setsL, setsL_length vs]; simp
theorem setsL_fold : ∀ (vs : List Value) (off k : Nat) (cs : List Value),
    (vs.zipIdx k).foldl (fun (a : Array Value) p => a.setIfInBounds (off + p.2) p.1) ⟨cs⟩ = ⟨setsL cs (off + k) vs⟩
  | [], off, k, cs => rfl
  | v :: vs, off, k, cs => by
    rw [List.zipIdx_cons, List.foldl_cons, setsL]
    have e : (Array.setIfInBounds (⟨cs⟩ : Array Value) (off + k) v) = ⟨cs.set (off + k) v⟩ := by
      apply Array.ext'
      simp
    simp only [e]
    rw [setsL_fold vs off (k + 1), Nat.add_assoc]
def fillL (place : Nat → Option (Nat × Nat)) : List Value → List (Nat × Value) → Option (List Value)
  | cs, [] => some cs
  | cs, (i, v) :: rest => match place i with
    | none => none
    | some (off, size) => match Nat.beq v.cells.toList.length size, Nat.ble (off + v.cells.toList.length) cs.length with
      | true, true => fillL place (setsL cs off v.cells.toList) rest
      | _, _ => none
theorem fill_is {place : Nat → Option (Nat × Nat)} : ∀ {ps : List (Nat × Value)} {cs r : List Value}, fillL place cs ps = some r → Instr.fill place ⟨cs⟩ ps = some ⟨r⟩
  | [], cs, r, h => by cases h; rfl
  | (i, v) :: rest, cs, r, h => by
    unfold fillL at h
    unfold Instr.fill
    split at h
    · cases h
    · rename_i off size hp
      simp only [hp]
      split at h
      · rename_i h1 h2
        have h1 := Nat.eq_of_beq_eq_true h1
        have h2 := Nat.le_of_ble_eq_true h2
        have e1 : v.cells.size = size := h1
        have e2 : off + v.cells.size ≤ cs.length := h2
        rw [if_neg (by simp only [Bool.or_eq_true, decide_eq_true_eq, not_or, Decidable.not_not, ne_eq]; exact ⟨e1, by simp only [List.size_toArray]; omega⟩)]
        have e3 : (v.cells.zipIdx.foldl (fun (a : Array Value) p => a.setIfInBounds (off + p.2) p.1) ⟨cs⟩) = ⟨setsL cs off v.cells.toList⟩ := by
          rw [← Array.foldl_toList, Array.toList_zipIdx]
          exact setsL_fold v.cells.toList off 0 cs
        have e4 := fill_is h
        rw [← e3] at e4
        exact e4
      · cases h
def partsL (l : Sl) : List (Nat × Operand) → Option (List (Nat × Value))
  | [] => some []
  | (i, x) :: ps => match evalL l x, partsL l ps with
    | some v, some vs => some ((i, v) :: vs)
    | _, _ => none
theorem partsL_eq {l : Sl} : ∀ {ps : List (Nat × Operand)} {vs : List (Nat × Value)}, partsL l ps = some vs → (ps.map fun p => (p.1, rhoL l p.2)) = vs ∧ covL l (ps.map (·.2)) = true
  | [], _, h => by cases h; exact ⟨rfl, rfl⟩
  | (i, x) :: ps, vs, h => by
    unfold partsL at h
    split at h
    · rename_i v ws h1 h2
      cases h
      obtain ⟨h3, h4⟩ := partsL_eq h2
      refine ⟨?_, ?_⟩
      · simp only [List.map_cons, rhoL_eq h1, h3]
      · simp only [List.map_cons, covL, h1, h4]
    · cases h
theorem p_buildA {ps : Array (Nat × Operand)} {cs r : List Value} {pv : List (Nat × Value)} {e n m len : Nat} (hu : C.P.underlying t = some (.array len e)) (hz : zeroL C t = some (cs, n)) (hn : sizeAt C e = some m) (hp : partsL l ps.toList = some pv) (ho : partsOk pv = true)
    (hf : fillL (fun i => some (i * m, m)) cs pv = some r) : PureT C (.build t ps) l (.agg ⟨r⟩) := by
  obtain ⟨h1, h2⟩ := partsL_eq hp
  unfold PureT
  refine ⟨by simpa [Op.operands] using h2, ?_⟩
  unfold zeroL at hz
  split at hz
  · rename_i z m' hz1 hz2
    split at hz
    · cases hz
      simp only [aP, h1, abuild, ho, hz1, hu, hn]
      rw [show z = ⟨z.toList⟩ from rfl, fill_is hf]
      rfl
    · cases hz
  · cases hz
theorem p_buildS {ps : Array (Nat × Operand)} {cs r : List Value} {pv : List (Nat × Value)} {n : Nat} {fs : Array Field} {pl : List (Nat × Nat)} (hu : C.P.underlying t = some (.struct fs)) (hz : zeroL C t = some (cs, n)) (hn : places C fs.toList = some pl) (hp : partsL l ps.toList = some pv) (ho : partsOk pv = true)
    (hf : fillL (fun i => pl[i]?) cs pv = some r) : PureT C (.build t ps) l (.agg ⟨r⟩) := by
  obtain ⟨h1, h2⟩ := partsL_eq hp
  unfold PureT
  refine ⟨by simpa [Op.operands] using h2, ?_⟩
  unfold zeroL at hz
  split at hz
  · rename_i z m' hz1 hz2
    split at hz
    · cases hz
      simp only [aP, h1, abuild, ho, hz1, hu, hn]
      rw [show z = ⟨z.toList⟩ from rfl, fill_is hf]
      rfl
    · cases hz
  · cases hz

theorem setsL_mid : ∀ (vs p q : List Value), vs.length ≤ q.length → setsL (p ++ q) p.length vs = p ++ (vs ++ q.drop vs.length)
  | [], p, q, _ => by simp [setsL]
  | v :: vs, p, [], h => by simp at h
  | v :: vs, p, w :: q, h => by
    have e : (p ++ w :: q).set p.length v = (p ++ [v]) ++ q := by
      rw [List.set_append_right _ _ (Nat.le_refl _)]
      simp
    rw [setsL, e, show p.length + 1 = (p ++ [v]).length from by simp, setsL_mid vs (p ++ [v]) q (by simpa using h)]
    simp
def catL (n : Nat) : List (Nat × Value) → Nat → Option (List Value)
  | [], _ => some []
  | (j, v) :: ps, i => match Nat.beq j i, Nat.beq v.cells.toList.length n, catL n ps (i + 1) with
    | true, true, some r => some (v.cells.toList ++ r)
    | _, _, _ => none
theorem fill_cat {n : Nat} : ∀ {ps : List (Nat × Value)} {i : Nat} {p q r : List Value}, p.length = i * n → q.length = ps.length * n → catL n ps i = some r → fillL (fun i => some (i * n, n)) (p ++ q) ps = some (p ++ r)
  | [], i, p, q, r, h1, h2, h => by
    cases h
    have : q = [] := List.eq_nil_of_length_eq_zero (by simpa using h2)
    subst this
    rfl
  | (j, v) :: ps, i, p, q, r, h1, h2, h => by
    unfold catL at h
    split at h
    · rename_i r' e1 e2 e3
      cases h
      have e1 := Nat.eq_of_beq_eq_true e1
      have e2' := Nat.eq_of_beq_eq_true e2
      subst e1
      have hq : n ≤ q.length := by rw [h2]; simp only [List.length_cons, Nat.succ_mul]; omega
      have e4 : Nat.ble (j * n + v.cells.toList.length) (p ++ q).length = true := Nat.ble_eq_true_of_le (by rw [List.length_append, h1, e2']; omega)
      unfold fillL
      simp only [e2, e4]
      rw [← h1, setsL_mid _ _ _ (by omega), e2', ← List.append_assoc, fill_cat (i := j + 1) (r := r') (by rw [List.length_append, h1, e2', Nat.succ_mul]) (by rw [List.length_drop, h2]; simp only [List.length_cons, Nat.succ_mul]; omega) e3, List.append_assoc]
    · cases h
theorem st_buildSlice {hd : HH Prop} {ps : Array (Nat × Operand)} {zc r : List Value} {pv : List (Nat × Value)} {e n len : Nat} (hu : C.P.underlying t = some (.slice e)) (hz : zeroL C e = some (zc, n)) (hp : partsL l ps.toList = some pv) (ho : partsOk pv = true)
    (hb : Nat.ble (len * n) 16777216 = true) (h0 : Nat.blt 0 n = true) (hlen : Nat.beq pv.length len = true) (hf : catL n pv 0 = some r) (hk : ∀ b, Θ (.slice (some ⟨b, 0, none⟩) len len) ((b, .row r n false) :: H)) : StepT C hd (.buildSlice t len ps) l H Θ := by
  obtain ⟨h1, h2⟩ := partsL_eq hp
  have hlen := Nat.eq_of_beq_eq_true hlen
  unfold zeroL at hz
  split at hz
  · rename_i z m' hz1 hz2
    split at hz
    · rename_i hz3
      cases hz
      have hzl : z.toList.length = n := Nat.eq_of_beq_eq_true hz3
      refine st_A (by simpa [Op.operands] using h2) rfl (fun _ => rfl) ?_ hk
      have hf2 := fill_cat (p := []) (q := (List.replicate len z.toList).flatten) (i := 0) (by simp) (by simp [hlen, hzl]) hf
      simp only [List.nil_append] at hf2
      simp only [aA, h1, abuildSlice, hu, hz1, hz2, hb, h0, hz3, ho]
      rw [show (List.replicate len z.toList).flatten.toArray = ⟨(List.replicate len z.toList).flatten⟩ from rfl, fill_is hf2]
    · cases hz
  · cases hz
theorem cut_flat {α : Type} {enc : α → List Value} {w : Nat} (hl : ∀ x, (enc x).length = w) : ∀ (L : List α) (i : Nat) (x : α), L[i]? = some x → cut (L.flatMap enc) (0 + i * w) w = some (enc x)
  | [], i, x, h => by simp at h
  | a :: L, 0, x, h => by
    have : a = x := by simpa using h
    subst this
    have e : (enc a ++ L.flatMap enc).take w = enc a := by rw [← hl a]; exact List.take_left
    simp only [List.flatMap_cons, cut, Nat.zero_mul, Nat.add_zero, List.drop_zero, e, hl, Nat.beq_refl]
  | a :: L, i + 1, x, h => by
    have ih := cut_flat hl L i x (by simpa using h)
    unfold cut at ih ⊢
    have e : (enc a ++ L.flatMap enc).drop (0 + (i + 1) * w) = (L.flatMap enc).drop (0 + i * w) := by
      rw [show 0 + (i + 1) * w = (enc a).length + (0 + i * w) from by rw [hl, Nat.succ_mul]; omega, ← List.drop_drop, List.drop_left]
    simp only [List.flatMap_cons, e]
    exact ih
theorem arr_flat {α : Type} {enc : α → List Value} {w : Nat} (hl : ∀ x, (enc x).length = w) (L : List α) {b es : Nat} {el : Bool} (hm : (b, .row (L.flatMap enc) es el) ∈ H) : Arr C H (some ⟨b, 0, none⟩) w enc L :=
  ⟨fun i x h => ⟨b, 0, _, rfl, .own _ _ hm, cut_flat hl L i x h⟩⟩
theorem p_min {a b : Int} {k : IntKind} {ts : Array TypeId} (h : evalL l x = some (.int k a)) (h2 : evalL l y = some (.int k b)) : PureT C (.call { callee := .builtin .min, args := #[x, y], argTypes := ts }) l (.int k (if b < a then b else a)) := by
  unfold PureT
  refine ⟨cov2 h h2, ?_⟩
  have e : (#[x, y] : Array Operand).toList.map (rhoL l) = [.int k a, .int k b] := by simp [rhoL_eq h, rhoL_eq h2]
  simp only [aP, e, aminmax]
  rfl
theorem p_max {a b : Int} {k : IntKind} {ts : Array TypeId} (h : evalL l x = some (.int k a)) (h2 : evalL l y = some (.int k b)) : PureT C (.call { callee := .builtin .max, args := #[x, y], argTypes := ts }) l (.int k (if b > a then b else a)) := by
  unfold PureT
  refine ⟨cov2 h h2, ?_⟩
  have e : (#[x, y] : Array Operand).toList.map (rhoL l) = [.int k a, .int k b] := by simp [rhoL_eq h, rhoL_eq h2]
  simp only [aP, e, aminmax]
  rfl

/-! ### Maps -/
/-- What a look-up finds among entries. -/
def lookE (C : Ctx) (t : TypeId) (es : List MEnt) (k : Value) (ok : Bool) : Option Value := match C.P.underlying t with
  | some (.map kt et) => match akeyOk C 10000 kt k && scal k, C.P.info? et with
    | true, some i => match i.zero with
      | none => none
      | some z => match plainConst z with
        | false => none
        | true => match afind C kt k es 0 with
            | none => none
            | some (some (_, v)) => some (if ok then .tuple #[v, .bool true] else v)
            | some none => some (if ok then .tuple #[z, .bool false] else z)
    | _, _ => none
  | _ => none
theorem mapOf_is {s : St} (hm : MS C H s) {b : Nat} {es : List MEnt} {c : Nat} (h : (b, .map es c) ∈ H) : mapOf C s (.map (some b)) = some (b, es, c) := by
  obtain ⟨h1, h2, h3⟩ := hm.has _ _ h
  simp only [mapOf, Nat.ble_eq_true_of_le h1, h3]
theorem rd_lookup {b c : Nat} {es : List MEnt} {k : Value} {ok : Bool} (h1 : evalL l x = some (.map (some b))) (h2 : evalL l y = some k) (hm : (b, .map es c) ∈ H) (hv : lookE C t es k ok = some v) : ReadT C (.lookup t x y ok) l H v := by
  unfold ReadT
  refine ⟨cov2 h1 h2, rfl, fun s hs => ?_⟩
  simp only [aR, rhoL_eq h1, rhoL_eq h2, alookup, entsOf, mapOf_is hs hm]
  exact hv
theorem rd_lookup0 {k : Value} {ok : Bool} (h1 : evalL l x = some (.map none)) (h2 : evalL l y = some k) (hv : lookE C t [] k ok = some v) : ReadT C (.lookup t x y ok) l H v := by
  unfold ReadT
  refine ⟨cov2 h1 h2, rfl, fun s hs => ?_⟩
  simp only [aR, rhoL_eq h1, rhoL_eq h2, alookup, entsOf]
  exact hv

/-- The entries after a store. -/
def updE (C : Ctx) (t : TypeId) (es : List MEnt) (clock : Nat) (k v : Value) : Option (List MEnt × Nat) := match C.P.underlying t with
  | some (.map kt _) => match akeyOk C 10000 kt k && scal k with
    | false => none
    | true => match afind C kt k es 0 with
      | none => none
      | some (some (i, _)) => match es[i]? with
        | some e => match Instr.sameBits 10000 e.key k with
          | true => some (setNth (fun e => { e with key := k, val := v }) es i, clock)
          | false => none
        | none => none
      | some none => some (es ++ [{ key := k, val := v, born := clock }], clock + 1)
  | _ => none
theorem aupdate_is {s : St} (hm : MS C H s) {b : Nat} {es es' : List MEnt} {c c' : Nat} {k : Value} (h : (b, .map es c) ∈ H) (hu : updE C t es c k v = some (es', c')) : aupdate C s t (.map (some b)) k v = some (s.setObj b (.map es' c')) := by
  unfold updE at hu
  unfold aupdate
  simp only [mapOf_is hm h]
  split at hu
  · rename_i kt et he
    simp only [he]
    split at hu
    · cases hu
    · rename_i e1
      simp only [e1]
      split at hu
      · cases hu
      · rename_i i w e2
        simp only [e2]
        split at hu
        · rename_i e e3
          simp only [e3]
          split at hu
          · rename_i e4; simp only [e4]; cases hu; rfl
          · cases hu
        · cases hu
      · rename_i e2
        simp only [e2]
        cases hu; rfl
  · cases hu
theorem st_update {b c c' : Nat} {es es' : List MEnt} {k : Value} (h1 : evalL l x = some (.map (some b))) (h2 : evalL l y = some k) (h3 : evalL l z = some v) (hu : updE C t es c k v = some (es', c')) (hsw : Swap H b (.map es c) (.map es' c') H') (h : Θ undef H') :
    StepT C hd (.mapUpdate t x y z) l H Θ :=
  st_W (by simp [Op.operands, covL, h1, h2, h3]) rfl (fun _ => rfl) rfl fun s hm => ⟨undef, H', s.setObj b (.map es' c'), by simp only [aW, rhoL_eq h1, rhoL_eq h2, rhoL_eq h3, aupdate_is hm hsw.mem hu, Option.map_some], hm.swap hsw, h⟩

/-! ### Maps from numbers -/
/-- The entries for pairs, each born one later than the one before. -/
def mkEs {α : Type} (kk : IntKind) (f : α → Value) : List (Int × α) → Nat → List MEnt
  | [], _ => []
  | (a, m) :: ps, n => { key := .int kk a, val := f m, born := n } :: mkEs kk f ps (n + 1)
def assoc {α : Type} : List (Int × α) → Int → Option α
  | [], _ => none
  | (a, m) :: ps, k => if k = a then some m else assoc ps k
theorem mkEs_append {α : Type} (kk : IntKind) (f : α → Value) : ∀ (ps qs : List (Int × α)) (n : Nat), mkEs kk f (ps ++ qs) n = mkEs kk f ps n ++ mkEs kk f qs (n + ps.length)
  | [], qs, n => rfl
  | (a, m) :: ps, qs, n => by
    simp only [List.cons_append, mkEs, mkEs_append kk f ps qs (n + 1), List.length_cons]
    rw [show n + 1 + ps.length = n + (ps.length + 1) from by omega]
theorem aequal_int {kk : IntKind} {d : Nat} {kt : TypeId} (hk : C.P.underlying kt = some (.int kk)) (a b : Int) : aequal C (d + 1) kt (.int kk a) (.int kk b) = some (a == b) := by
  simp [aequal, hk]
theorem afind_mkEs {α : Type} {kk : IntKind} {f : α → Value} {kt : TypeId} (hk : C.P.underlying kt = some (.int kk)) (k : Int) : ∀ (ps : List (Int × α)) (n i : Nat),
    (assoc ps k = none → afind C kt (.int kk k) (mkEs kk f ps n) i = some none) ∧ (∀ m, assoc ps k = some m → ∃ j, afind C kt (.int kk k) (mkEs kk f ps n) i = some (some (j, f m)))
  | [], n, i => ⟨fun _ => rfl, fun m h => by cases h⟩
  | (a, m) :: ps, n, i => by
    have e : aequal C Op.maxDepth kt (.int kk k) (.int kk a) = some (k == a) := aequal_int (d := 9999) hk k a
    obtain ⟨h1, h2⟩ := afind_mkEs (f := f) hk k ps (n + 1) (i + 1)
    by_cases hka : k = a
    · subst hka
      refine ⟨fun h => by simp [assoc] at h, fun m' h => ⟨i, ?_⟩⟩
      simp [assoc] at h
      subst h
      simp [mkEs, afind, e]
    · have hb : (k == a) = false := by simpa using hka
      refine ⟨fun h => ?_, fun m' h => ?_⟩
      · simp only [assoc, if_neg hka] at h
        simp only [mkEs, afind, e, hb]
        exact h1 h
      · simp only [assoc, if_neg hka] at h
        obtain ⟨j, hj⟩ := h2 m' h
        refine ⟨j, ?_⟩
        simp only [mkEs, afind, e, hb]
        exact hj
/-- A map type from numbers. -/
structure NumMap (C : Ctx) (t : TypeId) (kk : IntKind) (z : Value) : Prop where
  und : ∃ kt et i, C.P.underlying t = some (.map kt et) ∧ C.P.underlying kt = some (.int kk) ∧ C.P.info? et = some i ∧ i.zero = some z ∧ plainConst z = true
theorem lookE_num {α : Type} {kk : IntKind} {f : α → Value} {zv : Value} (ht : NumMap C t kk zv) (ps : List (Int × α)) (k : Int) (ok : Bool) :
    lookE C t (mkEs kk f ps 0) (.int kk k) ok = some (match assoc ps k with | some m => if ok then .tuple #[f m, .bool true] else f m | none => if ok then .tuple #[zv, .bool false] else zv) := by
  obtain ⟨kt, et, i, h1, h2, h3, h4, h5⟩ := ht.und
  have e1 : akeyOk C 10000 kt (.int kk k) = true := by simp [akeyOk, h2]
  obtain ⟨g1, g2⟩ := afind_mkEs (f := f) h2 k ps 0 0
  unfold lookE
  simp only [h1, e1, scal, scalCell, Bool.and_true, h3, h4, h5]
  cases hq : assoc ps k with
  | none => simp only [g1 hq]
  | some m => obtain ⟨j, hj⟩ := g2 m hq; simp only [hj]
theorem lookE_hit {α : Type} {kk : IntKind} {f : α → Value} {zv : Value} (ht : NumMap C t kk zv) {ps : List (Int × α)} {k : Int} {m : α} (h : assoc ps k = some m) : lookE C t (mkEs kk f ps 0) (.int kk k) true = some (.tuple #[f m, .bool true]) := by
  rw [lookE_num ht, h]; rfl
theorem lookE_miss {α : Type} {kk : IntKind} {f : α → Value} {zv : Value} (ht : NumMap C t kk zv) {ps : List (Int × α)} {k : Int} (h : assoc ps k = none) : lookE C t (mkEs kk f ps 0) (.int kk k) true = some (.tuple #[zv, .bool false]) := by
  rw [lookE_num ht, h]; rfl
theorem lookE_hit1 {α : Type} {kk : IntKind} {f : α → Value} {zv : Value} (ht : NumMap C t kk zv) {ps : List (Int × α)} {k : Int} {m : α} (h : assoc ps k = some m) : lookE C t (mkEs kk f ps 0) (.int kk k) false = some (f m) := by
  rw [lookE_num ht, h]; rfl
theorem lookE_miss1 {α : Type} {kk : IntKind} {f : α → Value} {zv : Value} (ht : NumMap C t kk zv) {ps : List (Int × α)} {k : Int} (h : assoc ps k = none) : lookE C t (mkEs kk f ps 0) (.int kk k) false = some zv := by
  rw [lookE_num ht, h]; rfl
theorem updE_new {α : Type} {kk : IntKind} {f : α → Value} {zv : Value} (ht : NumMap C t kk zv) (ps : List (Int × α)) (k : Int) (m : α) (hq : assoc ps k = none) :
    updE C t (mkEs kk f ps 0) ps.length (.int kk k) (f m) = some (mkEs kk f (ps ++ [(k, m)]) 0, (ps ++ [(k, m)]).length) := by
  obtain ⟨kt, et, i, h1, h2, h3, h4, h5⟩ := ht.und
  have e1 : akeyOk C 10000 kt (.int kk k) = true := by simp [akeyOk, h2]
  obtain ⟨g1, g2⟩ := afind_mkEs (f := f) h2 k ps 0 0
  unfold updE
  simp only [h1, e1, scal, scalCell, Bool.and_true, g1 hq, mkEs_append, mkEs, Nat.zero_add, List.length_append, List.length_cons, List.length_nil]
end
end Go.Proofs.Ythcohphflhkceaa.Abs
