/- Lists of routes in memory: SameRoutes, LightRoutes. -/
import Derived.Test.YthcohphflhkceaaYb
import Derived.Test.YthcohphflhkceaaYa
import Derived.IntWalk
import Derived.Test.YthcohphflhkceaaYc
namespace Go.Proofs.Ythcohphflhkceaa.Abs
open Go
set_option linter.unusedVariables false
/-- A list of routes that is read. -/
def RsA (C : Ctx) (H : Hp) (M : List Rt) (v : Value) : Prop := ∃ L ad c, v = .slice ad L.length c ∧ ArrW C H ad 38 enW L ∧ (∀ x ∈ L, Rd C H x) ∧ L.map (·.r) = M
/-- A list of routes that the run has made, and the memory that holds it. -/
def RsL (C : Ctx) (M : List Rt) (v : Value) (G : Hp) : Prop := ∃ L Gs Gr, Own enW 38 L v Gs ∧ (∀ x ∈ L, Rd C Gr x) ∧ L.map (·.r) = M ∧ G = Gs ++ Gr
theorem RsA.weak {C : Ctx} {H H' : Hp} {M : List Rt} {v : Value} (h : RsA C H M v) (hs : H.Sublist H') : RsA C H' M v :=
  let ⟨L, ad, c, h1, h2, h3, h4⟩ := h; ⟨L, ad, c, h1, h2.weak hs, fun x hx => (h3 x hx).weak hs, h4⟩
theorem RsL.toA {C : Ctx} {G : Hp} {M : List Rt} {v : Value} (h : RsL C M v G) : RsA C G M v := by
  obtain ⟨L, Gs, Gr, h1, h2, h3, rfl⟩ := h
  obtain ⟨ad, c, e, hw⟩ := h1.arrW (C := C) enW_len
  exact ⟨L, ad, c, e, hw [] Gr, fun x hx => (h2 x hx).weak (List.sublist_append_right _ _), h3⟩
theorem RsL.nil {C : Ctx} : RsL C [] (.slice none 0 0) [] := ⟨[], [], [], .nil, fun x h => (by cases h), rfl, rfl⟩
/-- Short lists, as the statements want them. -/
def ltR (r : Rt) : Prop := r.a.path.length ≤ 40 ∧ r.a.clus.length ≤ 20 ∧ r.a.comms.length ≤ 80
theorem ltR.light {r : Rt} (h : ltR r) : r.a.light := by unfold ltR at h; unfold RtA.light; omega
section
variable {B0 : Nat} {old : Nat → Option (List Value)} {n : Nat} {H : Hp} {Q : Value → Hp → Prop}
set_option maxRecDepth 10000
set_option maxHeartbeats 8000000
theorem sames22_ct {M1 M2 : List Rt} {v w : Value} (h1 : RsA (cx B0 old) H M1 v) (h2 : RsA (cx B0 old) H M2 w) (hl : M1.length ≤ 100000) (hr : ∀ r ∈ M1, r.a.light) (hQ : ∀ t : Bool, (t = true ↔ M1 = M2) → Q (.bool t) H) :
    CallT (cx B0 old) (acall (cx B0 old) ansP (n + 4)) 22 [v, w] H Q := by
  obtain ⟨L, ad, c, rfl, hw1, hd1, rfl⟩ := h1
  obtain ⟨K, ad2, c2, rfl, hw2, hd2, rfl⟩ := h2
  have hno : L.map (·.r) ≠ K.map (·.r) → Q (.bool false) H := fun h => hQ false ⟨fun h => (by cases h), fun e => absurd e h⟩
  rw [List.length_map] at hl
  refine call_in2 27 rfl Try.func22 rfl rfl ?_
  repeat (refine ZX ?_; try with_reducible intro _)
  first | (refine isRun ?_; refine z1 (fun hc => ?_) (fun hc => ?_)) | refine z2 (fun hc => ?_) (fun hc => ?_) | (refine isPlan ?_; refine z3 (fun hc => ?_) (fun hc => ?_))
  · repeat (refine ZX ?_; try with_reducible intro _)
    exact re_1 rfl rfl (by exact drop_auto) (hno fun e => hc (by have := congrArg List.length e; simp only [List.length_map] at this; omega))
  repeat (refine ZX ?_; try with_reducible intro _)
  refine loop_ind (ι := Nat) 0 (fun i => L.length - i) (fun i => i ≤ L.length ∧ (L.map (·.r)).take i = (K.map (·.r)).take i) (fun i => [(5, .int .i64 (i : Int)), (0, .slice ad L.length c), (1, .slice ad2 K.length c2)]) (fun _ => H) ⟨Nat.zero_le _, rfl⟩ (by repeat (first | exact SubL.nil | refine SubL.cons rfl ?_)) (by exact drop_auto) ?_
  rintro i ⟨hi, htk⟩
  repeat (refine ZX ?_; try with_reducible intro _)
  refine ct_condT te_d rfl (fun hlt => ?_) (fun hlt => ?_)
  · obtain ⟨x, hx⟩ : ∃ x, L[i]? = some x := ⟨_, List.getElem?_eq_getElem (by omega)⟩
    obtain ⟨y, hy⟩ : ∃ y, K[i]? = some y := ⟨_, List.getElem?_eq_getElem (by omega)⟩
    obtain ⟨b1, o1, rfl, hL0⟩ := (hw1.arr enW_len).ldW 40 hx rfl (sz rfl)
    obtain ⟨b2, o2, rfl, hL1⟩ := (hw2.arr enW_len).ldW 40 hy rfl (sz rfl)
    have hxm := List.mem_of_getElem? hx
    have hym := List.mem_of_getElem? hy
    have hxl := hr x.r (List.mem_map_of_mem hxm)
    unfold RtA.light at hxl
    repeat (refine ZX ?_; try with_reducible intro _)
    refine ct_draw (masks := [0, 0, 3, 7, 0, 0, 48, 112, 255, 511]) (plan := [0, 1, 2, 3, 4, 5, 6, 7, 8, 9]) (E := []) (by kernel_rfl) (by kernel_rfl) (by kernel_rfl) (by kernel_rfl) ?_
    repeat (refine YX ?_)
    refine pl_S rfl rfl rfl rfl rfl rfl (st_call rfl rfl rfl rfl (same16_ct x y (by omega) (hd1 x hxm) (hd2 y hym) fun t ht => ⟨by exact rec_auto, ?_⟩))
    repeat (refine YX ?_)
    repeat (refine ZX ?_; try with_reducible intro _)
    cases t with
    | false =>
      repeat (refine ZX ?_; try with_reducible intro _)
      refine re_1 rfl rfl (by exact drop_auto) (hno fun e => ?_)
      have h1 : (L.map (·.r))[i]? = some x.r := by rw [List.getElem?_map, hx]; rfl
      have h2 : (K.map (·.r))[i]? = some y.r := by rw [List.getElem?_map, hy]; rfl
      rw [e, h2] at h1
      have := ht.2 (Option.some.inj h1).symm
      cases this
    | true =>
      repeat (refine ZX ?_; try with_reducible intro _)
      refine ⟨i + 1, ⟨by omega, ?_⟩, by omega, by repeat (first | exact SubL.nil | refine SubL.cons rfl ?_), by exact drop_auto⟩
      have h1 : (L.map (·.r))[i]? = some x.r := by rw [List.getElem?_map, hx]; rfl
      have h2 : (K.map (·.r))[i]? = some y.r := by rw [List.getElem?_map, hy]; rfl
      rw [List.take_add_one, List.take_add_one, htk, h1, h2, ht.1 rfl]
  · have hi' : i = L.length := by omega
    subst hi'
    rw [List.take_of_length_le (by rw [List.length_map]; exact Nat.le_refl _), List.take_of_length_le (by rw [List.length_map]; omega)] at htk
    repeat (refine ZX ?_; try with_reducible intro _)
    exact re_1 rfl rfl (by exact drop_auto) (hQ true ⟨fun _ => htk, fun _ => rfl⟩)
theorem light49_ct (x : Rw) (hQ : ∀ t : Bool, (t = true ↔ ltR x.r) → Q (.bool t) H) : CallT (cx B0 old) (acall (cx B0 old) ansP (n + 1)) 49 [.agg ⟨enW x⟩] H Q := by
  refine call_in1 22 rfl Try.func49 rfl rfl ?_
  unfold enW enR
  unfold ltR at hQ
  repeat' (first | refine Z0 ?_ | (refine ZR ?_; first | refine x1 ?_ | refine x2 ?_ | refine x8 ?_ | refine Z1 ?_ | refine Z2 ?_ | refine x3 fun _ => ?_ | refine x4 fun _ => ?_ | refine x5 fun _ => ?_ | refine Z3 fun _ => ?_ | refine Z4 fun _ => ?_) | refine Za ?_ | refine Zb ?_ | refine Zl ?_ | refine Zc ?_ | refine Ze ?_ | refine Zi ?_ | refine Zj ?_ | refine Zf ?_ | refine Zg ?_ | refine Zm ?_ | refine Zn ?_ | refine Zo ?_ | refine Zp ?_ | refine Zq ?_ | refine Zr ?_ | refine Zk ?_ | refine Y0 ?_ | (refine YP ?_; first | refine y1 ?_ | refine y2 ?_ | refine Y1 ?_ | refine Y2 ?_) | (refine isPlan ?_; refine y3 ?_) | (first | (refine isRun ?_; refine z1 (fun hc => ?_) (fun hc => ?_)) | refine z2 (fun hc => ?_) (fun hc => ?_) | (refine isPlan ?_; refine z3 (fun hc => ?_) (fun hc => ?_))))
  all_goals refine re_1 (H' := H) rfl rfl (by exact drop_auto) (hQ _ ?_)
  · simp only [decide_eq_true_eq]; omega
  · exact ⟨fun h => (by cases h), fun h => by omega⟩
  · exact ⟨fun h => (by cases h), fun h => by omega⟩
theorem lights27_ct {L : List Rw} {ad : Option Addr} {c : Nat} (mo : Int) (hw : Arr (cx B0 old) H ad 38 enW L) (hl : L.length ≤ 9223372036854775807) (hQ : ∀ t : Bool, (t = true ↔ (∀ x ∈ L, ltR x.r) ∧ (L.length : Int) ≤ mo) → Q (.bool t) H) :
    CallT (cx B0 old) (acall (cx B0 old) ansP (n + 2)) 27 [.slice ad L.length c, .int .i64 mo] H Q := by
  refine call_in2 22 rfl Try.func27 rfl rfl ?_
  repeat (refine ZX ?_; try with_reducible intro _)
  refine loop_ind (ι := Nat) 0 (fun i => L.length - i) (fun i => i ≤ L.length ∧ ∀ x ∈ L.take i, ltR x.r) (fun i => [(5, .int .i64 (i : Int)), (0, .slice ad L.length c), (1, .int .i64 mo)]) (fun _ => H) ⟨Nat.zero_le _, fun x h => (by cases h)⟩ (by repeat (first | exact SubL.nil | refine SubL.cons rfl ?_)) (by exact drop_auto) ?_
  rintro i ⟨hi, htk⟩
  repeat (refine ZX ?_; try with_reducible intro _)
  refine ct_condT te_d rfl (fun hlt => ?_) (fun hlt => ?_)
  · obtain ⟨x, hx⟩ : ∃ x, L[i]? = some x := ⟨_, List.getElem?_eq_getElem (by omega)⟩
    obtain ⟨b1, o1, rfl, hL0⟩ := hw.ldW 40 hx rfl (sz rfl)
    repeat (refine ZX ?_; try with_reducible intro _)
    refine rt_step rfl rfl rfl (st_call rfl rfl rfl rfl (light49_ct x fun t ht => ?_))
    cases t with
    | false =>
      repeat (refine ZX ?_; try with_reducible intro _)
      exact re_1 rfl rfl (by exact drop_auto) (hQ false ⟨fun h => (by cases h), fun h => ht.2 (h.1 x (List.mem_of_getElem? hx))⟩)
    | true =>
      repeat (refine ZX ?_; try with_reducible intro _)
      refine ⟨i + 1, ⟨by omega, fun y hy => ?_⟩, by omega, by repeat (first | exact SubL.nil | refine SubL.cons rfl ?_), by exact drop_auto⟩
      rw [List.take_add_one, hx] at hy
      rcases List.mem_append.1 hy with h | h
      · exact htk y h
      · rw [List.mem_singleton.1 h]; exact ht.1 rfl
  · have hi' : i = L.length := by omega
    subst hi'
    rw [List.take_length] at htk
    repeat (refine ZX ?_; try with_reducible intro _)
    refine re_1 rfl rfl (by exact drop_auto) (hQ _ ?_)
    rw [decide_eq_true_eq]
    exact ⟨fun h => ⟨htk, h⟩, fun h => h.2⟩
/-- Pick. -/
def pkF (x m : Int) : Int := if x.tmod m < 0 then x.tmod m + m else x.tmod m
theorem pkF_range {x m : Int} (h : 0 < m) : 0 ≤ pkF x m ∧ pkF x m < m := by
  have h1 := Int.tmod_lt_of_pos x h
  have h2 := Int.lt_tmod_of_pos x h
  unfold pkF
  split <;> omega
theorem pick12_ct (x m : Int) (h0 : 0 < m) (hm : m ≤ 1000000) (hQ : Q (.int .i64 (pkF x m)) H) : CallT (cx B0 old) (acall (cx B0 old) ansP (n + 1)) 12 [.int .i64 x, .int .i64 m] H Q := by
  refine call_in2 14 rfl Try.func12 rfl rfl ?_
  have h1 := Int.tmod_lt_of_pos x h0
  have h2 := Int.lt_tmod_of_pos x h0
  unfold pkF at hQ
  repeat (refine ZX ?_; try with_reducible intro _)
  apply rt_p rfl rfl rfl
  case hp => exact p_rem rfl rfl (by omega)
  generalize x.tmod m = r at *
  repeat (refine ZX ?_; try with_reducible intro _)
  refine ct_condT te_d rfl (fun hc => ?_) (fun hc => ?_)
  · rw [if_pos hc] at hQ
    repeat (refine ZX ?_; try with_reducible intro _)
    exact re_1 rfl rfl (List.Sublist.refl _) hQ
  · rw [if_neg hc] at hQ
    repeat (refine ZX ?_; try with_reducible intro _)
    exact re_1 rfl rfl (List.Sublist.refl _) hQ
end
end Go.Proofs.Ythcohphflhkceaa.Abs

/- (as in chapter 18, first texts) Contracts of metrics and of the look-up that it returns. -/
namespace Go.Proofs.Ythcohphflhkceaa.Abs
open Go
set_option linter.unusedVariables false

/-- The first metric, from 0 on, of each next hop. -/
def metStep (acc : List (Int × Int)) (p : Int × Int) : List (Int × Int) := if assoc acc p.1 = none ∧ 0 ≤ p.2 then acc ++ [p] else acc
def mets (L : List (Int × Int)) : List (Int × Int) := L.foldl metStep []
theorem mets_take (L : List (Int × Int)) (i : Nat) (p : Int × Int) (h : L[i]? = some p) : mets (L.take (i + 1)) = metStep (mets (L.take i)) p := by
  unfold mets
  rw [List.take_add_one, h, List.foldl_append]
  rfl
def encH (p : Int × Int) : List Value := [.int .u32 p.1, .int .i64 p.2]
def metO (ps : List (Int × Int)) : AObj := .map (mkEs .u32 (Value.int .i64) ps 0) ps.length
def metF (c : Nat) : Value := .func (.func 50) #[] #[.pointer (some ⟨c, 0, none⟩)]

section
variable {B0 : Nat} {old : Nat → Option (List Value)} {n : Nat} {H : Hp} {Q : Value → Hp → Prop}
set_option maxRecDepth 10000
theorem nm89 : NumMap (cx B0 old) 89 .u32 (.int .i64 0) := ⟨⟨_, _, _, rfl, rfl, rfl, rfl, rfl⟩⟩

theorem metrics_ct (ad : Option Addr) (cap : Nat) (L : List (Int × Int)) (harr : Arr (cx B0 old) H ad 2 encH L) (hlen : L.length ≤ 9223372036854775807)
    (h : ∀ c m, Q (metF c) ((c, .row [.map (some m)] 1 false) :: (m, metO (mets L)) :: H)) :
    CallT (cx B0 old) (acall (cx B0 old) ansP (n + 1)) 28 [.slice ad L.length cap] H Q := by
  refine call_in1 38 rfl Try.func28 rfl rfl ?_
  repeat (refine ZX ?_; try with_reducible intro _)
  rename_i m c
  refine loop_ind (ι := Nat) 0 (fun i => L.length - i) (fun i => i ≤ L.length) (fun i => [(13, .int .i64 i), (12, .int .i64 L.length), (11, .slice ad L.length cap), (3, .pointer (some ⟨c, 0, none⟩))])
    (fun i => (c, .row [.map (some m)] 1 false) :: (m, metO (mets (L.take i))) :: H) (Nat.zero_le _) (by repeat (first | exact SubL.nil | refine SubL.cons rfl ?_)) (List.Sublist.refl _) ?_
  intro i hi
  repeat (refine ZX ?_; try with_reducible intro _)
  refine ct_cond rfl (fun hlt => ?_) (fun hge => ?_)
  · have hlt' : i < L.length := by simpa using hlt
    obtain ⟨b, o, cs, rfl, hrow, hcut⟩ := harr.els i _ (List.getElem?_eq_getElem hlt')
    have hrow' : RowIs (cx B0 old) ((c, .row [.map (some m)] 1 false) :: (m, metO (mets (L.take i))) :: H) b cs := hrow.weak (by exact drop_auto)
    have hst := mets_take L i _ (List.getElem?_eq_getElem hlt')
    generalize L[i] = p at hcut hst
    repeat (refine ZX ?_; try with_reducible intro _)
    refine rt_r rfl rfl rfl (rd_at rfl (ldP hrow' rfl (sz rfl) (by simpa using hcut))) ?_
    repeat (refine ZX ?_; try with_reducible intro _)
    cases hq : assoc (mets (L.take i)) p.1 with
    | some m0 =>
      refine rt_r rfl rfl rfl (rd_lookup rfl rfl hm2 (lookE_hit nm89 hq)) ?_
      repeat (refine ZX ?_; try with_reducible intro _)
      have e2 : mets (L.take (i + 1)) = mets (L.take i) := by rw [hst]; unfold metStep; rw [if_neg (by rw [hq]; simp)]
      refine ⟨i + 1, hlt', by omega, by repeat (first | exact SubL.nil | refine SubL.cons rfl ?_), by rw [e2]; exact drop_auto⟩
    | none =>
      refine rt_r rfl rfl rfl (rd_lookup rfl rfl hm2 (lookE_miss nm89 hq)) ?_
      repeat (refine ZX ?_; try with_reducible intro _)
      refine ct_cond rfl (fun h0 => ?_) (fun h0 => ?_)
      · repeat (refine ZX ?_; try with_reducible intro _)
        have e2 : mets (L.take (i + 1)) = mets (L.take i) ++ [p] := by rw [hst]; unfold metStep; rw [if_pos ⟨hq, by simpa using h0⟩]
        refine rt_step0 rfl rfl (st_update rfl rfl rfl (updE_new nm89 _ _ _ hq) sw2 ?_)
        repeat (refine ZX ?_; try with_reducible intro _)
        refine ⟨i + 1, hlt', by omega, by repeat (first | exact SubL.nil | refine SubL.cons rfl ?_), by rw [e2]; exact drop_auto⟩
      · have e2 : mets (L.take (i + 1)) = mets (L.take i) := by rw [hst]; unfold metStep; rw [if_neg (by simp at h0; omega)]
        repeat (refine ZX ?_; try with_reducible intro _)
        refine ⟨i + 1, hlt', by omega, by repeat (first | exact SubL.nil | refine SubL.cons rfl ?_), by rw [e2]; exact drop_auto⟩
  · have hi' : i = L.length := by simp at hge; omega
    subst hi'
    rw [List.take_length]
    repeat (refine ZX ?_; try with_reducible intro _)
    exact re_1 rfl rfl (List.Sublist.refl _) (h _ _)

theorem metric_ct (ps : List (Int × Int)) (x : Int) (c m : Nat) (hc : (c, .row [.map (some m)] 1 false) ∈ H) (hm : (m, metO ps) ∈ H)
    (h : Q (.tuple #[.int .i64 ((assoc ps x).getD 0), .bool (assoc ps x).isSome]) H) :
    CallT (cx B0 old) (acall (cx B0 old) ansP (n + 1)) 50 [.int .u32 x, .pointer (some ⟨c, 0, none⟩)] H Q := by
  refine call_in2 15 rfl Try.func50 rfl rfl ?_
  repeat (refine ZX ?_; try with_reducible intro _)
  refine rt_r rfl rfl rfl (rd_at rfl (ld1 (.own _ _ hc) rfl (sz rfl) rfl)) ?_
  repeat (refine ZX ?_; try with_reducible intro _)
  cases hq : assoc ps x with
  | some m0 =>
    refine rt_r rfl rfl rfl (rd_lookup rfl rfl hm (lookE_hit nm89 hq)) ?_
    repeat (refine ZX ?_; try with_reducible intro _)
    rw [hq] at h
    exact re_2 rfl rfl rfl (by exact drop_auto) h
  | none =>
    refine rt_r rfl rfl rfl (rd_lookup rfl rfl hm (lookE_miss nm89 hq)) ?_
    repeat (refine ZX ?_; try with_reducible intro _)
    rw [hq] at h
    exact re_2 rfl rfl rfl (by exact drop_auto) h

/-- The first place where two lists differ decides. -/
def lexc : List Int → List Int → Int
  | a :: x, b :: y => if a < b then -1 else if a > b then 1 else lexc x y
  | _, _ => 0
theorem compare_ct (a b : List Int) (ha : a.length = 10) (hb : b.length = 10) (h : Q (.int .i64 (lexc a b)) H) :
    CallT (cx B0 old) (acall (cx B0 old) ansP (n + 1)) 30 [.agg ⟨a.map (Value.int .i64)⟩, .agg ⟨b.map (Value.int .i64)⟩] H Q := by
  refine call_in2 27 rfl Try.func30 rfl rfl ?_
  have ha' : (a.map (Value.int .i64)).length = 10 := by simp [ha]
  have hb' : (b.map (Value.int .i64)).length = 10 := by simp [hb]
  have hal : ∀ c : List Int, (c.map (Value.int .i64)).all Value.oneCell' = true := fun c => by simp [Value.oneCell']
  refine ct_seq (ct_region rfl ?_)
  refine rt_step rfl rfl rfl (st_box rfl (sz rfl) (beq_of ha') (hal _) fun ba => ?_)
  refine rt_step rfl rfl rfl (st_box rfl (sz rfl) (beq_of hb') (hal _) fun bb => ?_)
  repeat (refine ZX ?_; try with_reducible intro _)
  refine ct_scope ?_
  repeat (refine ZX ?_; try with_reducible intro _)
  refine ct_label ?_
  repeat (refine ZX ?_; try with_reducible intro _)
  refine rt_r rfl rfl rfl (rd_at rfl (ldW (.own _ _ hm1) rfl (sz rfl) (beq_of ha'))) ?_
  repeat (refine ZX ?_; try with_reducible intro _)
  refine loop_ind (ι := Nat) 0 (fun i => 10 - i) (fun i => i ≤ 10 ∧ lexc a b = lexc (a.drop i) (b.drop i)) (fun i => [(9, .int .i64 i), (8, .agg ⟨a.map (Value.int .i64)⟩), (3, .pointer (some ⟨bb, 0, none⟩)), (5, .int .i64 0)])
    (fun i => (bb, .row (b.map (Value.int .i64)) 10 false) :: (ba, .row (a.map (Value.int .i64)) 10 false) :: H) ⟨Nat.zero_le _, rfl⟩ (by repeat (first | exact SubL.nil | refine SubL.cons rfl ?_)) (List.Sublist.refl _) ?_
  intro i ⟨hi, hlex⟩
  repeat (refine ZX ?_; try with_reducible intro _)
  refine ct_cond rfl (fun hlt => ?_) (fun hge => ?_)
  · have hlt' : i < 10 := by simp at hlt; omega
    have ga : (a.map (Value.int .i64))[i]? = some (.int .i64 (a[i]'(by omega))) := by rw [List.getElem?_map, List.getElem?_eq_getElem (by omega)]; rfl
    have gb : (b.map (Value.int .i64))[i]? = some (.int .i64 (b[i]'(by omega))) := by rw [List.getElem?_map, List.getElem?_eq_getElem (by omega)]; rfl
    have hl2 : lexc a b = if a[i]'(by omega) < b[i]'(by omega) then -1 else if a[i]'(by omega) > b[i]'(by omega) then 1 else lexc (a.drop (i + 1)) (b.drop (i + 1)) := by
      rw [hlex, List.drop_eq_getElem_cons (by omega : i < a.length), List.drop_eq_getElem_cons (by omega : i < b.length)]; rfl
    generalize a[i]'(by omega) = x at ga hl2
    generalize b[i]'(by omega) = y at gb hl2
    repeat (refine ZX ?_; try with_reducible intro _)
    refine rt_p rfl rfl rfl (p_index (v := .int .i64 x) rfl rfl rfl rfl (sz rfl) (by omega) (by omega) (by rw [show (i : Int).toNat * 1 = i from by omega]; exact ga)) ?_
    repeat (refine ZX ?_; try with_reducible intro _)
    refine rt_r rfl rfl rfl (rd_at rfl (ld1 (v := .int .i64 y) (.own _ _ hm0) rfl (sz rfl) (by rw [show 0 + (i : Int).toNat * 1 = i from by omega]; exact gb))) ?_
    repeat (refine ZX ?_; try with_reducible intro _)
    refine ct_cond rfl (fun h1 => ?_) (fun h1 => ?_)
    · rw [hl2, if_pos (by simpa using h1)] at h
      repeat (refine ZX ?_; try with_reducible intro _)
      exact re_1 rfl rfl (by exact drop_auto) h
    · rw [if_neg (by simpa using h1)] at hl2
      repeat (refine ZX ?_; try with_reducible intro _)
      refine rt_r rfl rfl rfl (rd_at rfl (ld1 (v := .int .i64 y) (.own _ _ hm0) rfl (sz rfl) (by rw [show 0 + (i : Int).toNat * 1 = i from by omega]; exact gb))) ?_
      repeat (refine ZX ?_; try with_reducible intro _)
      refine ct_cond rfl (fun h2 => ?_) (fun h2 => ?_)
      · rw [hl2, if_pos (by simpa using h2)] at h
        repeat (refine ZX ?_; try with_reducible intro _)
        exact re_1 rfl rfl (by exact drop_auto) h
      · rw [if_neg (by simpa using h2)] at hl2
        repeat (refine ZX ?_; try with_reducible intro _)
        exact ⟨i + 1, ⟨by omega, hl2⟩, by omega, by repeat (first | exact SubL.nil | refine SubL.cons rfl ?_), by exact drop_auto⟩
  · have hi' : i = 10 := by simp at hge; omega
    subst hi'
    rw [hlex, List.drop_eq_nil_of_le (by omega), List.drop_eq_nil_of_le (by omega)] at h
    repeat (refine ZX ?_; try with_reducible intro _)
    exact re_1 rfl rfl (by exact drop_auto) h
end
end Go.Proofs.Ythcohphflhkceaa.Abs

/- Contract of rankOf. -/
namespace Go.Proofs.Ythcohphflhkceaa.Abs
open Go
set_option linter.unusedVariables false

/-- The numbers of a route fit their kinds. -/
structure Rt.WF (r : Rt) : Prop where
  n : r.n.wf
  o : -9223372036854775808 ≤ r.a.o ∧ r.a.o < 9223372036854775808
  next : 0 ≤ r.a.next ∧ r.a.next < 4294967296
  med : 0 ≤ r.a.med ∧ r.a.med < 4294967296
  pref : 0 ≤ r.a.pref ∧ r.a.pref < 4294967296
  orig : 0 ≤ r.a.orig ∧ r.a.orig < 4294967296
  peer : 0 ≤ r.peer ∧ r.peer < 4294967296
def maxI : Int := 9223372036854775807
def rankL (r : Rt) (ps : List (Int × Int)) : List Int := [if r.stale then 1 else 0, if r.a.hp then - r.a.pref else -100, r.a.path.length, r.a.o, if r.a.hm then r.a.med else 0,
  if r.peer = 0 then 0 else 1, if r.peer = 0 then 0 else (assoc ps r.a.next).getD maxI, r.a.clus.length, if r.a.hor then r.a.orig else r.peer, r.peer]

def rkV (x0 x1 x2 x3 x4 x5 x6 x7 x8 x9 : Int) : List Value := [.int .i64 x0, .int .i64 x1, .int .i64 x2, .int .i64 x3, .int .i64 x4, .int .i64 x5, .int .i64 x6, .int .i64 x7, .int .i64 x8, .int .i64 x9]
section
variable {B0 : Nat} {old : Nat → Option (List Value)} {n : Nat} {H : Hp} {Q : Value → Hp → Prop}
set_option maxRecDepth 10000
set_option maxHeartbeats 1000000
theorem rankOf_ct (x : Rw) (hr : x.r.WF) (ps : List (Int × Int)) (c m : Nat) (hc : (c, .row [.map (some m)] 1 false) ∈ H) (hm : (m, metO ps) ∈ H)
    (h : Q (.agg ⟨(rankL x.r ps).map (Value.int .i64)⟩) H) :
    CallT (cx B0 old) (acall (cx B0 old) ansP (n + 2)) 29 [.agg ⟨enW x⟩, metF c] H Q := by
  refine call_in2 64 rfl Try.func29 rfl rfl ?_
  have hp := hr.peer
  have ep : IntKind.i64.wrap x.r.peer = x.r.peer := IntWalk.i64_in _ (by omega)
  have e1 : IntKind.i64.wrap (0 - IntKind.i64.wrap x.r.a.pref) = - x.r.a.pref := by rw [IntWalk.i64_in x.r.a.pref (by have := hr.pref; omega), IntWalk.i64_in _ (by have := hr.pref; omega)]; omega
  have e2 : IntKind.i64.wrap x.r.a.med = x.r.a.med := IntWalk.i64_in _ (by have := hr.med; omega)
  have e3 : IntKind.i64.wrap x.r.a.orig = x.r.a.orig := IntWalk.i64_in _ (by have := hr.orig; omega)
  repeat (refine ZX ?_; try with_reducible intro _)
  rename_i bR bZ bA bK
  rw [ep]
  refine ct_mid [(6, .pointer (some ⟨bK, 0, none⟩)), (5, .pointer (some ⟨bA, 0, none⟩)), (4, .pointer (some ⟨bZ, 0, none⟩)), (2, .pointer (some ⟨bR, 0, none⟩)), (1, metF c)]
    ((bK, .row (rkV (if x.r.stale then 1 else 0) (-100) x.r.a.path.length x.r.a.o 0 0 0 x.r.a.clus.length x.r.peer x.r.peer) 10 false) :: (bA, .row (enWA x) 15 false) :: (bZ, .row (rkV 0 0 0 0 0 0 0 0 0 0) 10 false) :: (bR, .row (enW x) 38 false) :: H) ?_ ?_
  · refine ct_cond rfl (fun h1 => ?_) (fun h1 => ?_)
    · rw [h1]
      repeat (refine ZX ?_; try with_reducible intro _)
      exact ⟨by repeat (first | exact SubL.nil | refine SubL.cons rfl ?_), by exact drop_auto⟩
    · rw [h1]
      repeat (refine ZX ?_; try with_reducible intro _)
      exact ⟨by repeat (first | exact SubL.nil | refine SubL.cons rfl ?_), by exact drop_auto⟩
  repeat (refine ZX ?_; try with_reducible intro _)
  refine ct_mid [(6, .pointer (some ⟨bK, 0, none⟩)), (5, .pointer (some ⟨bA, 0, none⟩)), (4, .pointer (some ⟨bZ, 0, none⟩)), (2, .pointer (some ⟨bR, 0, none⟩)), (1, metF c)]
    ((bK, .row (rkV (if x.r.stale then 1 else 0) (if x.r.a.hp then - x.r.a.pref else -100) x.r.a.path.length x.r.a.o 0 0 0 x.r.a.clus.length x.r.peer x.r.peer) 10 false) :: (bA, .row (enWA x) 15 false) :: (bZ, .row (rkV 0 0 0 0 0 0 0 0 0 0) 10 false) :: (bR, .row (enW x) 38 false) :: H) ?_ ?_
  · refine ct_cond rfl (fun h1 => ?_) (fun h1 => ?_)
    · rw [h1]
      repeat (refine ZX ?_; try with_reducible intro _)
      rw [e1]
      exact ⟨by repeat (first | exact SubL.nil | refine SubL.cons rfl ?_), by exact drop_auto⟩
    · rw [h1]
      repeat (refine ZX ?_; try with_reducible intro _)
      exact ⟨by repeat (first | exact SubL.nil | refine SubL.cons rfl ?_), by exact drop_auto⟩
  repeat (refine ZX ?_; try with_reducible intro _)
  refine ct_mid [(6, .pointer (some ⟨bK, 0, none⟩)), (5, .pointer (some ⟨bA, 0, none⟩)), (4, .pointer (some ⟨bZ, 0, none⟩)), (2, .pointer (some ⟨bR, 0, none⟩)), (1, metF c)]
    ((bK, .row (rkV (if x.r.stale then 1 else 0) (if x.r.a.hp then - x.r.a.pref else -100) x.r.a.path.length x.r.a.o (if x.r.a.hm then x.r.a.med else 0) 0 0 x.r.a.clus.length x.r.peer x.r.peer) 10 false) :: (bA, .row (enWA x) 15 false) :: (bZ, .row (rkV 0 0 0 0 0 0 0 0 0 0) 10 false) :: (bR, .row (enW x) 38 false) :: H) ?_ ?_
  · refine ct_cond rfl (fun h1 => ?_) (fun h1 => ?_)
    · rw [h1]
      repeat (refine ZX ?_; try with_reducible intro _)
      rw [e2]
      exact ⟨by repeat (first | exact SubL.nil | refine SubL.cons rfl ?_), by exact drop_auto⟩
    · rw [h1]
      repeat (refine ZX ?_; try with_reducible intro _)
      exact ⟨by repeat (first | exact SubL.nil | refine SubL.cons rfl ?_), by exact drop_auto⟩
  repeat (refine ZX ?_; try with_reducible intro _)
  refine ct_mid [(6, .pointer (some ⟨bK, 0, none⟩)), (5, .pointer (some ⟨bA, 0, none⟩)), (4, .pointer (some ⟨bZ, 0, none⟩)), (2, .pointer (some ⟨bR, 0, none⟩)), (1, metF c)]
    ((bK, .row (rkV (if x.r.stale then 1 else 0) (if x.r.a.hp then - x.r.a.pref else -100) x.r.a.path.length x.r.a.o (if x.r.a.hm then x.r.a.med else 0) (if x.r.peer = 0 then 0 else 1) (if x.r.peer = 0 then 0 else (assoc ps x.r.a.next).getD maxI) x.r.a.clus.length x.r.peer x.r.peer) 10 false) :: (bA, .row (enWA x) 15 false) :: (bZ, .row (rkV 0 0 0 0 0 0 0 0 0 0) 10 false) :: (bR, .row (enW x) 38 false) :: H) ?_ ?_
  · refine ct_cond rfl (fun h1 => ?_) (fun h1 => ?_)
    · have h1' : ¬ x.r.peer = 0 := by simpa using h1
      rw [if_neg h1', if_neg h1']
      repeat (refine ZX ?_; try with_reducible intro _)
      refine rt_step rfl rfl rfl (st_call rfl rfl rfl rfl (metric_ct ps _ c m (by repeat (first | exact hc | refine List.Mem.tail _ ?_)) (by repeat (first | exact hm | refine List.Mem.tail _ ?_)) ?_))
      repeat (refine ZX ?_; try with_reducible intro _)
      cases hq : assoc ps x.r.a.next with
      | some w =>
        repeat (refine ZX ?_; try with_reducible intro _)
        exact ⟨by repeat (first | exact SubL.nil | refine SubL.cons rfl ?_), by exact drop_auto⟩
      | none =>
        repeat (refine ZX ?_; try with_reducible intro _)
        exact ⟨by repeat (first | exact SubL.nil | refine SubL.cons rfl ?_), by exact drop_auto⟩
    · have h1' : x.r.peer = 0 := by simpa using h1
      rw [if_pos h1', if_pos h1']
      repeat (refine ZX ?_; try with_reducible intro _)
      exact ⟨by repeat (first | exact SubL.nil | refine SubL.cons rfl ?_), by exact drop_auto⟩
  repeat (refine ZX ?_; try with_reducible intro _)
  refine ct_mid [(6, .pointer (some ⟨bK, 0, none⟩)), (5, .pointer (some ⟨bA, 0, none⟩)), (4, .pointer (some ⟨bZ, 0, none⟩)), (2, .pointer (some ⟨bR, 0, none⟩)), (1, metF c)]
    ((bK, .row (rkV (if x.r.stale then 1 else 0) (if x.r.a.hp then - x.r.a.pref else -100) x.r.a.path.length x.r.a.o (if x.r.a.hm then x.r.a.med else 0) (if x.r.peer = 0 then 0 else 1) (if x.r.peer = 0 then 0 else (assoc ps x.r.a.next).getD maxI) x.r.a.clus.length (if x.r.a.hor then x.r.a.orig else x.r.peer) x.r.peer) 10 false) :: (bA, .row (enWA x) 15 false) :: (bZ, .row (rkV 0 0 0 0 0 0 0 0 0 0) 10 false) :: (bR, .row (enW x) 38 false) :: H) ?_ ?_
  · refine ct_cond rfl (fun h1 => ?_) (fun h1 => ?_)
    · rw [h1]
      repeat (refine ZX ?_; try with_reducible intro _)
      rw [e3]
      exact ⟨by repeat (first | exact SubL.nil | refine SubL.cons rfl ?_), by exact drop_auto⟩
    · rw [h1]
      repeat (refine ZX ?_; try with_reducible intro _)
      exact ⟨by repeat (first | exact SubL.nil | refine SubL.cons rfl ?_), by exact drop_auto⟩
  repeat (refine ZX ?_; try with_reducible intro _)
  exact re_r (by exact drop_auto) (res_cell rfl (.own _ _ hm2) rfl (sz rfl) rfl rfl (res_nil h))
end
end Go.Proofs.Ythcohphflhkceaa.Abs

/- Contract of Compare. -/
namespace Go.Proofs.Ythcohphflhkceaa.Abs
open Go
set_option linter.unusedVariables false

section
variable {B0 : Nat} {old : Nat → Option (List Value)} {n : Nat} {H : Hp} {Q : Value → Hp → Prop}
set_option maxRecDepth 10000
set_option maxHeartbeats 1000000
theorem rankL_length (r : Rt) (ps : List (Int × Int)) : (rankL r ps).length = 10 := rfl
/-- What Compare answers. -/
def cmpR (a b : Rt) (L : List (Int × Int)) : Int := lexc (rankL a (mets L)) (rankL b (mets L))
theorem Compare_ct (a b : Rw) (ha : a.r.WF) (hb : b.r.WF) (ad : Option Addr) (cap : Nat) (L : List (Int × Int)) (harr : Arr (cx B0 old) H ad 2 encH L) (hlen : L.length ≤ 9223372036854775807) (h : Q (.int .i64 (cmpR a.r b.r L)) H) :
    CallT (cx B0 old) (acall (cx B0 old) ansP (n + 3)) 11 [.agg ⟨enW a⟩, .agg ⟨enW b⟩, .slice ad L.length cap] H Q := by
  refine call_in3 17 rfl Try.func11 rfl rfl ?_
  repeat (refine ZX ?_; try with_reducible intro _)
  refine rt_step rfl rfl rfl (st_call rfl rfl rfl rfl (metrics_ct _ _ L (harr.weak (by exact drop_auto)) hlen fun c m => ?_))
  repeat (refine ZX ?_; try with_reducible intro _)
  refine ct_draw (masks := [0, 0, 3, 0, 0, 31, 63, 127]) (plan := [0, 1, 3, 4, 2, 5, 6, 7]) (E := []) (by kernel_rfl) (by kernel_rfl) (by kernel_rfl) (by kernel_rfl) ?_
  repeat (refine YX ?_)
  refine pl_S rfl rfl rfl rfl rfl rfl (st_call rfl rfl rfl rfl (rankOf_ct a ha _ _ _ hm0 hm1 ⟨by exact rec_auto, ?_⟩))
  refine pl_S rfl rfl rfl rfl rfl rfl (st_call rfl rfl rfl rfl (rankOf_ct b hb _ _ _ hm0 hm1 ⟨by exact rec_auto, ?_⟩))
  refine pl_S rfl rfl rfl rfl rfl rfl (st_call rfl rfl rfl rfl (compare_ct _ _ (rankL_length _ _) (rankL_length _ _) ⟨by exact rec_auto, ?_⟩))
  repeat (refine YX ?_)
  repeat (refine ZX ?_; try with_reducible intro _)
  exact re_1 rfl rfl (by exact drop_auto) h
end
def usableR (r : Rt) (ps : List (Int × Int)) : Bool := (assoc ps r.a.next).isSome || r.peer == 0
structure PS where
  best : Nat
  found : Bool
  least : List Int
def zeros : List Int := [0, 0, 0, 0, 0, 0, 0, 0, 0, 0]
def pstep (ps : List (Int × Int)) (st : PS) (i : Nat) (r : Rt) : PS := if usableR r ps = true ∧ (st.found = false ∨ lexc (rankL r ps) st.least < 0) then ⟨i, true, rankL r ps⟩ else st
def pst (ps : List (Int × Int)) (L : List Rt) : Nat → PS
  | 0 => ⟨0, false, zeros⟩
  | i + 1 => match L[i]? with
    | some r => pstep ps (pst ps L i) i r
    | none => pst ps L i
theorem pst_len (ps : List (Int × Int)) (L : List Rt) : ∀ i, (pst ps L i).least.length = 10
  | 0 => rfl
  | i + 1 => by
    unfold pst
    split
    · unfold pstep
      split
      · rfl
      · exact pst_len ps L i
    · exact pst_len ps L i

section
variable {B0 : Nat} {old : Nat → Option (List Value)} {n : Nat} {H : Hp} {Q : Value → Hp → Prop}
set_option maxRecDepth 10000
set_option maxHeartbeats 1000000
theorem usable_ct (x : Rw) (ps : List (Int × Int)) (c m : Nat) (hc : (c, .row [.map (some m)] 1 false) ∈ H) (hm : (m, metO ps) ∈ H) (h : Q (.bool (usableR x.r ps)) H) :
    CallT (cx B0 old) (acall (cx B0 old) ansP (n + 2)) 34 [.agg ⟨enW x⟩, metF c] H Q := by
  refine call_in2 21 rfl Try.func34 rfl rfl ?_
  repeat (refine ZX ?_; try with_reducible intro _)
  refine rt_step rfl rfl rfl (st_call rfl rfl rfl rfl (metric_ct ps _ c m (by repeat (first | exact hc | refine List.Mem.tail _ ?_)) (by repeat (first | exact hm | refine List.Mem.tail _ ?_)) ?_))
  repeat (refine ZX ?_; try with_reducible intro _)
  (refine rt_guard rfl rfl rfl rfl ?_ ?_)
  all_goals intro h1
  · repeat (refine ZX ?_; try with_reducible intro _)
    have : usableR x.r ps = true := by unfold usableR; rw [h1]; rfl
    rw [this] at h
    exact re_1 rfl rfl (by exact drop_auto) h
  · repeat (refine ZX ?_; try with_reducible intro _)
    have : usableR x.r ps = (x.r.peer == 0) := by unfold usableR; rw [h1]; rfl
    rw [this] at h
    exact re_1 rfl rfl (by exact drop_auto) h

theorem Usable_ct (x : Rw) (ad : Option Addr) (cap : Nat) (L : List (Int × Int)) (harr : Arr (cx B0 old) H ad 2 encH L) (hlen : L.length ≤ 9223372036854775807) (h : Q (.bool (usableR x.r (mets L))) H) :
    CallT (cx B0 old) (acall (cx B0 old) ansP (n + 3)) 15 [.agg ⟨enW x⟩, .slice ad L.length cap] H Q := by
  refine call_in2 9 rfl Try.func15 rfl rfl ?_
  repeat (refine ZX ?_; try with_reducible intro _)
  refine ct_draw (masks := [0, 0, 2, 7, 15]) (plan := [0, 1, 2, 3, 4]) (E := []) (by kernel_rfl) (by kernel_rfl) (by kernel_rfl) (by kernel_rfl) ?_
  repeat (refine YX ?_)
  refine pl_S rfl rfl rfl rfl rfl rfl (st_call rfl rfl rfl rfl (metrics_ct _ _ L (harr.weak (by exact drop_auto)) hlen fun c m => ⟨by exact rec_auto, ?_⟩))
  refine pl_S rfl rfl rfl rfl rfl rfl (st_call rfl rfl rfl rfl (usable_ct x (mets L) c m hm0 hm1 ⟨by exact rec_auto, ?_⟩))
  repeat (refine YX ?_)
  repeat (refine ZX ?_; try with_reducible intro _)
  exact re_1 rfl rfl (by exact drop_auto) h

theorem pick_ct (ad : Option Addr) (cap : Nat) (L : List Rw) (hwf : ∀ x ∈ L, x.r.WF) (harr : Arr (cx B0 old) H ad 38 enW L) (hlen : L.length ≤ 9223372036854775807) (ps : List (Int × Int)) (c m : Nat) (hc : (c, .row [.map (some m)] 1 false) ∈ H) (hm : (m, metO ps) ∈ H)
    (h : Q (.tuple #[.int .i64 (pst ps (L.map (·.r)) L.length).best, .bool (pst ps (L.map (·.r)) L.length).found]) H) :
    CallT (cx B0 old) (acall (cx B0 old) ansP (n + 3)) 33 [.slice ad L.length cap, metF c] H Q := by
  refine call_in2 39 rfl Try.func33 rfl rfl ?_
  repeat (refine ZX ?_; try with_reducible intro _)
  rename_i b8
  refine loop_ind (ι := Nat) 0 (fun i => L.length - i) (fun i => i ≤ L.length) (fun i => [(14, .int .i64 i), (13, .int .i64 L.length), (12, .slice ad L.length cap), (1, metF c), (6, .int .i64 (pst ps (L.map (·.r)) i).best), (7, .bool (pst ps (L.map (·.r)) i).found), (8, .pointer (some ⟨b8, 0, none⟩))])
    (fun i => (b8, .row ((pst ps (L.map (·.r)) i).least.map (Value.int .i64)) 10 false) :: H) (Nat.zero_le _) (by repeat (first | exact SubL.nil | refine SubL.cons rfl ?_)) (List.Sublist.refl _) ?_
  intro i hi
  repeat (refine ZX ?_; try with_reducible intro _)
  refine ct_cond rfl (fun hlt => ?_) (fun hge => ?_)
  · have hlt' : i < L.length := by simpa using hlt
    obtain ⟨b, o, cs, rfl, hrow, hcut⟩ := harr.els i _ (List.getElem?_eq_getElem hlt')
    have hrow' : RowIs (cx B0 old) ((b8, .row ((pst ps (L.map (·.r)) i).least.map (Value.int .i64)) 10 false) :: H) b cs := hrow.weak (by exact drop_auto)
    have hst : pst ps (L.map (·.r)) (i + 1) = pstep ps (pst ps (L.map (·.r)) i) i L[i].r := by rw [pst, List.getElem?_map, List.getElem?_eq_getElem hlt']; rfl
    have hrwf := hwf L[i] (List.getElem_mem hlt')
    have hl10 := pst_len ps (L.map (·.r)) i
    generalize L[i] = x at hcut hst hrwf
    generalize pst ps (L.map (·.r)) i = so at hst hrow' hl10
    obtain ⟨be, fo, le⟩ := so
    have hl10' : le.length = 10 := hl10
    repeat (refine ZX ?_; try with_reducible intro _)
    refine rt_r rfl rfl rfl (rd_at rfl (ldP hrow' rfl (sz rfl) (by simpa using hcut))) ?_
    repeat (refine ZX ?_; try with_reducible intro _)
    refine rt_step rfl rfl rfl (st_call rfl rfl rfl rfl (usable_ct x ps c m (by repeat (first | exact hc | refine List.Mem.tail _ ?_)) (by repeat (first | exact hm | refine List.Mem.tail _ ?_)) ?_))
    cases hu : usableR x.r ps with
    | false =>
      have hs2 : pst ps (L.map (·.r)) (i + 1) = ⟨be, fo, le⟩ := by rw [hst]; unfold pstep; rw [if_neg (by rw [hu]; simp)]
      repeat (refine ZX ?_; try with_reducible intro _)
      exact ⟨i + 1, hlt', by omega, by rw [hs2]; repeat (first | exact SubL.nil | refine SubL.cons rfl ?_), by rw [hs2]; exact drop_auto⟩
    | true =>
      repeat (refine ZX ?_; try with_reducible intro _)
      refine rt_step rfl rfl rfl (st_call rfl rfl rfl rfl (rankOf_ct x hrwf ps c m (by repeat (first | exact hc | refine List.Mem.tail _ ?_)) (by repeat (first | exact hm | refine List.Mem.tail _ ?_)) ?_))
      repeat (refine ZX ?_; try with_reducible intro _)
      cases fo with
      | false =>
        have hs2 : pst ps (L.map (·.r)) (i + 1) = ⟨i, true, rankL x.r ps⟩ := by rw [hst]; unfold pstep; rw [if_pos ⟨hu, .inl rfl⟩]
        repeat (refine ZX ?_; try with_reducible intro _)
        refine ct_draw (masks := [0, 0, 1, 5, 15]) (plan := [0, 1, 2, 3, 4]) (E := []) (by kernel_rfl) (by kernel_rfl) (by kernel_rfl) (by kernel_rfl) ?_
        repeat (refine YX ?_)
        refine pl_S0 rfl rfl rfl rfl rfl (st_at rfl rfl (stW hm2 (sz rfl) rfl (beq_of (by rw [List.length_map, List.length_map, hl10']; rfl)) (by simp [Value.oneCell']) sw2 ⟨by exact rec_auto, ?_⟩))
        repeat (refine YX ?_)
        repeat (refine ZX ?_; try with_reducible intro _)
        exact ⟨i + 1, hlt', by omega, by rw [hs2]; repeat (first | exact SubL.nil | refine SubL.cons rfl ?_), by rw [hs2]; exact drop_auto⟩
      | true =>
        repeat (refine ZX ?_; try with_reducible intro _)
        refine rt_r rfl rfl rfl (rd_at rfl (ldW (.own _ _ hm2) rfl (sz rfl) (beq_of (by rw [List.length_map]; exact hl10)))) ?_
        refine rt_step rfl rfl rfl (st_call rfl rfl rfl rfl (compare_ct (rankL x.r ps) le rfl hl10 ?_))
        repeat (refine ZX ?_; try with_reducible intro _)
        refine ct_cond rfl (fun h3 => ?_) (fun h3 => ?_)
        · have hs2 : pst ps (L.map (·.r)) (i + 1) = ⟨i, true, rankL x.r ps⟩ := by rw [hst]; unfold pstep; rw [if_pos ⟨hu, .inr (of_decide_eq_true h3)⟩]
          repeat (refine ZX ?_; try with_reducible intro _)
          refine ct_draw (masks := [0, 0, 1, 5, 15]) (plan := [0, 1, 2, 3, 4]) (E := []) (by kernel_rfl) (by kernel_rfl) (by kernel_rfl) (by kernel_rfl) ?_
          repeat (refine YX ?_)
          refine pl_S0 rfl rfl rfl rfl rfl (st_at rfl rfl (stW hm2 (sz rfl) rfl (beq_of (by rw [List.length_map, List.length_map, hl10']; rfl)) (by simp [Value.oneCell']) sw2 ⟨by exact rec_auto, ?_⟩))
          repeat (refine YX ?_)
          repeat (refine ZX ?_; try with_reducible intro _)
          exact ⟨i + 1, hlt', by omega, by rw [hs2]; repeat (first | exact SubL.nil | refine SubL.cons rfl ?_), by rw [hs2]; exact drop_auto⟩
        · have hs2 : pst ps (L.map (·.r)) (i + 1) = ⟨be, true, le⟩ := by rw [hst]; unfold pstep; rw [if_neg (by intro ⟨_, h5⟩; rcases h5 with h5 | h5; exact absurd h5 (by simp); exact absurd h5 (of_decide_eq_false h3))]
          repeat (refine ZX ?_; try with_reducible intro _)
          exact ⟨i + 1, hlt', by omega, by rw [hs2]; repeat (first | exact SubL.nil | refine SubL.cons rfl ?_), by rw [hs2]; exact drop_auto⟩
  · have hi' : i = L.length := by simp at hge; omega
    subst hi'
    repeat (refine ZX ?_; try with_reducible intro _)
    exact re_2 rfl rfl rfl (by exact drop_auto) h
theorem Pick_ct (ad ad2 : Option Addr) (cap cap2 : Nat) (L : List Rw) (hwf : ∀ x ∈ L, x.r.WF) (harr : Arr (cx B0 old) H ad 38 enW L) (hlen : L.length ≤ 9223372036854775807) (R : List (Int × Int)) (harr2 : Arr (cx B0 old) H ad2 2 encH R) (hlen2 : R.length ≤ 9223372036854775807)
    (h : Q (.tuple #[.int .i64 (pst (mets R) (L.map (·.r)) L.length).best, .bool (pst (mets R) (L.map (·.r)) L.length).found]) H) :
    CallT (cx B0 old) (acall (cx B0 old) ansP (n + 4)) 14 [.slice ad L.length cap, .slice ad2 R.length cap2] H Q := by
  refine call_in2 12 rfl Try.func14 rfl rfl ?_
  repeat (refine ZX ?_; try with_reducible intro _)
  refine rt_step rfl rfl rfl (st_call rfl rfl rfl rfl (metrics_ct _ _ R harr2 hlen2 fun c m => ?_))
  repeat (refine ZX ?_; try with_reducible intro _)
  refine rt_step rfl rfl rfl (st_call rfl rfl rfl rfl (pick_ct _ _ L hwf (harr.weak (by exact drop_auto)) hlen (mets R) c m hm0 hm1 ?_))
  repeat (refine ZX ?_; try with_reducible intro _)
  exact re_2 rfl rfl rfl (by exact drop_auto) h
end
end Go.Proofs.Ythcohphflhkceaa.Abs

/- Selection of routes in plain Lean: one for each key. -/
namespace Go.Proofs.Ythcohphflhkceaa.Abs
open Go
set_option linter.unusedVariables false
/-! ### Metrics -/
def fm : List (Int × Int) → Int → Option Int
  | [], _ => none
  | p :: l, x => if x = p.1 ∧ 0 ≤ p.2 then some p.2 else fm l x
theorem assoc_app (p : Int × Int) (x : Int) : ∀ A : List (Int × Int), assoc (A ++ [p]) x = (match assoc A x with | some m => some m | none => if x = p.1 then some p.2 else none)
  | [] => by simp [assoc]
  | (a, m) :: A => by
    have ih := assoc_app p x A
    simp only [List.cons_append, assoc]
    split
    · rfl
    · exact ih
theorem fold_assoc (x : Int) : ∀ (L acc : List (Int × Int)), assoc (L.foldl metStep acc) x = (match assoc acc x with | some m => some m | none => fm L x)
  | [], acc => by rw [List.foldl_nil]; cases assoc acc x <;> rfl
  | p :: L, acc => by
    rw [List.foldl_cons, fold_assoc x L]
    by_cases h : assoc acc p.1 = none ∧ 0 ≤ p.2
    · rw [show metStep acc p = acc ++ [p] from if_pos h, assoc_app]
      cases hq : assoc acc x with
      | some m => rfl
      | none =>
        simp only [fm]
        by_cases hx : x = p.1
        · rw [if_pos hx, if_pos ⟨hx, h.2⟩]
        · rw [if_neg hx, if_neg fun g => hx g.1]
    · rw [show metStep acc p = acc from if_neg h]
      cases hq : assoc acc x with
      | some m => rfl
      | none =>
        simp only [fm]
        rw [if_neg fun g : x = p.1 ∧ 0 ≤ p.2 => h ⟨g.1 ▸ hq, g.2⟩]
theorem assoc_mets (L : List (Int × Int)) (x : Int) : assoc (mets L) x = fm L x := by
  unfold mets
  rw [fold_assoc]; rfl
theorem fm_take {L : List (Int × Int)} {x : Int} {i : Nat} {p : Int × Int} (hp : L[i]? = some p) (hn : fm (L.take i) x = none) : (x = p.1 ∧ 0 ≤ p.2 → fm L x = some p.2) ∧ (¬ (x = p.1 ∧ 0 ≤ p.2) → fm (L.take (i + 1)) x = none) := by
  induction L generalizing i with
  | nil => simp at hp
  | cons q L ih =>
    cases i with
    | zero =>
      obtain rfl : q = p := by simpa using hp
      simp only [fm, List.take_succ_cons, List.take_zero]
      exact ⟨fun h => if_pos h, fun h => if_neg h⟩
    | succ i =>
      rw [List.take_succ_cons] at hn ⊢
      simp only [fm] at hn ⊢
      split at hn
      · cases hn
      · rename_i hq
        rw [if_neg hq, if_neg hq]
        exact ih (by simpa using hp) hn
/-! ### The best one -/
theorem pst_succ {ps : List (Int × Int)} {L : List Rt} {i : Nat} {x : Rt} (h : L[i]? = some x) : pst ps L (i + 1) = pstep ps (pst ps L i) i x := by rw [pst, h]
theorem pst_inv (ps : List (Int × Int)) (L : List Rt) : ∀ i, i ≤ L.length → (pst ps L i).found = true → ∃ r, L[(pst ps L i).best]? = some r ∧ (pst ps L i).least = rankL r ps
  | 0, _, h => by cases h
  | i + 1, hi, h => by
    have ih := pst_inv ps L i (by omega)
    have hx : L[i]? = some L[i] := List.getElem?_eq_getElem (by omega)
    rw [pst_succ hx] at h ⊢
    unfold pstep at h ⊢
    split at h
    · rename_i hc
      rw [if_pos hc]
      exact ⟨_, hx, rfl⟩
    · rename_i hc
      rw [if_neg hc]
      exact ih h
def sstep (ps : List (Int × Int)) (a : Option Rt) (r : Rt) : Option Rt := match a with
  | none => if usableR r ps = true then some r else none
  | some b => if usableR r ps = true ∧ lexc (rankL r ps) (rankL b ps) < 0 then some r else some b
def sel (ps : List (Int × Int)) (L : List Rt) : Option Rt := L.foldl (sstep ps) none
theorem pst_sel (ps : List (Int × Int)) (L : List Rt) : ∀ i, i ≤ L.length → (L.take i).foldl (sstep ps) none = if (pst ps L i).found = true then L[(pst ps L i).best]? else none
  | 0, _ => by simp [pst]
  | i + 1, hi => by
    have ih := pst_sel ps L i (by omega)
    have hx : L[i]? = some L[i] := List.getElem?_eq_getElem (by omega)
    have hv := pst_inv ps L i (by omega)
    rw [List.take_add_one, pst_succ hx, hx, List.foldl_append, ih]
    clear ih
    simp only [Option.toList_some, List.foldl_cons, List.foldl_nil]
    generalize pst ps L i = so at hv ⊢
    obtain ⟨be, fo, le⟩ := so
    generalize L[i] = x at hx ⊢
    cases fo with
    | false =>
      have e : pstep ps ⟨be, false, le⟩ i x = if usableR x ps = true then ⟨i, true, rankL x ps⟩ else ⟨be, false, le⟩ := by unfold pstep; simp
      rw [e]
      simp only [Bool.false_eq_true, if_false, sstep]
      by_cases hu : usableR x ps = true
      · rw [if_pos hu, if_pos hu]; exact hx.symm
      · rw [if_neg hu, if_neg hu]; rfl
    | true =>
      obtain ⟨r, h1, h2⟩ := hv rfl
      dsimp only at h1 h2
      subst h2
      have e : pstep ps ⟨be, true, rankL r ps⟩ i x = if usableR x ps = true ∧ lexc (rankL x ps) (rankL r ps) < 0 then ⟨i, true, rankL x ps⟩ else ⟨be, true, rankL r ps⟩ := by unfold pstep; simp
      rw [e]
      simp only [if_true, h1, sstep]
      by_cases hc : usableR x ps = true ∧ lexc (rankL x ps) (rankL r ps) < 0
      · rw [if_pos hc, if_pos hc]; exact hx.symm
      · rw [if_neg hc, if_neg hc]; exact h1.symm
theorem sel_pst (ps : List (Int × Int)) (L : List Rt) : sel ps L = if (pst ps L L.length).found = true then L[(pst ps L L.length).best]? else none := by
  have := pst_sel ps L L.length (Nat.le_refl _)
  rwa [List.take_length] at this
theorem sstep_some {ps : List (Int × Int)} {a : Option Rt} {x : Rt} (h : usableR x ps = true) : ∃ y, sstep ps a x = some y ∧ (y = x ∨ a = some y) := by
  cases a with
  | none => exact ⟨x, if_pos h, .inl rfl⟩
  | some b =>
    by_cases hc : usableR x ps = true ∧ lexc (rankL x ps) (rankL b ps) < 0
    · exact ⟨x, if_pos hc, .inl rfl⟩
    · exact ⟨b, if_neg hc, .inr rfl⟩
theorem sstep_un {ps : List (Int × Int)} {a : Option Rt} {x : Rt} (h : ¬ usableR x ps = true) : sstep ps a x = a := by
  cases a with
  | none => exact if_neg h
  | some b => exact if_neg fun g : usableR x ps = true ∧ lexc (rankL x ps) (rankL b ps) < 0 => h g.1
theorem fold_sel (ps : List (Int × Int)) : ∀ (L : List Rt) (a : Option Rt), (L.foldl (sstep ps) a = none ↔ a = none ∧ ∀ r ∈ L, ¬ usableR r ps = true) ∧ (∀ r, L.foldl (sstep ps) a = some r → a = some r ∨ r ∈ L)
  | [], a => ⟨by simp, fun r h => .inl h⟩
  | x :: L, a => by
    obtain ⟨h1, h2⟩ := fold_sel ps L (sstep ps a x)
    rw [List.foldl_cons]
    by_cases hu : usableR x ps = true
    · obtain ⟨y, hy, hc⟩ := sstep_some (a := a) hu
      refine ⟨?_, fun r hr => ?_⟩
      · rw [h1, hy]
        exact ⟨fun h => (by have := h.1; cases this), fun h => absurd hu (h.2 x (List.mem_cons_self ..))⟩
      · rcases h2 r hr with h | h
        · rw [hy] at h
          cases h
          rcases hc with rfl | h
          · exact .inr (List.mem_cons_self ..)
          · exact .inl h
        · exact .inr (List.mem_cons_of_mem _ h)
    · rw [sstep_un hu] at h1 h2 ⊢
      refine ⟨?_, fun r hr => (h2 r hr).imp id (List.mem_cons_of_mem _)⟩
      rw [h1]
      exact ⟨fun h => ⟨h.1, fun r hr => by
        rcases List.mem_cons.1 hr with rfl | hr
        · exact hu
        · exact h.2 r hr⟩, fun h => ⟨h.1, fun r hr => h.2 r (List.mem_cons_of_mem _ hr)⟩⟩
theorem sel_none {ps : List (Int × Int)} {L : List Rt} : sel ps L = none ↔ ∀ r ∈ L, ¬ usableR r ps = true := by
  have := (fold_sel ps L none).1
  exact this.trans ⟨fun h => h.2, fun h => ⟨rfl, h⟩⟩
theorem sel_mem {ps : List (Int × Int)} {L : List Rt} {r : Rt} (h : sel ps L = some r) : r ∈ L := by
  rcases (fold_sel ps L none).2 r h with h | h
  · cases h
  · exact h
/-! ### One for each key -/
def rkN (r : Rt) : Int := rkS (keyS r.n)
def grp (M : List Rt) (k : Int) : List Rt := M.filter fun x => decide (rkN x = k)
theorem grp_app (A B : List Rt) (k : Int) : grp (A ++ B) k = grp A k ++ grp B k := List.filter_append ..
theorem grp_cons_eq {x : Rt} {A : List Rt} {k : Int} (h : rkN x = k) : grp (x :: A) k = x :: grp A k := by unfold grp; rw [List.filter_cons, if_pos (by simp [h])]
theorem grp_cons_ne {x : Rt} {A : List Rt} {k : Int} (h : rkN x ≠ k) : grp (x :: A) k = grp A k := by unfold grp; rw [List.filter_cons, if_neg (by simp [h])]
theorem grp_none {A : List Rt} {k : Int} (h : ∀ x ∈ A, rkN x ≠ k) : grp A k = [] := List.filter_eq_nil_iff.2 fun x hx => by simp [h x hx]
theorem grp_all {A : List Rt} {k : Int} (h : ∀ x ∈ A, rkN x = k) : grp A k = A := List.filter_eq_self.2 fun x hx => by simp [h x hx]
theorem grp_mem {A : List Rt} {k : Int} {x : Rt} : x ∈ grp A k ↔ x ∈ A ∧ rkN x = k := by unfold grp; rw [List.mem_filter]; simp
structure SelOk (ps : List (Int × Int)) (M R : List Rt) : Prop where
  asc : R.Pairwise fun x y => rkN x < rkN y
  at' : ∀ k, grp R k = (sel ps (grp M k)).toList
theorem asc_uniq {α : Type} {key : α → Int} : ∀ {L L' : List α}, Asc key L → Asc key L' → Stb key L L' → L = L'
  | [], L', _, _, h => (List.eq_nil_of_length_eq_zero (by rw [h.length]; rfl)).symm
  | x :: t, [], _, _, h => by have := h.length; cases this
  | x :: t, y :: t', a, a', h => by
    have hx : x ∈ y :: t' := h.mem.2 (List.mem_cons_self ..)
    have hy : y ∈ x :: t := h.mem.1 (List.mem_cons_self ..)
    have k1 : key y ≤ key x := by
      rcases List.mem_cons.1 hx with rfl | hx
      · exact Int.le_refl _
      · exact (List.pairwise_cons.1 a').1 x hx
    have k2 : key x ≤ key y := by
      rcases List.mem_cons.1 hy with rfl | hy
      · exact Int.le_refl _
      · exact (List.pairwise_cons.1 a).1 y hy
    have e := h (key x)
    rw [List.filter_cons, List.filter_cons, if_pos (by simp; omega), if_pos (by simp)] at e
    obtain ⟨rfl, _⟩ := List.cons.inj e
    have ih := asc_uniq (List.pairwise_cons.1 a).2 (List.pairwise_cons.1 a').2 (fun k => by
      have e := h k
      rw [List.filter_cons, List.filter_cons] at e
      split at e
      · exact (List.cons.inj e).2
      · exact e)
    rw [ih]
theorem SelOk.uniq {ps : List (Int × Int)} {M R R' : List Rt} (h : SelOk ps M R) (h' : SelOk ps M R') : R = R' :=
  asc_uniq (key := rkN) (h.asc.imp Int.le_of_lt) (h'.asc.imp Int.le_of_lt) fun k => (h'.at' k).trans (h.at' k).symm
theorem SelOk.key {ps : List (Int × Int)} {M R : List Rt} (h : SelOk ps M R) {r : Rt} (hr : r ∈ R) : sel ps (grp M (rkN r)) = some r := by
  have h1 : r ∈ grp R (rkN r) := grp_mem.2 ⟨hr, rfl⟩
  rw [h.at'] at h1
  cases e : sel ps (grp M (rkN r)) with
  | none => rw [e] at h1; cases h1
  | some q => rw [e] at h1; rw [List.mem_singleton.1 h1]
theorem SelOk.sub {ps : List (Int × Int)} {M R : List Rt} (h : SelOk ps M R) {r : Rt} (hr : r ∈ R) : r ∈ M := (grp_mem.1 (sel_mem (h.key hr))).1
theorem SelOk.nil {ps : List (Int × Int)} : SelOk ps [] [] := ⟨List.Pairwise.nil, fun k => rfl⟩
/-- A group behind the others. -/
theorem SelOk.step {ps : List (Int × Int)} {D R G : List Rt} {k0 : Int} (h : SelOk ps D R) (hG : ∀ x ∈ G, rkN x = k0) (hD : ∀ x ∈ D, rkN x < k0) : SelOk ps (D ++ G) (R ++ (sel ps G).toList) := by
  have hs : ∀ x ∈ (sel ps G).toList, rkN x = k0 := fun x hx => hG x (sel_mem (Option.mem_toList.1 hx))
  refine ⟨List.pairwise_append.2 ⟨h.asc, ?_, fun x hx y hy => by rw [hs y hy]; exact hD x (h.sub hx)⟩, fun k => ?_⟩
  · cases sel ps G with
    | none => exact List.Pairwise.nil
    | some x => exact List.pairwise_singleton _ _
  · rw [grp_app, grp_app, h.at']
    by_cases hk : k = k0
    · subst hk
      have e1 : grp D k = [] := grp_none fun x hx => by have := hD x hx; omega
      rw [e1, grp_all hG, grp_all hs]
      rfl
    · rw [grp_none (A := (sel ps G).toList) fun x hx => by rw [hs x hx]; exact fun e => hk e.symm, grp_none (A := G) fun x hx => by rw [hG x hx]; exact fun e => hk e.symm, List.append_nil, List.append_nil]
theorem SelOk.stb {ps : List (Int × Int)} {M S R : List Rt} (h : SelOk ps S R) (hs : Stb rkN M S) : SelOk ps M R := ⟨h.asc, fun k => by rw [h.at' k]; unfold grp; rw [hs k]⟩
/-! ### The reference's way -/
def insR (ps : List (Int × Int)) (x : Rt) : List Rt → List Rt
  | [] => [x]
  | y :: l => if rkN y < rkN x then y :: insR ps x l else if rkN y = rkN x then (if lexc (rankL x ps) (rankL y ps) < 0 then x else y) :: l else x :: y :: l
theorem insR_mem {ps : List (Int × Int)} {x z : Rt} : ∀ {l : List Rt}, z ∈ insR ps x l → z = x ∨ z ∈ l
  | [], h => by rw [insR] at h; exact .inl (List.mem_singleton.1 h)
  | y :: l, h => by
    rw [insR] at h
    split at h
    · rcases List.mem_cons.1 h with rfl | h
      · exact .inr (List.mem_cons_self ..)
      · exact (insR_mem h).imp id (List.mem_cons_of_mem _)
    · split at h
      · rcases List.mem_cons.1 h with h | h
        · split at h
          · exact .inl h
          · rw [h]; exact .inr (List.mem_cons_self ..)
        · exact .inr (List.mem_cons_of_mem _ h)
      · rcases List.mem_cons.1 h with rfl | h
        · exact .inl rfl
        · exact .inr h
theorem insR_asc {ps : List (Int × Int)} {x : Rt} : ∀ {l : List Rt}, (l.Pairwise fun x y => rkN x < rkN y) → (insR ps x l).Pairwise fun x y => rkN x < rkN y
  | [], _ => by rw [insR]; exact List.pairwise_singleton _ _
  | y :: l, h => by
    obtain ⟨h1, h2⟩ := List.pairwise_cons.1 h
    rw [insR]
    split
    · rename_i hlt
      refine List.pairwise_cons.2 ⟨fun z hz => ?_, insR_asc h2⟩
      rcases insR_mem hz with rfl | hz
      · exact hlt
      · exact h1 z hz
    · split
      · rename_i he
        refine List.pairwise_cons.2 ⟨fun z hz => ?_, h2⟩
        have := h1 z hz
        split
        · omega
        · exact this
      · rename_i h3 h4
        refine List.pairwise_cons.2 ⟨fun z hz => ?_, h⟩
        rcases List.mem_cons.1 hz with rfl | hz
        · omega
        · have := h1 z hz; omega
theorem insR_grp {ps : List (Int × Int)} {x : Rt} (hu : usableR x ps = true) (k : Int) : ∀ {l : List Rt}, (l.Pairwise fun x y => rkN x < rkN y) → grp (insR ps x l) k = if rkN x = k then (sstep ps (grp l k).head? x).toList else grp l k
  | [], _ => by
    rw [insR]
    by_cases hk : rkN x = k
    · rw [if_pos hk, grp_cons_eq hk]
      show _ = (sstep ps none x).toList
      rw [show sstep ps none x = some x from if_pos hu]; rfl
    · rw [if_neg hk, grp_cons_ne hk]
  | y :: l, h => by
    obtain ⟨h1, h2⟩ := List.pairwise_cons.1 h
    have ih := insR_grp hu k h2
    rw [insR]
    split
    · rename_i hlt
      by_cases hk : rkN x = k
      · rw [if_pos hk] at ih ⊢
        rw [grp_cons_ne (by omega), grp_cons_ne (by omega), ih]
      · rw [if_neg hk] at ih ⊢
        by_cases hy : rkN y = k
        · rw [grp_cons_eq hy, grp_cons_eq hy, ih]
        · rw [grp_cons_ne hy, grp_cons_ne hy, ih]
    · split
      · rename_i he
        by_cases hk : rkN x = k
        · have hl : grp l k = [] := grp_none fun z hz => by have := h1 z hz; omega
          rw [if_pos hk, grp_cons_eq (by split <;> omega), grp_cons_eq (x := y) (by omega), hl]
          simp only [List.head?_cons, sstep]
          split
          · rename_i hb; rw [if_pos ⟨hu, hb⟩]; rfl
          · rename_i hb; rw [if_neg fun g => hb g.2]; rfl
        · rw [if_neg hk, grp_cons_ne (by split <;> omega), grp_cons_ne (x := y) (by omega)]
      · rename_i h3 h4
        by_cases hk : rkN x = k
        · have hl : grp (y :: l) k = [] := grp_none fun z hz => by
            rcases List.mem_cons.1 hz with rfl | hz
            · omega
            · have := h1 z hz; omega
          rw [if_pos hk, grp_cons_eq hk, hl]
          show _ = (sstep ps none x).toList
          rw [show sstep ps none x = some x from if_pos hu]; rfl
        · rw [if_neg hk, grp_cons_ne hk]
theorem SelOk.ins {ps : List (Int × Int)} {M R : List Rt} {x : Rt} (h : SelOk ps M R) (hu : usableR x ps = true) : SelOk ps (M ++ [x]) (insR ps x R) := by
  refine ⟨insR_asc h.asc, fun k => ?_⟩
  rw [insR_grp hu k h.asc, h.at', grp_app]
  have e : ∀ a : Option Rt, a.toList.head? = a := fun a => by cases a <;> rfl
  rw [e]
  by_cases hk : rkN x = k
  · rw [if_pos hk, grp_cons_eq hk]
    show _ = (List.foldl (sstep ps) none (grp M k ++ x :: [])).toList
    rw [List.foldl_append]; rfl
  · rw [if_neg hk, grp_cons_ne hk]
    show _ = (sel ps (grp M k ++ [])).toList
    rw [List.append_nil]
theorem SelOk.skip {ps : List (Int × Int)} {M R : List Rt} {x : Rt} (h : SelOk ps M R) (hu : ¬ usableR x ps = true) : SelOk ps (M ++ [x]) R := by
  refine ⟨h.asc, fun k => ?_⟩
  rw [h.at', grp_app]
  by_cases hk : rkN x = k
  · rw [grp_cons_eq hk]
    show _ = (List.foldl (sstep ps) none (grp M k ++ x :: [])).toList
    rw [List.foldl_append]
    show _ = (sstep ps (sel ps (grp M k)) x).toList
    rw [sstep_un hu]
  · rw [grp_cons_ne hk]
    show _ = (sel ps (grp M k ++ [])).toList
    rw [List.append_nil]
/-- Where it is put. -/
theorem insR_at {ps : List (Int × Int)} {x : Rt} : ∀ {l : List Rt} {k : Nat}, k ≤ l.length → (∀ (j : Nat) y, l[j]? = some y → j < k → rkN y < rkN x) → (∀ y, l[k]? = some y → rkN x ≤ rkN y) →
    insR ps x l = match l[k]? with
      | none => l.take k ++ ([x] ++ l.drop k)
      | some y => if rkN y = rkN x then (if lexc (rankL x ps) (rankL y ps) < 0 then l.set k x else l) else l.take k ++ ([x] ++ l.drop k)
  | [], k, hk, _, _ => by
    obtain rfl : k = 0 := by simpa using hk
    rfl
  | y :: l, 0, _, _, hy => by
    have := hy y rfl
    rw [insR, if_neg (by omega)]
    simp only [List.getElem?_cons_zero, List.take_zero, List.drop_zero, List.set_cons_zero]
    split
    · split <;> rfl
    · rfl
  | y :: l, k + 1, hk, hb, ha => by
    have h0 := hb 0 y rfl (Nat.succ_pos _)
    have ih := insR_at (ps := ps) (x := x) (l := l) (k := k) (by simpa using hk) (fun j z hj hlt => hb (j + 1) z (by simpa using hj) (by omega)) (fun z hz => ha z (by simpa using hz))
    rw [insR, if_pos h0, ih]
    simp only [List.getElem?_cons_succ, List.take_succ_cons, List.drop_succ_cons, List.set_cons_succ]
    cases l[k]? with
    | none => rfl
    | some z =>
      simp only
      split
      · split <;> rfl
      · rfl
end Go.Proofs.Ythcohphflhkceaa.Abs

/- The reference's metric, rank, Compare, Usable. -/
namespace Go.Proofs.Ythcohphflhkceaa.Abs
open Go
set_option linter.unusedVariables false
section
variable {B0 : Nat} {old : Nat → Option (List Value)} {n : Nat} {H : Hp} {Q : Value → Hp → Prop} {ad : Option Addr} {cap : Nat} {L : List (Int × Int)}
set_option maxRecDepth 10000
set_option maxHeartbeats 8000000
theorem metric43_ct (ip : Int) (harr : Arr (cx B0 old) H ad 2 encH L) (hlen : L.length ≤ 100000) (h : Q (.tuple #[.int .i64 ((assoc (mets L) ip).getD maxI), .bool (assoc (mets L) ip).isSome]) H) :
    CallT (cx B0 old) (acall (cx B0 old) ansP (n + 1)) 43 [.int .u32 ip, .slice ad L.length cap] H Q := by
  rw [assoc_mets] at h
  refine call_in2 33 rfl Try.func43 rfl rfl ?_
  repeat (refine ZX ?_; try with_reducible intro _)
  refine loop_ind (ι := Nat) 0 (fun i => L.length - i) (fun i => i ≤ L.length ∧ fm (L.take i) ip = none) (fun i => [(6, .int .i64 (i : Int)), (0, .int .u32 ip), (1, .slice ad L.length cap)]) (fun _ => H) ⟨Nat.zero_le _, rfl⟩ (by repeat (first | exact SubL.nil | refine SubL.cons rfl ?_)) (by exact drop_auto) ?_
  rintro i ⟨hi, hn⟩
  repeat (refine ZX ?_; try with_reducible intro _)
  refine ct_condT te_d rfl (fun hlt => ?_) (fun hlt => ?_)
  rotate_left
  · obtain rfl : i = L.length := by omega
    rw [List.take_length] at hn
    rw [hn] at h
    repeat (refine ZX ?_; try with_reducible intro _)
    exact re_2 rfl rfl rfl (by exact drop_auto) h
  obtain ⟨p, hp⟩ : ∃ p, L[i]? = some p := ⟨_, List.getElem?_eq_getElem (by omega)⟩
  obtain ⟨k1, k2⟩ := fm_take hp hn
  obtain ⟨b1, o1, e1, hL0⟩ := harr.ldF 27 0 hp rfl rfl rfl (sz rfl)
  obtain ⟨b2, o2, e2, hL1⟩ := harr.ldF 3 1 hp rfl rfl rfl (sz rfl)
  subst e1
  cases e2
  have hstep : ¬ (ip = p.1 ∧ 0 ≤ p.2) → i + 1 ≤ L.length ∧ fm (L.take (i + 1)) ip = none := fun g => ⟨by omega, k2 g⟩
  repeat (refine ZX ?_; try with_reducible intro _)
  by_cases hx : p.1 = ip
  · rw [show (p.1 == ip) = true from beq_iff_eq.2 hx]
    repeat (refine ZX ?_; try with_reducible intro _)
    refine ct_condT te_d rfl (fun h0 => ?_) (fun h0 => ?_)
    · rw [k1 ⟨hx.symm, h0⟩] at h
      repeat (refine ZX ?_; try with_reducible intro _)
      exact re_2 rfl rfl rfl (by exact drop_auto) h
    · repeat (refine ZX ?_; try with_reducible intro _)
      exact ⟨i + 1, hstep fun g => h0 g.2, by omega, by repeat (first | exact SubL.nil | refine SubL.cons rfl ?_), by exact drop_auto⟩
  · rw [show (p.1 == ip) = false from beq_eq_false_iff_ne.2 hx]
    repeat (refine ZX ?_; try with_reducible intro _)
    exact ⟨i + 1, hstep fun g => hx g.1.symm, by omega, by repeat (first | exact SubL.nil | refine SubL.cons rfl ?_), by exact drop_auto⟩
theorem boolean68_ct (t : Bool) (h : Q (.int .i64 (if t then 1 else 0)) H) : CallT (cx B0 old) (acall (cx B0 old) ansP (n + 1)) 68 [.bool t] H Q := by
  refine call_in1 4 rfl Try.func68 rfl rfl ?_
  cases t with
  | true =>
    repeat (refine ZX ?_; try with_reducible intro _)
    exact re_1 rfl rfl (by exact drop_auto) h
  | false =>
    repeat (refine ZX ?_; try with_reducible intro _)
    exact re_1 rfl rfl (by exact drop_auto) h
theorem rank42_ct (x : Rw) (hr : x.r.WF) (harr : Arr (cx B0 old) H ad 2 encH L) (hlen : L.length ≤ 100000)
    (h : ∀ b, Q (.slice (some ⟨b, 0, none⟩) 10 10) ((b, .row ((rankL x.r (mets L)).map (Value.int .i64)) 1 false) :: H)) :
    CallT (cx B0 old) (acall (cx B0 old) ansP (n + 2)) 42 [.agg ⟨enW x⟩, .slice ad L.length cap] H Q := by
  refine call_in2 71 rfl Try.func42 rfl rfl ?_
  have hp := hr.peer
  have hpr := hr.pref
  have hme := hr.med
  have hor := hr.orig
  have ep : IntKind.i64.wrap x.r.peer = x.r.peer := IntWalk.i64_in _ (by omega)
  have e2 : IntKind.i64.wrap x.r.a.med = x.r.a.med := IntWalk.i64_in _ (by omega)
  have e3 : IntKind.i64.wrap x.r.a.pref = x.r.a.pref := IntWalk.i64_in _ (by omega)
  have e0 : IntKind.i64.wrap (0 - (if x.r.a.hp then x.r.a.pref else 100)) = if x.r.a.hp then - x.r.a.pref else -100 := by
    split
    · rw [IntWalk.i64_in _ (by omega)]; omega
    · rfl
  have e4 : IntKind.i64.wrap (if x.r.a.hor then x.r.a.orig else x.r.peer) = if x.r.a.hor then x.r.a.orig else x.r.peer := by
    split <;> exact IntWalk.i64_in _ (by omega)
  repeat (refine ZX ?_; try with_reducible intro _)
  rename_i bR
  refine ct_draw (masks := [0, 1, 0, 4, 15]) (plan := [0, 1, 2, 3, 4]) (E := []) (by kernel_rfl) (by kernel_rfl) (by kernel_rfl) (by kernel_rfl) ?_
  repeat (refine YX ?_)
  repeat (refine ZX ?_; try with_reducible intro _)
  refine ct_mid [(5, .int .i64 (if x.r.a.hp then x.r.a.pref else 100)), (6, .int .i64 0), (7, .int .u32 x.r.peer), (2, .pointer (some ⟨bR, 0, none⟩)), (1, .slice ad L.length cap)] ((bR, .row (enW x) 38 false) :: H) ?_ ?_
  · refine ct_cond rfl (fun h1 => ?_) (fun h1 => ?_)
    · rw [h1]
      repeat (refine ZX ?_; try with_reducible intro _)
      rw [e3]
      exact ⟨by repeat (first | exact SubL.nil | refine SubL.cons rfl ?_), by exact drop_auto⟩
    · rw [h1]
      repeat (refine ZX ?_; try with_reducible intro _)
      exact ⟨by repeat (first | exact SubL.nil | refine SubL.cons rfl ?_), by exact drop_auto⟩
  repeat (refine ZX ?_; try with_reducible intro _)
  refine ct_mid [(5, .int .i64 (if x.r.a.hp then x.r.a.pref else 100)), (6, .int .i64 (if x.r.a.hm then x.r.a.med else 0)), (7, .int .u32 x.r.peer), (2, .pointer (some ⟨bR, 0, none⟩)), (1, .slice ad L.length cap)] ((bR, .row (enW x) 38 false) :: H) ?_ ?_
  · refine ct_cond rfl (fun h1 => ?_) (fun h1 => ?_)
    · rw [h1]
      repeat (refine ZX ?_; try with_reducible intro _)
      rw [e2]
      exact ⟨by repeat (first | exact SubL.nil | refine SubL.cons rfl ?_), by exact drop_auto⟩
    · rw [h1]
      repeat (refine ZX ?_; try with_reducible intro _)
      exact ⟨by repeat (first | exact SubL.nil | refine SubL.cons rfl ?_), by exact drop_auto⟩
  repeat (refine ZX ?_; try with_reducible intro _)
  refine ct_mid [(5, .int .i64 (if x.r.a.hp then x.r.a.pref else 100)), (6, .int .i64 (if x.r.a.hm then x.r.a.med else 0)), (7, .int .u32 (if x.r.a.hor then x.r.a.orig else x.r.peer)), (2, .pointer (some ⟨bR, 0, none⟩)), (1, .slice ad L.length cap)] ((bR, .row (enW x) 38 false) :: H) ?_ ?_
  · refine ct_cond rfl (fun h1 => ?_) (fun h1 => ?_)
    · rw [h1]
      repeat (refine ZX ?_; try with_reducible intro _)
      exact ⟨by repeat (first | exact SubL.nil | refine SubL.cons rfl ?_), by exact drop_auto⟩
    · rw [h1]
      repeat (refine ZX ?_; try with_reducible intro _)
      exact ⟨by repeat (first | exact SubL.nil | refine SubL.cons rfl ?_), by exact drop_auto⟩
  repeat (refine ZX ?_; try with_reducible intro _)
  refine rt_step rfl rfl rfl (st_call rfl rfl rfl rfl (metric43_ct (n := n) x.r.a.next (harr.weak (by exact drop_auto)) hlen ?_))
  repeat (refine ZX ?_; try with_reducible intro _)
  refine ct_mid [(8, .int .i64 (if x.r.peer = 0 then 0 else (assoc (mets L) x.r.a.next).getD maxI)), (5, .int .i64 (if x.r.a.hp then x.r.a.pref else 100)), (6, .int .i64 (if x.r.a.hm then x.r.a.med else 0)), (7, .int .u32 (if x.r.a.hor then x.r.a.orig else x.r.peer)), (2, .pointer (some ⟨bR, 0, none⟩))] ((bR, .row (enW x) 38 false) :: H) ?_ ?_
  · refine ct_condT te_e rfl (fun h1 => ?_) (fun h1 => ?_)
    · rw [if_pos h1]
      repeat (refine ZX ?_; try with_reducible intro _)
      exact ⟨by repeat (first | exact SubL.nil | refine SubL.cons rfl ?_), by exact drop_auto⟩
    · rw [if_neg h1]
      repeat (refine ZX ?_; try with_reducible intro _)
      exact ⟨by repeat (first | exact SubL.nil | refine SubL.cons rfl ?_), by exact drop_auto⟩
  have hb2 : ∀ {H1 : Hp} {Θ : Value → Hp → Prop}, Θ (.int .i64 (if x.r.peer = 0 then 0 else 1)) H1 → CallT (cx B0 old) (acall (cx B0 old) ansP (n + 1)) 68 [.bool (x.r.peer != 0)] H1 Θ := fun g => boolean68_ct _ (by
    by_cases h0 : x.r.peer = 0
    · rw [if_pos h0] at g; rw [show (x.r.peer != 0) = false by rw [h0]; rfl]; exact g
    · rw [if_neg h0] at g; rw [show (x.r.peer != 0) = true from bne_iff_ne.2 h0]; exact g)
  repeat (refine ZX ?_; try with_reducible intro _)
  refine ct_draw (masks := [0, 1, 3, 0, 8, 0, 32, 96, 224, 0, 512, 1536, 0, 0, 8192, 24576, 57351, 0, 0, 262144, 786432, 1835008, 0, 4194304, 0, 16777216, 50331648, 134217727, 268435455]) (plan := [0, 1, 3, 4, 5, 6, 7, 8, 9, 10, 11, 12, 13, 14, 15, 17, 18, 19, 20, 21, 22, 23, 24, 25, 26, 2, 16, 27, 28]) (E := []) (by kernel_rfl) (by kernel_rfl) (by kernel_rfl) (by kernel_rfl) ?_
  repeat (refine YX ?_)
  refine pl_S rfl rfl rfl rfl rfl rfl (st_call rfl rfl rfl rfl (boolean68_ct x.r.stale ⟨by exact rec_auto, ?_⟩))
  repeat (refine YX ?_)
  refine pl_S rfl rfl rfl rfl rfl rfl (st_call rfl rfl rfl rfl (hb2 ⟨by exact rec_auto, ?_⟩))
  repeat (refine YX ?_)
  rw [e0, e4, ep]
  refine pl_S rfl rfl rfl rfl rfl rfl (st_buildSlice rfl (zr rfl) rfl rfl rfl rfl rfl rfl fun b0 => ⟨by exact rec_auto, ?_⟩)
  repeat (refine YX ?_)
  repeat (refine ZX ?_; try with_reducible intro _)
  exact re_1 rfl rfl (by exact drop_auto) (h b0)
theorem Usable24_ct (x : Rw) (harr : Arr (cx B0 old) H ad 2 encH L) (hlen : L.length ≤ 100000) (h : Q (.bool (usableR x.r (mets L))) H) :
    CallT (cx B0 old) (acall (cx B0 old) ansP (n + 2)) 24 [.agg ⟨enW x⟩, .slice ad L.length cap] H Q := by
  refine call_in2 21 rfl Try.func24 rfl rfl ?_
  unfold enW enR
  repeat (refine ZX ?_; try with_reducible intro _)
  refine rt_step rfl rfl rfl (st_call rfl rfl rfl rfl (metric43_ct (n := n) x.r.a.next (harr.weak (by exact drop_auto)) hlen ?_))
  repeat (refine ZX ?_; try with_reducible intro _)
  by_cases h0 : x.r.peer = 0
  · have e : usableR x.r (mets L) = true := by unfold usableR; rw [h0]; simp
    rw [e] at h
    rw [show (x.r.peer == 0) = true from beq_iff_eq.2 h0]
    repeat (refine ZX ?_; try with_reducible intro _)
    exact re_1 rfl rfl (by exact drop_auto) h
  · have e : usableR x.r (mets L) = (assoc (mets L) x.r.a.next).isSome := by unfold usableR; rw [show (x.r.peer == 0) = false from beq_eq_false_iff_ne.2 h0]; simp
    rw [e] at h
    rw [show (x.r.peer == 0) = false from beq_eq_false_iff_ne.2 h0]
    repeat (refine ZX ?_; try with_reducible intro _)
    exact re_1 rfl rfl (by exact drop_auto) h
theorem Compare23_ct (x y : Rw) (hx : x.r.WF) (hy : y.r.WF) (harr : Arr (cx B0 old) H ad 2 encH L) (hlen : L.length ≤ 100000) (h : Q (.int .i64 (cmpR x.r y.r L)) H) :
    CallT (cx B0 old) (acall (cx B0 old) ansP (n + 3)) 23 [.agg ⟨enW x⟩, .agg ⟨enW y⟩, .slice ad L.length cap] H Q := by
  refine call_in3 40 rfl Try.func23 rfl rfl ?_
  repeat (refine ZX ?_; try with_reducible intro _)
  refine ct_draw (masks := [0, 0, 3, 0, 0, 31, 63, 127]) (plan := [0, 1, 3, 4, 2, 5, 6, 7]) (E := []) (by kernel_rfl) (by kernel_rfl) (by kernel_rfl) (by kernel_rfl) ?_
  repeat (refine YX ?_)
  refine pl_S rfl rfl rfl rfl rfl rfl (st_call rfl rfl rfl rfl (rank42_ct (n := n) x hx (harr.weak (by exact drop_auto)) hlen fun b1 => ⟨by exact rec_auto, ?_⟩))
  repeat (refine YX ?_)
  refine pl_S rfl rfl rfl rfl rfl rfl (st_call rfl rfl rfl rfl (rank42_ct (n := n) y hy (harr.weak (by exact drop_auto)) hlen fun b2 => ⟨by exact rec_auto, ?_⟩))
  repeat (refine YX ?_)
  repeat (refine ZX ?_; try with_reducible intro _)
  unfold cmpR at h
  have ha := rankL_length x.r (mets L)
  have hb := rankL_length y.r (mets L)
  generalize rankL x.r (mets L) = a at *
  generalize rankL y.r (mets L) = b at *
  refine loop_ind (ι := Nat) 0 (fun i => 10 - i) (fun i => i ≤ 10 ∧ lexc a b = lexc (a.drop i) (b.drop i)) (fun i => [(9, .int .i64 (i : Int)), (7, .slice (some ⟨b1, 0, none⟩) 10 10), (8, .slice (some ⟨b2, 0, none⟩) 10 10)])
    (fun i => (b2, .row (b.map (Value.int .i64)) 1 false) :: (b1, .row (a.map (Value.int .i64)) 1 false) :: H) ⟨Nat.zero_le _, rfl⟩ (by repeat (first | exact SubL.nil | refine SubL.cons rfl ?_)) (by exact drop_auto) ?_
  rintro i ⟨hi, hlex⟩
  repeat (refine ZX ?_; try with_reducible intro _)
  refine ct_condT te_d rfl (fun hlt => ?_) (fun hlt => ?_)
  rotate_left
  · obtain rfl : i = 10 := by omega
    rw [hlex, List.drop_eq_nil_of_le (by omega), List.drop_eq_nil_of_le (by omega)] at h
    repeat (refine ZX ?_; try with_reducible intro _)
    exact re_1 rfl rfl (by exact drop_auto) h
  have ga : (a.map (Value.int .i64))[i]? = some (.int .i64 (a[i]'(by omega))) := by rw [List.getElem?_map, List.getElem?_eq_getElem (by omega)]; rfl
  have gb : (b.map (Value.int .i64))[i]? = some (.int .i64 (b[i]'(by omega))) := by rw [List.getElem?_map, List.getElem?_eq_getElem (by omega)]; rfl
  have hl2 : lexc a b = if a[i]'(by omega) < b[i]'(by omega) then -1 else if a[i]'(by omega) > b[i]'(by omega) then 1 else lexc (a.drop (i + 1)) (b.drop (i + 1)) := by
    rw [hlex, List.drop_eq_getElem_cons (by omega : i < a.length), List.drop_eq_getElem_cons (by omega : i < b.length)]; rfl
  generalize a[i]'(by omega) = u at ga hl2
  generalize b[i]'(by omega) = w at gb hl2
  have hL0 : ∀ H', (((b2, .row (b.map (Value.int .i64)) 1 false) :: (b1, .row (a.map (Value.int .i64)) 1 false) :: H) : Hp).Sublist H' → LdT (cx B0 old) 3 H' b1 (0 + (i : Int).toNat * 1) (.int .i64 u) := fun H' hs => ld1 ((RowIs.own _ _ (List.Mem.tail _ (List.Mem.head _))).weak hs) rfl (sz rfl) (by rw [show 0 + (i : Int).toNat * 1 = i by omega]; exact ga)
  have hL1 : ∀ H', (((b2, .row (b.map (Value.int .i64)) 1 false) :: (b1, .row (a.map (Value.int .i64)) 1 false) :: H) : Hp).Sublist H' → LdT (cx B0 old) 3 H' b2 (0 + (i : Int).toNat * 1) (.int .i64 w) := fun H' hs => ld1 ((RowIs.own _ _ (List.Mem.head _)).weak hs) rfl (sz rfl) (by rw [show 0 + (i : Int).toNat * 1 = i by omega]; exact gb)
  repeat (refine ZX ?_; try with_reducible intro _)
  refine ct_draw (masks := [0, 0, 3, 7, 0, 0, 48, 112, 255]) (plan := [0, 1, 2, 3, 4, 5, 6, 7, 8]) (E := []) (by kernel_rfl) (by kernel_rfl) (by kernel_rfl) (by kernel_rfl) ?_
  repeat (refine YX ?_)
  repeat (refine ZX ?_; try with_reducible intro _)
  refine ct_condT te_d rfl (fun h1 => ?_) (fun h1 => ?_)
  · rw [hl2, if_pos h1] at h
    repeat (refine ZX ?_; try with_reducible intro _)
    exact re_1 rfl rfl (by exact drop_auto) h
  rw [if_neg h1] at hl2
  repeat (refine ZX ?_; try with_reducible intro _)
  refine ct_draw (masks := [0, 0, 3, 7, 0, 0, 48, 112, 255]) (plan := [0, 1, 2, 3, 4, 5, 6, 7, 8]) (E := []) (by kernel_rfl) (by kernel_rfl) (by kernel_rfl) (by kernel_rfl) ?_
  repeat (refine YX ?_)
  repeat (refine ZX ?_; try with_reducible intro _)
  refine ct_condT te_d rfl (fun h2 => ?_) (fun h2 => ?_)
  · rw [hl2, if_pos h2] at h
    repeat (refine ZX ?_; try with_reducible intro _)
    exact re_1 rfl rfl (by exact drop_auto) h
  rw [if_neg h2] at hl2
  repeat (refine ZX ?_; try with_reducible intro _)
  exact ⟨i + 1, ⟨by omega, hl2⟩, by omega, by repeat (first | exact SubL.nil | refine SubL.cons rfl ?_), by exact drop_auto⟩
end
end Go.Proofs.Ythcohphflhkceaa.Abs

/- The reference's Pick. -/
namespace Go.Proofs.Ythcohphflhkceaa.Abs
open Go
set_option linter.unusedVariables false
section
variable {B0 : Nat} {old : Nat → Option (List Value)} {n : Nat} {H : Hp} {Q : Value → Hp → Prop} {ad ad2 : Option Addr} {cap cap2 : Nat} {R : List (Int × Int)}
set_option maxRecDepth 10000
set_option maxHeartbeats 8000000
theorem Pick20_ct (L : List Rw) (hwf : ∀ x ∈ L, x.r.WF) (harr : Arr (cx B0 old) H ad 38 enW L) (hlen : L.length ≤ 100000) (harr2 : Arr (cx B0 old) H ad2 2 encH R) (hlen2 : R.length ≤ 100000)
    (h : Q (.tuple #[.int .i64 (pst (mets R) (L.map (·.r)) L.length).best, .bool (pst (mets R) (L.map (·.r)) L.length).found]) H) :
    CallT (cx B0 old) (acall (cx B0 old) ansP (n + 4)) 20 [.slice ad L.length cap, .slice ad2 R.length cap2] H Q := by
  refine call_in2 41 rfl Try.func20 rfl rfl ?_
  repeat (refine ZX ?_; try with_reducible intro _)
  refine loop_ind (ι := Nat) 0 (fun i => L.length - i) (fun i => i ≤ L.length) (fun i => [(8, .int .i64 (i : Int)), (0, .slice ad L.length cap), (1, .slice ad2 R.length cap2), (6, .int .i64 (pst (mets R) (L.map (·.r)) i).best), (7, .bool (pst (mets R) (L.map (·.r)) i).found)])
    (fun i => H) (Nat.zero_le _) (by repeat (first | exact SubL.nil | refine SubL.cons rfl ?_)) (List.Sublist.refl _) ?_
  intro i hi
  repeat (refine ZX ?_; try with_reducible intro _)
  refine ct_condT te_d rfl (fun hlt => ?_) (fun hlt => ?_)
  rotate_left
  · obtain rfl : i = L.length := by omega
    repeat (refine ZX ?_; try with_reducible intro _)
    exact re_2 rfl rfl rfl (by exact drop_auto) h
  obtain ⟨x, hx⟩ : ∃ x, L[i]? = some x := ⟨_, List.getElem?_eq_getElem (by omega)⟩
  have hxr : (L.map (·.r))[i]? = some x.r := by rw [List.getElem?_map, hx]; rfl
  have hst := pst_succ (ps := mets R) hxr
  have hin := pst_inv (mets R) (L.map (·.r)) i (by rw [List.length_map]; exact hi)
  have hxw := hwf x (List.mem_of_getElem? hx)
  obtain ⟨b1, o1, rfl, hL0⟩ := harr.ldW 40 hx rfl (sz rfl)
  generalize pst (mets R) (L.map (·.r)) i = so at hst hin ⊢
  obtain ⟨be, fo, le⟩ := so
  dsimp only at hin ⊢
  repeat (refine ZX ?_; try with_reducible intro _)
  refine ct_draw (masks := [0, 0, 3, 7, 0, 31, 63, 127, 255, 511, 1023, 1023, 4095, 8191, 1023, 1023, 50175, 115711, 1023, 524287, 1048575, 2097151, 4194303]) (plan := [0, 1, 2, 3, 4, 5, 6, 7, 8, 9, 10, 11, 12, 13, 14, 15, 16, 17, 18, 19, 20, 21, 22]) (E := []) (by kernel_rfl) (by kernel_rfl) (by kernel_rfl) (by kernel_rfl) ?_
  repeat (refine YX ?_)
  refine pl_S rfl rfl rfl rfl rfl rfl (st_call rfl rfl rfl rfl (Usable24_ct x harr2 hlen2 ⟨by exact rec_auto, ?_⟩))
  cases hu : usableR x.r (mets R) with
  | false =>
    have hs2 : pst (mets R) (L.map (·.r)) (i + 1) = ⟨be, fo, le⟩ := by rw [hst]; unfold pstep; rw [if_neg (by rw [hu]; simp)]
    repeat (refine YX ?_)
    repeat (refine ZX ?_; try with_reducible intro _)
    exact ⟨i + 1, by omega, by omega, by rw [hs2]; repeat (first | exact SubL.nil | refine SubL.cons rfl ?_), by exact drop_auto⟩
  | true =>
    cases fo with
    | false =>
      have hs2 : pst (mets R) (L.map (·.r)) (i + 1) = ⟨i, true, rankL x.r (mets R)⟩ := by rw [hst]; unfold pstep; rw [if_pos ⟨hu, .inl rfl⟩]
      repeat (refine YX ?_)
      repeat (refine ZX ?_; try with_reducible intro _)
      exact ⟨i + 1, by omega, by omega, by rw [hs2]; repeat (first | exact SubL.nil | refine SubL.cons rfl ?_), by exact drop_auto⟩
    | true =>
      obtain ⟨r', hr1, hr2⟩ := hin rfl
      subst hr2
      rw [List.getElem?_map] at hr1
      obtain ⟨z, hz, rfl⟩ := Option.map_eq_some_iff.1 hr1
      have hbl := (List.getElem?_eq_some_iff.1 hz).1
      obtain ⟨b2, o2, e2, hL1⟩ := harr.ldW 40 hz rfl (sz rfl)
      cases e2
      repeat (refine YX ?_)
      refine pl_S rfl rfl rfl rfl rfl rfl (st_call rfl rfl rfl rfl (Compare23_ct (n := n) x z hxw (hwf z (List.mem_of_getElem? hz)) harr2 hlen2 ⟨by exact rec_auto, ?_⟩))
      repeat (refine YX ?_)
      repeat (refine ZX ?_; try with_reducible intro _)
      unfold cmpR
      refine ct_condT te_d rfl (fun h3 => ?_) (fun h3 => ?_)
      · have hs2 : pst (mets R) (L.map (·.r)) (i + 1) = ⟨i, true, rankL x.r (mets R)⟩ := by rw [hst]; unfold pstep; rw [if_pos ⟨hu, .inr h3⟩]
        repeat (refine ZX ?_; try with_reducible intro _)
        exact ⟨i + 1, by omega, by omega, by rw [hs2]; repeat (first | exact SubL.nil | refine SubL.cons rfl ?_), by exact drop_auto⟩
      · have hs2 : pst (mets R) (L.map (·.r)) (i + 1) = ⟨be, true, rankL z.r (mets R)⟩ := by rw [hst]; unfold pstep; rw [if_neg (by intro ⟨_, h5⟩; rcases h5 with h5 | h5; exact absurd h5 (by simp); exact absurd h5 h3)]
        repeat (refine ZX ?_; try with_reducible intro _)
        exact ⟨i + 1, by omega, by omega, by rw [hs2]; repeat (first | exact SubL.nil | refine SubL.cons rfl ?_), by exact drop_auto⟩
end
end Go.Proofs.Ythcohphflhkceaa.Abs

/- Lists of routes in memory: parts of an element; slices whose ends can be taken. -/
namespace Go.Proofs.Ythcohphflhkceaa.Abs
open Go
set_option linter.unusedVariables false
theorem cut_part {cs r q : List Value} {o n f m : Nat} (h : cut cs o n = some r) (h2 : cut r f m = some q) (hm : 0 < m) : cut cs (o + f) m = some q :=
  cut_of (cut_size h2) fun j hj => by
    haveI : Tok := ⟨fun _ => none⟩
    have h3 := cut_len h2 hm
    have h4 := cut_size h
    rw [cut_get h2 hj, cut_get h (j := f + j) (by omega), Nat.add_assoc]
section
variable {C : Ctx} {H : Hp} {b o : Nat} {L : List Rw} {j : Nat} {x : Rw}
/-- The parts of an element of a list of routes. -/
theorem Arr.rn (h : Arr C H (some ⟨b, o, none⟩) 38 enW L) (hx : L[j]? = some x) (hg1 : aggAt C 31 = some true) (hn1 : sizeAt C 31 = some 21) :
    (∀ H', H.Sublist H' → ∀ {off : Nat} (h : off = o + j * 38 := by omega), LdT C 31 H' b off (.agg ⟨en60 x.r.n⟩)) ∧ True := by
  obtain ⟨b1, o1, cs1, e1, hrow, hcut⟩ := h.els j x hx
  cases e1
  refine ⟨fun H' hs off h => ?_, trivial⟩
  rw [h]; exact ldP (hrow.weak hs) hg1 hn1 (cut_part (f := 0) hcut rfl (by decide))
theorem Arr.rw' (h : Arr C H (some ⟨b, o, none⟩) 38 enW L) (hx : L[j]? = some x) (hg3 : aggAt C 40 = some true) (hn3 : sizeAt C 40 = some 38) :
    (∀ H', H.Sublist H' → ∀ {off : Nat} (h : off = o + j * 38 := by omega), LdT C 40 H' b off (.agg ⟨enW x⟩)) ∧ True := by
  obtain ⟨b1, o1, cs1, e1, hrow, hcut⟩ := h.els j x hx
  cases e1
  refine ⟨fun H' hs off h => ?_, trivial⟩
  rw [h]; exact ldP (hrow.weak hs) hg3 hn3 hcut
end
section
variable {α : Type} {C : Ctx} {H H' : Hp} {en : α → List Value} {k : Nat} {L : List α} {v : Value}
/-- A slice with the elements L, whose parts can be taken again and again. -/
inductive TlV (C : Ctx) (H : Hp) (en : α → List Value) (k : Nat) : List α → Value → Prop
  | nil (ad : Option Addr) (c : Nat) : TlV C H en k [] (.slice ad 0 c)
  | el (L : List α) (b o : Nat) (h : ArrW C H (some ⟨b, o, none⟩) k en L) : TlV C H en k L (.slice (some ⟨b, o, none⟩) L.length (EL + k))
  | fix (L : List α) (b o c : Nat) (h : ArrW C H (some ⟨b, o, none⟩) k en L) (h1 : L.length ≤ c) (h2 : c < EL) : TlV C H en k L (.slice (some ⟨b, o, none⟩) L.length c)
theorem TlV.weak (h : TlV C H en k L v) (hs : H.Sublist H') : TlV C H' en k L v := by
  cases h with
  | nil ad c => exact .nil ad c
  | el L b o h => exact .el _ b o (h.weak hs)
  | fix L b o c h h1 h2 => exact .fix _ b o c (h.weak hs) h1 h2
theorem TlV.arr (h : TlV C H en k L v) : ∃ ad c, v = .slice ad L.length c ∧ ArrW C H ad k en L := by
  cases h with
  | nil ad c => exact ⟨ad, c, rfl, .nil⟩
  | el L b o h => exact ⟨_, _, rfl, h⟩
  | fix L b o c h h1 h2 => exact ⟨_, _, rfl, h⟩
theorem TlV.arr' (h : TlV C H en k L v) (hne : L ≠ []) : ∃ b o c, v = .slice (some ⟨b, o, none⟩) L.length c ∧ ArrW C H (some ⟨b, o, none⟩) k en L := by
  cases h with
  | nil ad c => exact absurd rfl hne
  | el L b o h => exact ⟨b, o, _, rfl, h⟩
  | fix L b o c h h1 h2 => exact ⟨b, o, _, rfl, h⟩
theorem Own.tl {pre Hs H0 : Hp} (h : Own en k L v Hs) (hl : ∀ x, (en x).length = k) : TlV C (pre ++ (Hs ++ H0)) en k L v := by
  obtain ⟨ad, c, e, hw⟩ := h.arrW (C := C) hl
  have hw := hw pre H0
  cases h with
  | nil => exact .nil none 0
  | emp b o => exact .nil _ 0
  | el _ b es junk => cases e; exact .el _ b 0 hw
  | fix _ b es hL => cases e; exact .fix _ b 0 _ hw (Nat.le_refl _) hL
theorem TlV.pre {t e : TypeId} {hi : Option Value} {q : Nat} (h : TlV C H en k L v) (hl : ∀ x, (en x).length = k) (hne : L ≠ []) (hu : C.P.underlying t = some (.slice e)) (hn : sizeAt C e = some k) (hq : q ≤ L.length) (h6 : hi.bind natOf = some q) :
    ∃ ad c, aslice C t v none hi none = some (.slice ad (L.take q).length c) ∧ ArrW C H ad k en (L.take q) := by
  have hlen : (L.take q).length = q := by rw [List.length_take]; omega
  rw [hlen]
  cases h with
  | nil ad c => exact absurd rfl hne
  | el L b o h =>
    refine ⟨some ⟨b, o, none⟩, EL + k, ?_, ?_⟩
    · simp only [aslice, hu, hn]
      rw [if_pos (Nat.le_add_right _ _), if_pos trivial, bnds_is (Nat.zero_le q) hq (.inr ⟨rfl, rfl⟩) (.inl h6)]
      simp [cutSlice]
    · have := h.part hl 0 q (by omega)
      simpa using this
  | fix L b o c h h1 h2 =>
    refine ⟨some ⟨b, if c = 0 then o else o + 0 * k, none⟩, c, ?_, ?_⟩
    · simp only [aslice, hu, hn]
      rw [if_neg (Nat.not_le.2 h2), bnds_is (Nat.zero_le q) (Nat.le_trans hq h1) (.inr ⟨rfl, rfl⟩) (.inl h6)]
      simp only [Option.bind_some, cutSlice]
      rw [if_pos (by omega), Nat.sub_zero, Nat.sub_zero]
    · have := h.part hl 0 q (by omega)
      have e : (if c = 0 then o else o + 0 * k) = o := by split <;> simp
      rw [e]
      simpa using this
theorem TlV.suf {t e : TypeId} {lo : Option Value} {m : Nat} (h : TlV C H en k L v) (hl : ∀ x, (en x).length = k) (hne : L ≠ []) (hu : C.P.underlying t = some (.slice e)) (hn : sizeAt C e = some k) (hm : m ≤ L.length) (h5 : lo.bind natOf = some m) :
    ∃ v', aslice C t v lo none none = some v' ∧ TlV C H en k (L.drop m) v' := by
  have hlen : (L.drop m).length = L.length - m := List.length_drop
  have htk : (L.drop m).take (L.length - m) = L.drop m := List.take_of_length_le (by rw [hlen]; exact Nat.le_refl _)
  cases h with
  | nil ad c => exact absurd rfl hne
  | el L b o h =>
    have e : aslice C t (.slice (some ⟨b, o, none⟩) L.length (EL + k)) lo none none = cutSlice C k (EL + k) true (some ⟨b, o, none⟩) (m, L.length, L.length) := by
      simp only [aslice, hu, hn]
      rw [if_pos (Nat.le_add_right _ _), if_pos trivial, bnds_is hm (Nat.le_refl _) (.inl h5) (.inr ⟨rfl, rfl⟩)]
      rfl
    rw [e]
    by_cases c1 : m = 0
    · subst c1
      exact ⟨_, by simp [cutSlice], .el L b o h⟩
    · by_cases c2 : m = L.length
      · subst c2
        refine ⟨.slice (some ⟨C.B0, 0, none⟩) 0 (EL + k), by simp [cutSlice, c1], ?_⟩
        rw [List.drop_length]
        exact .nil _ _
      · have hw := h.part hl m (L.length - m) (by omega)
        rw [htk] at hw
        have := TlV.el (L.drop m) b (o + m * k) hw
        rw [hlen] at this
        exact ⟨_, by simp [cutSlice, c1, c2], this⟩
  | fix L b o c h h1 h2 =>
    have e : aslice C t (.slice (some ⟨b, o, none⟩) L.length c) lo none none = cutSlice C k c false (some ⟨b, o, none⟩) (m, L.length, c) := by
      simp only [aslice, hu, hn]
      rw [if_neg (Nat.not_le.2 h2), bnds_is hm h1 (.inl h5) (.inr ⟨rfl, rfl⟩)]
      rfl
    rw [e]
    by_cases c1 : c = m
    · refine ⟨.slice (some ⟨b, o, none⟩) 0 0, by simp only [cutSlice]; rw [if_pos (by omega), if_pos c1, show L.length - m = 0 by omega, show c - m = 0 by omega], ?_⟩
      rw [show L.drop m = [] from List.drop_of_length_le (by omega)]
      exact .nil _ _
    · have hw := h.part hl m (L.length - m) (by omega)
      rw [htk] at hw
      have := TlV.fix (L.drop m) b (o + m * k) (c - m) hw (by rw [hlen]; omega) (by omega)
      rw [hlen] at this
      exact ⟨_, by simp only [cutSlice]; rw [if_pos (by omega), if_neg c1], this⟩
end
end Go.Proofs.Ythcohphflhkceaa.Abs
