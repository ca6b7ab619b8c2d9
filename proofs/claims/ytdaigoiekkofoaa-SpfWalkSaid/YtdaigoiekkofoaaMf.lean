/- The queue's methods. -/
import Derived.Test.YtdaigoiekkofoaaMe
import Derived.Test.YtdaigoiekkofoaaSep14
import Derived.Test.YtdaigoiekkofoaaMc
namespace Go.Proofs.Ytdaigoiekkofoaa.Abs
open Go
set_option linter.unusedVariables false
structure It where
  n : Int
  l : Int
def encIt (x : It) : List Value := [.int .i64 x.n, .int .i64 x.l]
theorem encIt_len (x : It) : (encIt x).length = 2 := rfl
theorem encIt_one (x : It) : (encIt x).all Value.oneCell' = true := rfl
/-- The method of a type that has this name; whether it takes a pointer. -/
def methOf (C : Ctx) (t : TypeId) (name : String) : Option (FuncId × Bool) := match C.P.info? t, C.P.underlying t with
  | some i, some (.pointer _) => match i.methods.toList.find? (·.name == name) with
    | some m => match m.path.toList with
      | [] => m.func
      | _ => none
    | none => none
  | _, _ => none
theorem LdT.load {C : Ctx} {H : Hp} {e : TypeId} {b off : Nat} {v : Value} (h : LdT C e H b off v) {s : St} (hm : MS C H s) : aload C s e (.pointer (some ⟨b, off, none⟩)) = some v := by
  unfold LdT at h
  have := h [(0, .pointer (some ⟨b, off, none⟩))] (.tmp 0) rfl
  unfold ReadT at this
  exact this.2.2 s hm
theorem met_val {C : Ctx} {H : Hp} {t e : TypeId} {name : String} {f : FuncId} {b : Nat} {v : Value} (hu : C.P.underlying t = some (.pointer e)) (hf : methOf C t name = some (f, false)) (h : LdT C e H b 0 v) : ∀ s, MS C H s → amethod C s (.iface t (.pointer (some ⟨b, 0, none⟩))) name = some (f, v) := fun s hm => by
  unfold methOf at hf
  unfold amethod
  split at hf
  · rename_i i e' hi hu'
    rw [hu] at hu'
    cases hu'
    simp only [hi, hu]
    split at hf
    · rename_i m hmm
      simp only [hmm]
      split at hf
      · rename_i hp
        simp only [hp, hf, h.load hm, Option.map_some]
      · cases hf
    · cases hf
  · cases hf
theorem met_ptr {C : Ctx} {H : Hp} {t e : TypeId} {name : String} {f : FuncId} {v : Value} (hu : C.P.underlying t = some (.pointer e)) (hf : methOf C t name = some (f, true)) : ∀ s, MS C H s → amethod C s (.iface t v) name = some (f, v) := fun s hm => by
  unfold methOf at hf
  unfold amethod
  split at hf
  · rename_i i e' hi hu'
    rw [hu] at hu'
    cases hu'
    simp only [hi, hu]
    split at hf
    · rename_i m hmm
      simp only [hmm]
      split at hf
      · rename_i hp
        simp only [hp, hf]
      · cases hf
    · cases hf
  · cases hf
def QH (bq : Nat) (v : Value) (Hs H : Hp) : Hp := (bq, .row [v] 1 false) :: (Hs ++ H)
section
variable {B0 : Nat} {old : Nat → Option (List Value)} {n : Nat} {H Hs : Hp} {Q : Value → Hp → Prop} {I : List It} {v : Value} {bq : Nat}
set_option maxRecDepth 10000
set_option maxHeartbeats 4000000
theorem qLen (B0 : Nat) (old : Nat → Option (List Value)) : methOf (cx B0 old) 70 "Len" = some (50, false) := by kernel_rfl
theorem qLess (B0 : Nat) (old : Nat → Option (List Value)) : methOf (cx B0 old) 70 "Less" = some (74, false) := by kernel_rfl
theorem qSwap (B0 : Nat) (old : Nat → Option (List Value)) : methOf (cx B0 old) 70 "Swap" = some (77, false) := by kernel_rfl
theorem qPush (B0 : Nat) (old : Nat → Option (List Value)) : methOf (cx B0 old) 70 "Push" = some (76, true) := by kernel_rfl
theorem qPop (B0 : Nat) (old : Nat → Option (List Value)) : methOf (cx B0 old) 70 "Pop" = some (75, true) := by kernel_rfl
theorem qlen_ct (b c m : Nat) (h : Q (.int .i64 m) H) : CallT (cx B0 old) (acall (cx B0 old) ansP (n + 1)) 50 [.slice (some ⟨b, 0, none⟩) m c] H Q := by
  refine call_in1 5 rfl Try.func50 rfl rfl ?_
  repeat (first | (first | refine rt_nil ?_ | (refine isRun ?_; first | refine x1 ?_ | refine x2 ?_ | refine x3 fun _ => ?_ | refine x4 fun _ => ?_ | refine x5 fun _ => ?_ | (refine rt_step rfl rfl rfl ?_; first | refine st_buildSlice rfl (zr rfl) rfl rfl rfl rfl rfl rfl fun _ => ?_ | refine st_A rfl rfl (fun _ => rfl) rfl fun _ => ?_) | refine x8 ?_ | refine rt_skip rfl rfl rfl ?_ | refine rt_skip0 rfl rfl ?_)) | (first | refine sq_n ?_ | refine sq_r ?_ | refine sq_e ?_ | refine bk_n ?_ | refine bk_r ?_ | refine bk_e rfl ?_ | refine bk_x rfl ?_ | refine ct_seq ?_ | refine ct_region rfl ?_ | refine ct_skip ?_ | refine ct_label ?_ | refine ct_block ?_ | refine ct_exit ?_ | refine ct_ret ?_ | refine ct_scope ?_ | refine ct_true rfl ?_ | refine ct_false rfl ?_ | refine lt_step ?_))
  exact re_1 rfl rfl (by exact drop_auto) h
theorem qless_ct {m : Nat} (b c i j : Nat) (x y : It) (hm : I.length = m) (ha : Arr (cx B0 old) H (some ⟨b, 0, none⟩) 2 encIt I) (hx : I[i]? = some x) (hy : I[j]? = some y) (h : Q (.bool (decide (x.l < y.l))) H) :
    CallT (cx B0 old) (acall (cx B0 old) ansP (n + 1)) 74 [.slice (some ⟨b, 0, none⟩) m c, .int .i64 i, .int .i64 j] H Q := by
  subst hm
  refine call_in3 18 rfl Try.func74 rfl rfl ?_
  have h1 := (List.getElem?_eq_some_iff.1 hx).1
  have h2 := (List.getElem?_eq_some_iff.1 hy).1
  obtain ⟨b1, o1, e1, hL0⟩ := ha.ldF 3 1 hx rfl rfl rfl (sz rfl)
  cases e1
  obtain ⟨b2, o2, e2, hL1⟩ := ha.ldF 3 1 hy rfl rfl rfl (sz rfl)
  cases e2
  repeat (first | (first | refine rt_nil ?_ | (refine isRun ?_; first | refine x1 ?_ | refine x2 ?_ | refine x3 fun _ => ?_ | refine x4 fun _ => ?_ | refine x5 fun _ => ?_ | (refine rt_step rfl rfl rfl ?_; first | refine st_buildSlice rfl (zr rfl) rfl rfl rfl rfl rfl rfl fun _ => ?_ | refine st_A rfl rfl (fun _ => rfl) rfl fun _ => ?_) | refine x8 ?_ | refine rt_skip rfl rfl rfl ?_ | refine rt_skip0 rfl rfl ?_)) | (first | refine sq_n ?_ | refine sq_r ?_ | refine sq_e ?_ | refine bk_n ?_ | refine bk_r ?_ | refine bk_e rfl ?_ | refine bk_x rfl ?_ | refine ct_seq ?_ | refine ct_region rfl ?_ | refine ct_skip ?_ | refine ct_label ?_ | refine ct_block ?_ | refine ct_exit ?_ | refine ct_ret ?_ | refine ct_scope ?_ | refine ct_true rfl ?_ | refine ct_false rfl ?_ | refine lt_step ?_))
  refine ct_draw (masks := [0, 0, 3, 7, 15, 0, 0, 96, 224, 480, 1023, 2047]) (plan := [0, 1, 2, 3, 4, 5, 6, 7, 8, 9, 10, 11]) (E := []) (by kernel_rfl) (by kernel_rfl) (by kernel_rfl) (by kernel_rfl) ?_
  repeat (first | refine pl_nil ?_ | (refine isPlan ?_; first | refine y1 ?_ | refine y2 ?_ | refine pl_skip rfl rfl rfl rfl rfl ?_ | refine pl_skip0 rfl rfl rfl rfl ?_))
  repeat (first | (first | refine rt_nil ?_ | (refine isRun ?_; first | refine x1 ?_ | refine x2 ?_ | refine x3 fun _ => ?_ | refine x4 fun _ => ?_ | refine x5 fun _ => ?_ | (refine rt_step rfl rfl rfl ?_; first | refine st_buildSlice rfl (zr rfl) rfl rfl rfl rfl rfl rfl fun _ => ?_ | refine st_A rfl rfl (fun _ => rfl) rfl fun _ => ?_) | refine x8 ?_ | refine rt_skip rfl rfl rfl ?_ | refine rt_skip0 rfl rfl ?_)) | (first | refine sq_n ?_ | refine sq_r ?_ | refine sq_e ?_ | refine bk_n ?_ | refine bk_r ?_ | refine bk_e rfl ?_ | refine bk_x rfl ?_ | refine ct_seq ?_ | refine ct_region rfl ?_ | refine ct_skip ?_ | refine ct_label ?_ | refine ct_block ?_ | refine ct_exit ?_ | refine ct_ret ?_ | refine ct_scope ?_ | refine ct_true rfl ?_ | refine ct_false rfl ?_ | refine lt_step ?_))
  exact re_1 rfl rfl (by exact drop_auto) h
theorem qswap_ct (i j : Nat) (x y : It) (hq : Qs encIt 2 I v Hs) (hx : I[i]? = some x) (hy : I[j]? = some y) (h : ∀ w Hs', Qs encIt 2 ((I.set i y).set j x) v Hs' → Q w (QH bq v Hs' H)) :
    CallT (cx B0 old) (acall (cx B0 old) ansP (n + 1)) 77 [v, .int .i64 i, .int .i64 j] (QH bq v Hs H) Q := by
  refine call_in3 20 rfl Try.func77 rfl rfl ?_
  have h1 := (List.getElem?_eq_some_iff.1 hx).1
  have h2 := (List.getElem?_eq_some_iff.1 hy).1
  obtain ⟨b, c, rfl, ha⟩ := hq.arr (C := cx B0 old) encIt_len
  obtain ⟨b1, o1, e1, hL0⟩ := (ha [] H).ldW 72 hx rfl (sz rfl)
  cases e1
  obtain ⟨b2, o2, e2, hL1⟩ := (ha [] H).ldW 72 hy rfl (sz rfl)
  cases e2
  obtain ⟨H1, hq1, b3, c3, e3, hs1⟩ := hq.set (C := cx B0 old) (t := 72) encIt_len (f := 0) (a' := y) (u := .agg ⟨encIt y⟩) hx (sz rfl) rfl rfl
  cases e3
  have hsec : ∃ z, (I.set i y)[j]? = some z := ⟨_, List.getElem?_eq_getElem (by rw [List.length_set]; exact h2)⟩
  obtain ⟨z, hz⟩ := hsec
  obtain ⟨H2, hq2, b4, c4, e4, hs2⟩ := hq1.set (C := cx B0 old) (t := 72) encIt_len (f := 0) (a' := x) (u := .agg ⟨encIt x⟩) hz (sz rfl) rfl rfl
  obtain ⟨g4, _, rfl⟩ := Value.slice.inj e4
  cases g4
  unfold QH at *
  refine ct_draw (masks := [0, 0, 0, 0, 0, 0, 48, 112, 0, 0, 768, 1792, 4083, 8179, 16383, 32767]) (plan := [0, 1, 2, 3, 4, 5, 6, 7, 8, 9, 10, 11, 12, 13, 14, 15]) (E := []) (by kernel_rfl) (by kernel_rfl) (by kernel_rfl) (by kernel_rfl) ?_
  repeat (first | refine pl_nil ?_ | (refine isPlan ?_; first | refine y1 ?_ | refine y2 ?_ | refine pl_skip rfl rfl rfl rfl rfl ?_ | refine pl_skip0 rfl rfl rfl rfl ?_))
  apply pl_st rfl rfl rfl rfl rfl rfl rfl rfl
  case hp => exact hs1 [_] H
  case hr => exact rec_auto
  repeat (first | refine pl_nil ?_ | (refine isPlan ?_; first | refine y1 ?_ | refine y2 ?_ | refine pl_skip rfl rfl rfl rfl rfl ?_ | refine pl_skip0 rfl rfl rfl rfl ?_))
  apply pl_st rfl rfl rfl rfl rfl rfl rfl rfl
  case hp => exact hs2 [_] H
  case hr => exact rec_auto
  repeat (first | refine pl_nil ?_ | (refine isPlan ?_; first | refine y1 ?_ | refine y2 ?_ | refine pl_skip rfl rfl rfl rfl rfl ?_ | refine pl_skip0 rfl rfl rfl rfl ?_))
  exact re_0 rfl (List.Sublist.refl _) (fun w => h w H2 hq2)
end
end Go.Proofs.Ytdaigoiekkofoaa.Abs

/- The queue's Push and Pop. -/
namespace Go.Proofs.Ytdaigoiekkofoaa.Abs
open Go
set_option linter.unusedVariables false
section
variable {B0 : Nat} {old : Nat → Option (List Value)} {n : Nat} {H Hs : Hp} {Q : Value → Hp → Prop} {I : List It} {v : Value} {bq : Nat}
set_option maxRecDepth 10000
set_option maxHeartbeats 4000000
theorem qpush_ct (x : It) (hq : Qs encIt 2 I v Hs) (hl : I.length ≤ 100000) (h : ∀ w v' Hs', Qs encIt 2 (I ++ [x]) v' Hs' → Q w (QH bq v' Hs' H)) :
    CallT (cx B0 old) (acall (cx B0 old) ansP (n + 1)) 76 [.pointer (some ⟨bq, 0, none⟩), .iface 72 (.agg ⟨encIt x⟩)] (QH bq v Hs H) Q := by
  refine call_in2 20 rfl Try.func76 rfl rfl ?_
  unfold QH at *
  obtain ⟨b, c, rfl, ha⟩ := hq.arr (C := cx B0 old) encIt_len
  repeat (first | (first | refine rt_nil ?_ | (refine isRun ?_; first | refine x1 ?_ | refine x2 ?_ | refine x3 fun _ => ?_ | refine x4 fun _ => ?_ | refine x5 fun _ => ?_ | (refine rt_step rfl rfl rfl ?_; first | refine st_buildSlice rfl (zr rfl) rfl rfl rfl rfl rfl rfl fun _ => ?_ | refine st_A rfl rfl (fun _ => rfl) rfl fun _ => ?_) | refine x8 ?_ | refine rt_skip rfl rfl rfl ?_ | refine rt_skip0 rfl rfl ?_)) | (first | refine sq_n ?_ | refine sq_r ?_ | refine sq_e ?_ | refine bk_n ?_ | refine bk_r ?_ | refine bk_e rfl ?_ | refine bk_x rfl ?_ | refine ct_seq ?_ | refine ct_region rfl ?_ | refine ct_skip ?_ | refine ct_label ?_ | refine ct_block ?_ | refine ct_exit ?_ | refine ct_ret ?_ | refine ct_scope ?_ | refine ct_true rfl ?_ | refine ct_false rfl ?_ | refine lt_step ?_))
  refine ct_draw (masks := [0, 0, 2, 6, 0, 16, 62, 127, 255]) (plan := [0, 1, 2, 3, 4, 5, 6, 7, 8]) (E := []) (by kernel_rfl) (by kernel_rfl) (by kernel_rfl) (by kernel_rfl) ?_
  repeat (first | refine pl_nil ?_ | (refine isPlan ?_; first | refine y1 ?_ | refine y2 ?_ | refine pl_skip rfl rfl rfl rfl rfl ?_ | refine pl_skip0 rfl rfl rfl rfl ?_))
  refine pl_S' (late_no rfl) rfl rfl rfl rfl rfl rfl (st_buildSlice rfl (zr rfl) rfl rfl rfl rfl rfl rfl fun bs => ⟨by exact rec_auto, ?_⟩)
  repeat (first | refine pl_nil ?_ | (refine isPlan ?_; first | refine y1 ?_ | refine y2 ?_ | refine pl_skip rfl rfl rfl rfl rfl ?_ | refine pl_skip0 rfl rfl rfl rfl ?_))
  rename_i bx
  refine pl_S' (late_no rfl) rfl rfl rfl rfl rfl rfl (st_appQ (a := x) (bs := bs) (c := 1) (pre := [_, _, _]) hq encIt_len encIt_one rfl rfl (ap rfl) (arrW_one encIt_len hm0) (by show _ * (16 + 1) ≤ _; omega) fun v2 H2 hq2 => ⟨by exact rec_auto, ?_⟩)
  obtain ⟨b2, c2, rfl, _⟩ := hq2.arr (C := cx B0 old) encIt_len
  repeat (first | refine pl_nil ?_ | (refine isPlan ?_; first | refine y1 ?_ | refine y2 ?_ | refine pl_skip rfl rfl rfl rfl rfl ?_ | refine pl_skip0 rfl rfl rfl rfl ?_))
  refine y3 ?_
  repeat (first | refine pl_nil ?_ | (refine isPlan ?_; first | refine y1 ?_ | refine y2 ?_ | refine pl_skip rfl rfl rfl rfl rfl ?_ | refine pl_skip0 rfl rfl rfl rfl ?_))
  exact re_0 rfl (by exact drop_auto) (fun w => h w _ H2 hq2)
theorem qpop_ct (x : It) (hq : Qs encIt 2 (I ++ [x]) v Hs) (hl : I.length ≤ 100000) (h : ∀ v', Qs encIt 2 I v' Hs → Q (.iface 72 (.agg ⟨encIt x⟩)) (QH bq v' Hs H)) :
    CallT (cx B0 old) (acall (cx B0 old) ansP (n + 1)) 75 [.pointer (some ⟨bq, 0, none⟩)] (QH bq v Hs H) Q := by
  refine call_in1 25 rfl Try.func75 rfl rfl ?_
  unfold QH at *
  obtain ⟨b, c, e, ha⟩ := hq.arr (C := cx B0 old) encIt_len
  have hlen : (I ++ [x]).length = I.length + 1 := by simp
  obtain ⟨v', hc, hq'⟩ := hq.cut (C := cx B0 old) (t := 74) (e := 72) (m := I.length) encIt_len (by omega) rfl rfl .i64
  rw [List.take_left' rfl] at hq'
  subst e
  obtain ⟨b2, c2, rfl, _⟩ := hq'.arr (C := cx B0 old) encIt_len
  rw [hlen] at hc ⊢
  obtain ⟨b1, o1, e1, hL0⟩ := (ha [] H).ldW 72 (i := I.length) (by rw [List.getElem?_append_right (Nat.le_refl _), Nat.sub_self]; rfl) rfl (sz rfl)
  cases e1
  have hi : ((I.length + 1 : Nat) : Int) - 1 = (I.length : Int) := by omega
  have e5 : (((I.length + 1 : Nat) : Int) - 1).toNat = I.length := by omega
  rw [← hi] at hc
  rw [← e5] at hL0
  repeat (first | (first | refine rt_nil ?_ | (refine isRun ?_; first | refine x1 ?_ | refine x2 ?_ | refine x3 fun _ => ?_ | refine x4 fun _ => ?_ | refine x5 fun _ => ?_ | (refine rt_step rfl rfl rfl ?_; first | refine st_buildSlice rfl (zr rfl) rfl rfl rfl rfl rfl rfl fun _ => ?_ | refine st_A rfl rfl (fun _ => rfl) rfl fun _ => ?_) | refine x8 ?_ | refine rt_skip rfl rfl rfl ?_ | refine rt_skip0 rfl rfl ?_)) | (first | refine sq_n ?_ | refine sq_r ?_ | refine sq_e ?_ | refine bk_n ?_ | refine bk_r ?_ | refine bk_e rfl ?_ | refine bk_x rfl ?_ | refine ct_seq ?_ | refine ct_region rfl ?_ | refine ct_skip ?_ | refine ct_label ?_ | refine ct_block ?_ | refine ct_exit ?_ | refine ct_ret ?_ | refine ct_scope ?_ | refine ct_true rfl ?_ | refine ct_false rfl ?_ | refine lt_step ?_))
  apply rt_p rfl rfl rfl
  case hp => exact p_slc rfl rfl rfl hc
  repeat (first | (first | refine rt_nil ?_ | (refine isRun ?_; first | refine x1 ?_ | refine x2 ?_ | refine x3 fun _ => ?_ | refine x4 fun _ => ?_ | refine x5 fun _ => ?_ | (refine rt_step rfl rfl rfl ?_; first | refine st_buildSlice rfl (zr rfl) rfl rfl rfl rfl rfl rfl fun _ => ?_ | refine st_A rfl rfl (fun _ => rfl) rfl fun _ => ?_) | refine x8 ?_ | refine rt_skip rfl rfl rfl ?_ | refine rt_skip0 rfl rfl ?_)) | (first | refine sq_n ?_ | refine sq_r ?_ | refine sq_e ?_ | refine bk_n ?_ | refine bk_r ?_ | refine bk_e rfl ?_ | refine bk_x rfl ?_ | refine ct_seq ?_ | refine ct_region rfl ?_ | refine ct_skip ?_ | refine ct_label ?_ | refine ct_block ?_ | refine ct_exit ?_ | refine ct_ret ?_ | refine ct_scope ?_ | refine ct_true rfl ?_ | refine ct_false rfl ?_ | refine lt_step ?_))
  exact re_1 rfl rfl (by exact drop_auto) (h _ hq')
end
end Go.Proofs.Ytdaigoiekkofoaa.Abs

/- Heaps in plain Lean. -/
namespace Go.Proofs.Ytdaigoiekkofoaa.Abs
set_option linter.unusedVariables false
def kI (I : List It) (i : Nat) : Int := (I.getD i ⟨0, 0⟩).l
/-- The first n items are a heap. -/
def IsHp (I : List It) (n : Nat) : Prop := ∀ c, 0 < c → c < n → kI I ((c - 1) / 2) ≤ kI I c
def swp (I : List It) (i j : Nat) : List It := (I.set i (I.getD j ⟨0, 0⟩)).set j (I.getD i ⟨0, 0⟩)
theorem swp_len (I : List It) (i j : Nat) : (swp I i j).length = I.length := by unfold swp; simp
theorem swp_getD {I : List It} {i j : Nat} (hi : i < I.length) (hj : j < I.length) (c : Nat) : (swp I i j).getD c ⟨0, 0⟩ = if c = j then I.getD i ⟨0, 0⟩ else if c = i then I.getD j ⟨0, 0⟩ else I.getD c ⟨0, 0⟩ := by
  unfold swp
  rw [getD_setL (by rw [List.length_set]; exact hj), getD_setL hi]
theorem swp_key {I : List It} {i j : Nat} (hi : i < I.length) (hj : j < I.length) (c : Nat) : kI (swp I i j) c = if c = j then kI I i else if c = i then kI I j else kI I c := by
  unfold kI
  rw [swp_getD hi hj]
  split
  · rfl
  · split <;> rfl
theorem swp_perm {I : List It} {i j : Nat} (hi : i < I.length) (hj : j < I.length) : (swp I i j).Perm I := by
  have h := List.set_set_perm hi hj
  have e1 : I.getD j ⟨0, 0⟩ = I[j] := by rw [List.getD_eq_getElem?_getD, List.getElem?_eq_getElem hj]; rfl
  have e2 : I.getD i ⟨0, 0⟩ = I[i] := by rw [List.getD_eq_getElem?_getD, List.getElem?_eq_getElem hi]; rfl
  unfold swp
  rw [e1, e2]
  exact h
theorem getD_at {I : List It} {i : Nat} (hi : i < I.length) : I[i]? = some (I.getD i ⟨0, 0⟩) := by
  rw [List.getD_eq_getElem?_getD, List.getElem?_eq_getElem hi]; rfl
/-- The least item is the first one. -/
theorem IsHp.least {I : List It} {n : Nat} (h : IsHp I n) : ∀ c, c < n → kI I 0 ≤ kI I c := by
  intro c
  induction c using Nat.strongRecOn with
  | ind c ih =>
    intro hc
    by_cases h0 : c = 0
    · subst h0; exact Int.le_refl _
    · have h1 := ih ((c - 1) / 2) (by omega) (by omega)
      have h2 := h c (by omega) hc
      omega
/-- A heap but for the item at j, which may be too small. -/
def UpI (I : List It) (n j : Nat) : Prop := (∀ c, 0 < c → c < n → c ≠ j → kI I ((c - 1) / 2) ≤ kI I c) ∧ (∀ c, 0 < c → c < n → (c - 1) / 2 = j → 0 < j → kI I ((j - 1) / 2) ≤ kI I c)
theorem UpI.step {I : List It} {n j : Nat} (h : UpI I n j) (hn : n ≤ I.length) (hj : j < n) (h0 : 0 < j) (hlt : kI I j < kI I ((j - 1) / 2)) : UpI (swp I ((j - 1) / 2) j) n ((j - 1) / 2) := by
  obtain ⟨a, b⟩ := h
  have hi : (j - 1) / 2 < I.length := by omega
  have hjl : j < I.length := by omega
  have key := swp_key hi hjl
  generalize hp : (j - 1) / 2 = p at *
  have hpj : p < j := by omega
  refine ⟨fun c c0 cn ce => ?_, fun c c0 cn ce p0 => ?_⟩
  · rw [key, key]
    by_cases e1 : c = j
    · subst e1
      rw [hp, if_neg (by omega), if_pos rfl, if_pos rfl]
      omega
    · rw [if_neg e1, if_neg ce]
      have ha := a c c0 cn e1
      by_cases e2 : (c - 1) / 2 = j
      · rw [if_pos e2]
        exact b c c0 cn e2 h0
      · rw [if_neg e2]
        by_cases e3 : (c - 1) / 2 = p
        · rw [if_pos e3]
          rw [e3] at ha
          omega
        · rw [if_neg e3]; exact ha
  · rw [key, key, if_neg (by omega), if_neg (by omega)]
    have hpp := a p (by omega) (by omega) (by omega)
    by_cases e1 : c = j
    · rw [if_pos e1]; exact hpp
    · rw [if_neg e1, if_neg (by omega)]
      have ha := a c c0 cn e1
      rw [ce] at ha
      omega
theorem UpI.top {I : List It} {n : Nat} (h : UpI I n 0) : IsHp I n := fun c c0 cn => h.1 c c0 cn (by omega)
theorem UpI.done {I : List It} {n j : Nat} (h : UpI I n j) (hge : kI I ((j - 1) / 2) ≤ kI I j) : IsHp I n := fun c c0 cn => by
  by_cases e : c = j
  · subst e; exact hge
  · exact h.1 c c0 cn e
/-- A heap but for the item at i, which may be too great. -/
def DnI (I : List It) (n i : Nat) : Prop := (∀ c, 0 < c → c < n → (c - 1) / 2 ≠ i → kI I ((c - 1) / 2) ≤ kI I c) ∧ (∀ c, 0 < c → c < n → (c - 1) / 2 = i → 0 < i → kI I ((i - 1) / 2) ≤ kI I c)
theorem DnI.step {I : List It} {n i j : Nat} (h : DnI I n i) (hn : n ≤ I.length) (hj : j < n) (h0 : 0 < j) (hp : (j - 1) / 2 = i) (hmin : ∀ c, 0 < c → c < n → (c - 1) / 2 = i → kI I j ≤ kI I c) (hlt : kI I j < kI I i) : DnI (swp I i j) n j := by
  obtain ⟨a, b⟩ := h
  have hij : i < j := by omega
  have key := swp_key (I := I) (i := i) (j := j) (by omega) (by omega)
  refine ⟨fun c c0 cn ce => ?_, fun c c0 cn ce j0 => ?_⟩
  · rw [key, key, if_neg ce]
    by_cases e1 : c = j
    · subst e1
      rw [if_pos hp, if_pos rfl]
      omega
    · rw [if_neg e1]
      by_cases e2 : c = i
      · subst e2
        rw [if_pos rfl, if_neg (by omega)]
        exact b j h0 hj hp c0
      · rw [if_neg e2]
        by_cases e3 : (c - 1) / 2 = i
        · rw [if_pos e3]; exact hmin c c0 cn e3
        · rw [if_neg e3]; exact a c c0 cn e3
  · rw [key, key, hp, if_neg (by omega), if_pos rfl, if_neg (by omega), if_neg (by omega)]
    have := a c c0 cn (by omega)
    rwa [ce] at this
theorem DnI.leaf {I : List It} {n i : Nat} (h : DnI I n i) (hl : n ≤ 2 * i + 1) : IsHp I n := fun c c0 cn => h.1 c c0 cn (by omega)
theorem DnI.done {I : List It} {n i j : Nat} (h : DnI I n i) (hmin : ∀ c, 0 < c → c < n → (c - 1) / 2 = i → kI I j ≤ kI I c) (hge : kI I i ≤ kI I j) : IsHp I n := fun c c0 cn => by
  by_cases e : (c - 1) / 2 = i
  · have := hmin c c0 cn e
    rw [e]; omega
  · exact h.1 c c0 cn e
/-- The last item in place of the first one. -/
theorem IsHp.swap {I : List It} {n : Nat} (h : IsHp I (n + 1)) (hl : I.length = n + 1) : DnI (swp I 0 n) n 0 := by
  have key := swp_key (I := I) (i := 0) (j := n) (by omega) (by omega)
  refine ⟨fun c c0 cn ce => ?_, fun c c0 cn ce h0 => by omega⟩
  rw [key, key, if_neg (by omega), if_neg ce, if_neg (by omega), if_neg (by omega)]
  exact h c c0 (by omega)
theorem IsHp.push {I : List It} {x : It} (h : IsHp I I.length) : UpI (I ++ [x]) (I.length + 1) I.length := by
  have e : ∀ c, c < I.length → kI (I ++ [x]) c = kI I c := fun c hc => by
    unfold kI
    rw [List.getD_eq_getElem?_getD, List.getElem?_append_left hc, List.getD_eq_getElem?_getD]
  refine ⟨fun c c0 cn ce => ?_, fun c c0 cn ce => by omega⟩
  rw [e _ (by omega), e _ (by omega)]
  exact h c c0 (by omega)
theorem IsHp.take {I : List It} {x : It} {n : Nat} (h : IsHp (I ++ [x]) n) (hn : n = I.length) : IsHp I n := by
  have e : ∀ c, c < I.length → kI (I ++ [x]) c = kI I c := fun c hc => by
    unfold kI
    rw [List.getD_eq_getElem?_getD, List.getElem?_append_left hc, List.getD_eq_getElem?_getD]
  intro c c0 cn
  have := h c c0 cn
  rwa [e _ (by omega), e _ (by omega)] at this
end Go.Proofs.Ytdaigoiekkofoaa.Abs

/- The library's heap: up, down, Push, Pop. -/
namespace Go.Proofs.Ytdaigoiekkofoaa.Abs
open Go
set_option linter.unusedVariables false
section
variable {B0 : Nat} {old : Nat → Option (List Value)} {n : Nat} {H Hs : Hp} {Q : Value → Hp → Prop} {I : List It} {v : Value} {bq : Nat}
set_option maxRecDepth 10000
set_option maxHeartbeats 4000000
theorem up_ct (m : Nat) (hq : Qs encIt 2 I v Hs) (hl : I.length ≤ 100000) (hu : UpI I I.length m) (hm : m < I.length) (h : ∀ w I' Hs', I'.Perm I → IsHp I' I'.length → Qs encIt 2 I' v Hs' → Q w (QH bq v Hs' H)) :
    CallT (cx B0 old) (acall (cx B0 old) ansP (n + 2)) 57 [.iface 70 (.pointer (some ⟨bq, 0, none⟩)), .int .i64 m] (QH bq v Hs H) Q := by
  refine call_in2 23 rfl Try.func57 rfl rfl ?_
  obtain ⟨b, c, e, _⟩ := hq.arr (C := cx B0 old) encIt_len
  subst e
  refine ct_block ?_
  refine loop_ind (ι := Nat × List It × Hp) (m, I, Hs) (fun i => i.1) (fun i => i.2.1.Perm I ∧ UpI i.2.1 I.length i.1 ∧ i.1 < I.length ∧ Qs encIt 2 i.2.1 (.slice (some ⟨b, 0, none⟩) I.length c) i.2.2)
    (fun i => [(0, .iface 70 (.pointer (some ⟨bq, 0, none⟩))), (1, .int .i64 (i.1 : Int))]) (fun i => QH bq (.slice (some ⟨b, 0, none⟩) I.length c) i.2.2 H) ⟨List.Perm.refl _, hu, hm, hq⟩ (by repeat (first | exact SubL.nil | refine SubL.cons rfl ?_)) (by exact drop_auto) ?_
  rintro ⟨j, J, Hj⟩ ⟨hp, hu, hj, hqj⟩
  simp only at hp hu hj hqj ⊢
  have hJ := hp.length_eq
  obtain ⟨b', c', e, ha⟩ := hqj.arr (C := cx B0 old) encIt_len
  obtain ⟨g, _, rfl⟩ := Value.slice.inj e
  cases g
  unfold QH at *
  have hmet : ∀ (H' : Hp) (name : String) (f : Nat), methOf (cx B0 old) 70 name = some (f, false) → (bq, AObj.row [Value.slice (some ⟨b, 0, none⟩) I.length c] 1 false) ∈ H' → ∀ s, MS (cx B0 old) H' s → amethod (cx B0 old) s (.iface 70 (.pointer (some ⟨bq, 0, none⟩))) name = some (f, .slice (some ⟨b, 0, none⟩) I.length c) :=
    fun H' name f hf hmem => met_val (e := 74) rfl hf (ld1 (.own _ _ hmem) rfl (sz rfl) rfl)
  have hquo : IntKind.i64.wrap (((j : Int) - 1).tdiv 2) = (((j - 1) / 2 : Nat) : Int) := by
    by_cases h0 : j = 0
    · subst h0; rfl
    · rw [Int.tdiv_eq_ediv_of_nonneg (by omega), IntWalk.i64_in _ (by omega)]; omega
  repeat (first | (first | refine rt_nil ?_ | (refine isRun ?_; first | refine x1 ?_ | refine x2 ?_ | refine x3 fun _ => ?_ | refine x4 fun _ => ?_ | refine x5 fun _ => ?_ | (refine rt_step rfl rfl rfl ?_; first | refine st_buildSlice rfl (zr rfl) rfl rfl rfl rfl rfl rfl fun _ => ?_ | refine st_A rfl rfl (fun _ => rfl) rfl fun _ => ?_) | refine x8 ?_ | refine rt_skip rfl rfl rfl ?_ | refine rt_skip0 rfl rfl ?_)) | (first | refine sq_n ?_ | refine sq_r ?_ | refine sq_e ?_ | refine bk_n ?_ | refine bk_r ?_ | refine bk_e rfl ?_ | refine bk_x rfl ?_ | refine ct_seq ?_ | refine ct_region rfl ?_ | refine ct_skip ?_ | refine ct_label ?_ | refine ct_block ?_ | refine ct_exit ?_ | refine ct_ret ?_ | refine ct_scope ?_ | refine ct_true rfl ?_ | refine ct_false rfl ?_ | refine lt_step ?_))
  apply rt_p rfl rfl rfl
  case hp => exact p_quo rfl rfl (by decide)
  rw [hquo]
  repeat (first | (first | refine rt_nil ?_ | (refine isRun ?_; first | refine x1 ?_ | refine x2 ?_ | refine x3 fun _ => ?_ | refine x4 fun _ => ?_ | refine x5 fun _ => ?_ | (refine rt_step rfl rfl rfl ?_; first | refine st_buildSlice rfl (zr rfl) rfl rfl rfl rfl rfl rfl fun _ => ?_ | refine st_A rfl rfl (fun _ => rfl) rfl fun _ => ?_) | refine x8 ?_ | refine rt_skip rfl rfl rfl ?_ | refine rt_skip0 rfl rfl ?_)) | (first | refine sq_n ?_ | refine sq_r ?_ | refine sq_e ?_ | refine bk_n ?_ | refine bk_r ?_ | refine bk_e rfl ?_ | refine bk_x rfl ?_ | refine ct_seq ?_ | refine ct_region rfl ?_ | refine ct_skip ?_ | refine ct_label ?_ | refine ct_block ?_ | refine ct_exit ?_ | refine ct_ret ?_ | refine ct_scope ?_ | refine ct_true rfl ?_ | refine ct_false rfl ?_ | refine lt_step ?_))
  refine rt_guardT te_e rfl rfl rfl rfl (fun hc => ?_) (fun hc => ?_)
  · have h0 : j = 0 := by omega
    subst h0
    repeat (first | (first | refine rt_nil ?_ | (refine isRun ?_; first | refine x1 ?_ | refine x2 ?_ | refine x3 fun _ => ?_ | refine x4 fun _ => ?_ | refine x5 fun _ => ?_ | (refine rt_step rfl rfl rfl ?_; first | refine st_buildSlice rfl (zr rfl) rfl rfl rfl rfl rfl rfl fun _ => ?_ | refine st_A rfl rfl (fun _ => rfl) rfl fun _ => ?_) | refine x8 ?_ | refine rt_skip rfl rfl rfl ?_ | refine rt_skip0 rfl rfl ?_)) | (first | refine sq_n ?_ | refine sq_r ?_ | refine sq_e ?_ | refine bk_n ?_ | refine bk_r ?_ | refine bk_e rfl ?_ | refine bk_x rfl ?_ | refine ct_seq ?_ | refine ct_region rfl ?_ | refine ct_skip ?_ | refine ct_label ?_ | refine ct_block ?_ | refine ct_exit ?_ | refine ct_ret ?_ | refine ct_scope ?_ | refine ct_true rfl ?_ | refine ct_false rfl ?_ | refine lt_step ?_))
    exact re_0 rfl (by exact drop_auto) (fun w => h w J Hj hp (by rw [hJ]; exact hu.top) hqj)
  have h0 : 0 < j := by omega
  have hpj : (j - 1) / 2 < I.length := by omega
  repeat (first | (first | refine rt_nil ?_ | (refine isRun ?_; first | refine x1 ?_ | refine x2 ?_ | refine x3 fun _ => ?_ | refine x4 fun _ => ?_ | refine x5 fun _ => ?_ | (refine rt_step rfl rfl rfl ?_; first | refine st_buildSlice rfl (zr rfl) rfl rfl rfl rfl rfl rfl fun _ => ?_ | refine st_A rfl rfl (fun _ => rfl) rfl fun _ => ?_) | refine x8 ?_ | refine rt_skip rfl rfl rfl ?_ | refine rt_skip0 rfl rfl ?_)) | (first | refine sq_n ?_ | refine sq_r ?_ | refine sq_e ?_ | refine bk_n ?_ | refine bk_r ?_ | refine bk_e rfl ?_ | refine bk_x rfl ?_ | refine ct_seq ?_ | refine ct_region rfl ?_ | refine ct_skip ?_ | refine ct_label ?_ | refine ct_block ?_ | refine ct_exit ?_ | refine ct_ret ?_ | refine ct_scope ?_ | refine ct_true rfl ?_ | refine ct_false rfl ?_ | refine lt_step ?_))
  refine rt_step rfl rfl rfl (st_invoke rfl rfl (hmet _ _ _ (qLess B0 old) (by exact in_auto)) rfl rfl (qless_ct b c j ((j - 1) / 2) (J.getD j ⟨0, 0⟩) (J.getD ((j - 1) / 2) ⟨0, 0⟩) hJ (ha [_] H) (getD_at (by omega)) (getD_at (by omega)) ?_))
  repeat (first | (first | refine rt_nil ?_ | (refine isRun ?_; first | refine x1 ?_ | refine x2 ?_ | refine x3 fun _ => ?_ | refine x4 fun _ => ?_ | refine x5 fun _ => ?_ | (refine rt_step rfl rfl rfl ?_; first | refine st_buildSlice rfl (zr rfl) rfl rfl rfl rfl rfl rfl fun _ => ?_ | refine st_A rfl rfl (fun _ => rfl) rfl fun _ => ?_) | refine x8 ?_ | refine rt_skip rfl rfl rfl ?_ | refine rt_skip0 rfl rfl ?_)) | (first | refine sq_n ?_ | refine sq_r ?_ | refine sq_e ?_ | refine bk_n ?_ | refine bk_r ?_ | refine bk_e rfl ?_ | refine bk_x rfl ?_ | refine ct_seq ?_ | refine ct_region rfl ?_ | refine ct_skip ?_ | refine ct_label ?_ | refine ct_block ?_ | refine ct_exit ?_ | refine ct_ret ?_ | refine ct_scope ?_ | refine ct_true rfl ?_ | refine ct_false rfl ?_ | refine lt_step ?_))
  refine ct_condT (te_n te_d) rfl (fun hlt => ?_) (fun hlt => ?_)
  · repeat (first | (first | refine rt_nil ?_ | (refine isRun ?_; first | refine x1 ?_ | refine x2 ?_ | refine x3 fun _ => ?_ | refine x4 fun _ => ?_ | refine x5 fun _ => ?_ | (refine rt_step rfl rfl rfl ?_; first | refine st_buildSlice rfl (zr rfl) rfl rfl rfl rfl rfl rfl fun _ => ?_ | refine st_A rfl rfl (fun _ => rfl) rfl fun _ => ?_) | refine x8 ?_ | refine rt_skip rfl rfl rfl ?_ | refine rt_skip0 rfl rfl ?_)) | (first | refine sq_n ?_ | refine sq_r ?_ | refine sq_e ?_ | refine bk_n ?_ | refine bk_r ?_ | refine bk_e rfl ?_ | refine bk_x rfl ?_ | refine ct_seq ?_ | refine ct_region rfl ?_ | refine ct_skip ?_ | refine ct_label ?_ | refine ct_block ?_ | refine ct_exit ?_ | refine ct_ret ?_ | refine ct_scope ?_ | refine ct_true rfl ?_ | refine ct_false rfl ?_ | refine lt_step ?_))
    exact re_0 rfl (by exact drop_auto) (fun w => h w J Hj hp (by rw [hJ]; exact hu.done (Int.not_lt.1 hlt)) hqj)
  repeat (first | (first | refine rt_nil ?_ | (refine isRun ?_; first | refine x1 ?_ | refine x2 ?_ | refine x3 fun _ => ?_ | refine x4 fun _ => ?_ | refine x5 fun _ => ?_ | (refine rt_step rfl rfl rfl ?_; first | refine st_buildSlice rfl (zr rfl) rfl rfl rfl rfl rfl rfl fun _ => ?_ | refine st_A rfl rfl (fun _ => rfl) rfl fun _ => ?_) | refine x8 ?_ | refine rt_skip rfl rfl rfl ?_ | refine rt_skip0 rfl rfl ?_)) | (first | refine sq_n ?_ | refine sq_r ?_ | refine sq_e ?_ | refine bk_n ?_ | refine bk_r ?_ | refine bk_e rfl ?_ | refine bk_x rfl ?_ | refine ct_seq ?_ | refine ct_region rfl ?_ | refine ct_skip ?_ | refine ct_label ?_ | refine ct_block ?_ | refine ct_exit ?_ | refine ct_ret ?_ | refine ct_scope ?_ | refine ct_true rfl ?_ | refine ct_false rfl ?_ | refine lt_step ?_))
  refine rt_step rfl rfl rfl (st_invoke rfl rfl (hmet _ _ _ (qSwap B0 old) (by exact in_auto)) rfl rfl (qswap_ct ((j - 1) / 2) j (J.getD ((j - 1) / 2) ⟨0, 0⟩) (J.getD j ⟨0, 0⟩) hqj (getD_at (by omega)) (getD_at (by omega)) fun w H2 hq2 => ?_))
  unfold QH
  repeat (first | (first | refine rt_nil ?_ | (refine isRun ?_; first | refine x1 ?_ | refine x2 ?_ | refine x3 fun _ => ?_ | refine x4 fun _ => ?_ | refine x5 fun _ => ?_ | (refine rt_step rfl rfl rfl ?_; first | refine st_buildSlice rfl (zr rfl) rfl rfl rfl rfl rfl rfl fun _ => ?_ | refine st_A rfl rfl (fun _ => rfl) rfl fun _ => ?_) | refine x8 ?_ | refine rt_skip rfl rfl rfl ?_ | refine rt_skip0 rfl rfl ?_)) | (first | refine sq_n ?_ | refine sq_r ?_ | refine sq_e ?_ | refine bk_n ?_ | refine bk_r ?_ | refine bk_e rfl ?_ | refine bk_x rfl ?_ | refine ct_seq ?_ | refine ct_region rfl ?_ | refine ct_skip ?_ | refine ct_label ?_ | refine ct_block ?_ | refine ct_exit ?_ | refine ct_ret ?_ | refine ct_scope ?_ | refine ct_true rfl ?_ | refine ct_false rfl ?_ | refine lt_step ?_))
  have hs : swp J ((j - 1) / 2) j = (J.set ((j - 1) / 2) (J.getD j ⟨0, 0⟩)).set j (J.getD ((j - 1) / 2) ⟨0, 0⟩) := rfl
  rw [← hs] at hq2
  exact ⟨((j - 1) / 2, swp J ((j - 1) / 2) j, H2), ⟨(swp_perm (by omega) (by omega)).trans hp, hu.step (by omega) hj h0 hlt, by omega, hq2⟩, by dsimp only; omega, by repeat (first | exact SubL.nil | refine SubL.cons rfl ?_), by exact drop_auto⟩
theorem down_ct (m : Nat) (hq : Qs encIt 2 I v Hs) (hl : I.length ≤ 100000) (hu : DnI I m 0) (hm : m ≤ I.length) (h : ∀ w I' Hs', I'.Perm I → (∀ c, m ≤ c → I'.getD c ⟨0, 0⟩ = I.getD c ⟨0, 0⟩) → IsHp I' m → Qs encIt 2 I' v Hs' → Q w (QH bq v Hs' H)) :
    CallT (cx B0 old) (acall (cx B0 old) ansP (n + 2)) 56 [.iface 70 (.pointer (some ⟨bq, 0, none⟩)), .int .i64 0, .int .i64 m] (QH bq v Hs H) Q := by
  refine call_in3 48 rfl Try.func56 rfl rfl ?_
  obtain ⟨b, c, e, _⟩ := hq.arr (C := cx B0 old) encIt_len
  subst e
  repeat (first | (first | refine rt_nil ?_ | (refine isRun ?_; first | refine x1 ?_ | refine x2 ?_ | refine x3 fun _ => ?_ | refine x4 fun _ => ?_ | refine x5 fun _ => ?_ | (refine rt_step rfl rfl rfl ?_; first | refine st_buildSlice rfl (zr rfl) rfl rfl rfl rfl rfl rfl fun _ => ?_ | refine st_A rfl rfl (fun _ => rfl) rfl fun _ => ?_) | refine x8 ?_ | refine rt_skip rfl rfl rfl ?_ | refine rt_skip0 rfl rfl ?_)) | (first | refine sq_n ?_ | refine sq_r ?_ | refine sq_e ?_ | refine bk_n ?_ | refine bk_r ?_ | refine bk_e rfl ?_ | refine bk_x rfl ?_ | refine ct_seq ?_ | refine ct_region rfl ?_ | refine ct_skip ?_ | refine ct_label ?_ | refine ct_block ?_ | refine ct_exit ?_ | refine ct_ret ?_ | refine ct_scope ?_ | refine ct_true rfl ?_ | refine ct_false rfl ?_ | refine lt_step ?_))
  refine loop_ind (ι := Nat × List It × Hp) (0, I, Hs) (fun i => I.length - i.1) (fun i => i.2.1.Perm I ∧ (∀ c, m ≤ c → i.2.1.getD c ⟨0, 0⟩ = I.getD c ⟨0, 0⟩) ∧ DnI i.2.1 m i.1 ∧ i.1 ≤ I.length ∧ Qs encIt 2 i.2.1 (.slice (some ⟨b, 0, none⟩) I.length c) i.2.2)
    (fun i => [(0, .iface 70 (.pointer (some ⟨bq, 0, none⟩))), (1, .int .i64 0), (2, .int .i64 m), (7, .int .i64 (i.1 : Int))]) (fun i => QH bq (.slice (some ⟨b, 0, none⟩) I.length c) i.2.2 H) ⟨List.Perm.refl _, fun _ _ => rfl, hu, Nat.zero_le _, hq⟩ (by repeat (first | exact SubL.nil | refine SubL.cons rfl ?_)) (by exact drop_auto) ?_
  rintro ⟨j, J, Hj⟩ ⟨hp, hfar, hu, hj, hqj⟩
  simp only at hp hfar hu hj hqj ⊢
  have hJ := hp.length_eq
  obtain ⟨b', c', e, ha⟩ := hqj.arr (C := cx B0 old) encIt_len
  obtain ⟨g, _, rfl⟩ := Value.slice.inj e
  cases g
  unfold QH at *
  have hmet : ∀ (H' : Hp) (name : String) (f : Nat), methOf (cx B0 old) 70 name = some (f, false) → (bq, AObj.row [Value.slice (some ⟨b, 0, none⟩) I.length c] 1 false) ∈ H' → ∀ s, MS (cx B0 old) H' s → amethod (cx B0 old) s (.iface 70 (.pointer (some ⟨bq, 0, none⟩))) name = some (f, .slice (some ⟨b, 0, none⟩) I.length c) :=
    fun H' name f hf hmem => met_val (e := 74) rfl hf (ld1 (.own _ _ hmem) rfl (sz rfl) rfl)
  repeat (first | (first | refine rt_nil ?_ | (refine isRun ?_; first | refine x1 ?_ | refine x2 ?_ | refine x3 fun _ => ?_ | refine x4 fun _ => ?_ | refine x5 fun _ => ?_ | (refine rt_step rfl rfl rfl ?_; first | refine st_buildSlice rfl (zr rfl) rfl rfl rfl rfl rfl rfl fun _ => ?_ | refine st_A rfl rfl (fun _ => rfl) rfl fun _ => ?_) | refine x8 ?_ | refine rt_skip rfl rfl rfl ?_ | refine rt_skip0 rfl rfl ?_)) | (first | refine sq_n ?_ | refine sq_r ?_ | refine sq_e ?_ | refine bk_n ?_ | refine bk_r ?_ | refine bk_e rfl ?_ | refine bk_x rfl ?_ | refine ct_seq ?_ | refine ct_region rfl ?_ | refine ct_skip ?_ | refine ct_label ?_ | refine ct_block ?_ | refine ct_exit ?_ | refine ct_ret ?_ | refine ct_scope ?_ | refine ct_true rfl ?_ | refine ct_false rfl ?_ | refine lt_step ?_))
  refine rt_guardT te_d rfl rfl rfl rfl (fun hc => ?_) (fun hc => ?_)
  · repeat (first | (first | refine rt_nil ?_ | (refine isRun ?_; first | refine x1 ?_ | refine x2 ?_ | refine x3 fun _ => ?_ | refine x4 fun _ => ?_ | refine x5 fun _ => ?_ | (refine rt_step rfl rfl rfl ?_; first | refine st_buildSlice rfl (zr rfl) rfl rfl rfl rfl rfl rfl fun _ => ?_ | refine st_A rfl rfl (fun _ => rfl) rfl fun _ => ?_) | refine x8 ?_ | refine rt_skip rfl rfl rfl ?_ | refine rt_skip0 rfl rfl ?_)) | (first | refine sq_n ?_ | refine sq_r ?_ | refine sq_e ?_ | refine bk_n ?_ | refine bk_r ?_ | refine bk_e rfl ?_ | refine bk_x rfl ?_ | refine ct_seq ?_ | refine ct_region rfl ?_ | refine ct_skip ?_ | refine ct_label ?_ | refine ct_block ?_ | refine ct_exit ?_ | refine ct_ret ?_ | refine ct_scope ?_ | refine ct_true rfl ?_ | refine ct_false rfl ?_ | refine lt_step ?_))
    exact re_1 rfl rfl (by exact drop_auto) (h _ J Hj hp hfar (hu.leaf (by omega)) hqj)
  repeat (first | (first | refine rt_nil ?_ | (refine isRun ?_; first | refine x1 ?_ | refine x2 ?_ | refine x3 fun _ => ?_ | refine x4 fun _ => ?_ | refine x5 fun _ => ?_ | (refine rt_step rfl rfl rfl ?_; first | refine st_buildSlice rfl (zr rfl) rfl rfl rfl rfl rfl rfl fun _ => ?_ | refine st_A rfl rfl (fun _ => rfl) rfl fun _ => ?_) | refine x8 ?_ | refine rt_skip rfl rfl rfl ?_ | refine rt_skip0 rfl rfl ?_)) | (first | refine sq_n ?_ | refine sq_r ?_ | refine sq_e ?_ | refine bk_n ?_ | refine bk_r ?_ | refine bk_e rfl ?_ | refine bk_x rfl ?_ | refine ct_seq ?_ | refine ct_region rfl ?_ | refine ct_skip ?_ | refine ct_label ?_ | refine ct_block ?_ | refine ct_exit ?_ | refine ct_ret ?_ | refine ct_scope ?_ | refine ct_true rfl ?_ | refine ct_false rfl ?_ | refine lt_step ?_))
  rw [show decide (2 * (j : Int) + 1 < 0) = false from decide_eq_false (by omega)]
  repeat (first | (first | refine rt_nil ?_ | (refine isRun ?_; first | refine x1 ?_ | refine x2 ?_ | refine x3 fun _ => ?_ | refine x4 fun _ => ?_ | refine x5 fun _ => ?_ | (refine rt_step rfl rfl rfl ?_; first | refine st_buildSlice rfl (zr rfl) rfl rfl rfl rfl rfl rfl fun _ => ?_ | refine st_A rfl rfl (fun _ => rfl) rfl fun _ => ?_) | refine x8 ?_ | refine rt_skip rfl rfl rfl ?_ | refine rt_skip0 rfl rfl ?_)) | (first | refine sq_n ?_ | refine sq_r ?_ | refine sq_e ?_ | refine bk_n ?_ | refine bk_r ?_ | refine bk_e rfl ?_ | refine bk_x rfl ?_ | refine ct_seq ?_ | refine ct_region rfl ?_ | refine ct_skip ?_ | refine ct_label ?_ | refine ct_block ?_ | refine ct_exit ?_ | refine ct_ret ?_ | refine ct_scope ?_ | refine ct_true rfl ?_ | refine ct_false rfl ?_ | refine lt_step ?_))
  refine rt_midE (ι := Bool) (fun t => (t = true → 2 * j + 2 < m ∧ kI J (2 * j + 2) < kI J (2 * j + 1)) ∧ (t = false → 2 * j + 2 < m → kI J (2 * j + 1) ≤ kI J (2 * j + 2)))
    (fun t => [(33, .bool t), (10, .int .i64 (2 * (j : Int) + 1 + 1)), (9, .int .i64 (2 * (j : Int) + 1)), (0, .iface 70 (.pointer (some ⟨bq, 0, none⟩))), (1, .int .i64 0), (2, .int .i64 m), (7, .int .i64 (j : Int))]) (fun _ => (bq, .row [Value.slice (some ⟨b, 0, none⟩) I.length c] 1 false) :: (Hj ++ H)) ?_ ?_
  · refine rt_guardT te_d rfl rfl rfl rfl (fun hc2 => ?_) (fun hc2 => ?_)
    · repeat (first | (first | refine rt_nil ?_ | (refine isRun ?_; first | refine x1 ?_ | refine x2 ?_ | refine x3 fun _ => ?_ | refine x4 fun _ => ?_ | refine x5 fun _ => ?_ | (refine rt_step rfl rfl rfl ?_; first | refine st_buildSlice rfl (zr rfl) rfl rfl rfl rfl rfl rfl fun _ => ?_ | refine st_A rfl rfl (fun _ => rfl) rfl fun _ => ?_) | refine x8 ?_ | refine rt_skip rfl rfl rfl ?_ | refine rt_skip0 rfl rfl ?_)) | (first | refine sq_n ?_ | refine sq_r ?_ | refine sq_e ?_ | refine bk_n ?_ | refine bk_r ?_ | refine bk_e rfl ?_ | refine bk_x rfl ?_ | refine ct_seq ?_ | refine ct_region rfl ?_ | refine ct_skip ?_ | refine ct_label ?_ | refine ct_block ?_ | refine ct_exit ?_ | refine ct_ret ?_ | refine ct_scope ?_ | refine ct_true rfl ?_ | refine ct_false rfl ?_ | refine lt_step ?_))
      refine rt_step rfl rfl rfl (st_invoke rfl rfl (hmet _ _ _ (qLess B0 old) (by exact in_auto)) rfl rfl (qless_ct b c (2 * j + 2) (2 * j + 1) (J.getD (2 * j + 2) ⟨0, 0⟩) (J.getD (2 * j + 1) ⟨0, 0⟩) hJ (ha [_] H) (getD_at (by omega)) (getD_at (by omega)) ?_))
      repeat (first | (first | refine rt_nil ?_ | (refine isRun ?_; first | refine x1 ?_ | refine x2 ?_ | refine x3 fun _ => ?_ | refine x4 fun _ => ?_ | refine x5 fun _ => ?_ | (refine rt_step rfl rfl rfl ?_; first | refine st_buildSlice rfl (zr rfl) rfl rfl rfl rfl rfl rfl fun _ => ?_ | refine st_A rfl rfl (fun _ => rfl) rfl fun _ => ?_) | refine x8 ?_ | refine rt_skip rfl rfl rfl ?_ | refine rt_skip0 rfl rfl ?_)) | (first | refine sq_n ?_ | refine sq_r ?_ | refine sq_e ?_ | refine bk_n ?_ | refine bk_r ?_ | refine bk_e rfl ?_ | refine bk_x rfl ?_ | refine ct_seq ?_ | refine ct_region rfl ?_ | refine ct_skip ?_ | refine ct_label ?_ | refine ct_block ?_ | refine ct_exit ?_ | refine ct_ret ?_ | refine ct_scope ?_ | refine ct_true rfl ?_ | refine ct_false rfl ?_ | refine lt_step ?_))
      exact ⟨_, ⟨fun hd => ⟨by omega, of_decide_eq_true hd⟩, fun hd _ => Int.not_lt.1 (of_decide_eq_false hd)⟩, by repeat (first | exact SubL.nil | refine SubL.cons rfl ?_), by exact drop_auto⟩
    · repeat (first | (first | refine rt_nil ?_ | (refine isRun ?_; first | refine x1 ?_ | refine x2 ?_ | refine x3 fun _ => ?_ | refine x4 fun _ => ?_ | refine x5 fun _ => ?_ | (refine rt_step rfl rfl rfl ?_; first | refine st_buildSlice rfl (zr rfl) rfl rfl rfl rfl rfl rfl fun _ => ?_ | refine st_A rfl rfl (fun _ => rfl) rfl fun _ => ?_) | refine x8 ?_ | refine rt_skip rfl rfl rfl ?_ | refine rt_skip0 rfl rfl ?_)) | (first | refine sq_n ?_ | refine sq_r ?_ | refine sq_e ?_ | refine bk_n ?_ | refine bk_r ?_ | refine bk_e rfl ?_ | refine bk_x rfl ?_ | refine ct_seq ?_ | refine ct_region rfl ?_ | refine ct_skip ?_ | refine ct_label ?_ | refine ct_block ?_ | refine ct_exit ?_ | refine ct_ret ?_ | refine ct_scope ?_ | refine ct_true rfl ?_ | refine ct_false rfl ?_ | refine lt_step ?_))
      exact ⟨false, ⟨fun hd => (by cases hd), fun _ hlt => absurd hlt (by omega)⟩, by repeat (first | exact SubL.nil | refine SubL.cons rfl ?_), by exact drop_auto⟩
  rintro t ⟨t1, t2⟩
  refine (ct_midE (ι := Nat) (fun jj => jj < m ∧ 0 < jj ∧ (jj - 1) / 2 = j ∧ (∀ c, 0 < c → c < m → (c - 1) / 2 = j → kI J jj ≤ kI J c))
    (fun jj => [(9, .int .i64 (jj : Int)), (0, .iface 70 (.pointer (some ⟨bq, 0, none⟩))), (1, .int .i64 0), (2, .int .i64 m), (7, .int .i64 (j : Int))]) (fun _ => (bq, .row [Value.slice (some ⟨b, 0, none⟩) I.length c] 1 false) :: (Hj ++ H)) ?_ ?_)
  · refine ct_condT te_b rfl (fun hb => ?_) (fun hb => ?_)
    · obtain ⟨k1, k2⟩ := t1 hb
      repeat (first | (first | refine rt_nil ?_ | (refine isRun ?_; first | refine x1 ?_ | refine x2 ?_ | refine x3 fun _ => ?_ | refine x4 fun _ => ?_ | refine x5 fun _ => ?_ | (refine rt_step rfl rfl rfl ?_; first | refine st_buildSlice rfl (zr rfl) rfl rfl rfl rfl rfl rfl fun _ => ?_ | refine st_A rfl rfl (fun _ => rfl) rfl fun _ => ?_) | refine x8 ?_ | refine rt_skip rfl rfl rfl ?_ | refine rt_skip0 rfl rfl ?_)) | (first | refine sq_n ?_ | refine sq_r ?_ | refine sq_e ?_ | refine bk_n ?_ | refine bk_r ?_ | refine bk_e rfl ?_ | refine bk_x rfl ?_ | refine ct_seq ?_ | refine ct_region rfl ?_ | refine ct_skip ?_ | refine ct_label ?_ | refine ct_block ?_ | refine ct_exit ?_ | refine ct_ret ?_ | refine ct_scope ?_ | refine ct_true rfl ?_ | refine ct_false rfl ?_ | refine lt_step ?_))
      refine ⟨2 * j + 2, ⟨by omega, by omega, by omega, fun c c0 cm ce => ?_⟩, by repeat (first | exact SubL.nil | refine SubL.cons rfl ?_), by exact drop_auto⟩
      by_cases e : c = 2 * j + 2
      · subst e; exact Int.le_refl _
      · obtain rfl : c = 2 * j + 1 := by omega
        omega
    · have k2 := t2 hb
      repeat (first | (first | refine rt_nil ?_ | (refine isRun ?_; first | refine x1 ?_ | refine x2 ?_ | refine x3 fun _ => ?_ | refine x4 fun _ => ?_ | refine x5 fun _ => ?_ | (refine rt_step rfl rfl rfl ?_; first | refine st_buildSlice rfl (zr rfl) rfl rfl rfl rfl rfl rfl fun _ => ?_ | refine st_A rfl rfl (fun _ => rfl) rfl fun _ => ?_) | refine x8 ?_ | refine rt_skip rfl rfl rfl ?_ | refine rt_skip0 rfl rfl ?_)) | (first | refine sq_n ?_ | refine sq_r ?_ | refine sq_e ?_ | refine bk_n ?_ | refine bk_r ?_ | refine bk_e rfl ?_ | refine bk_x rfl ?_ | refine ct_seq ?_ | refine ct_region rfl ?_ | refine ct_skip ?_ | refine ct_label ?_ | refine ct_block ?_ | refine ct_exit ?_ | refine ct_ret ?_ | refine ct_scope ?_ | refine ct_true rfl ?_ | refine ct_false rfl ?_ | refine lt_step ?_))
      refine ⟨2 * j + 1, ⟨by omega, by omega, by omega, fun c c0 cm ce => ?_⟩, by repeat (first | exact SubL.nil | refine SubL.cons rfl ?_), by exact drop_auto⟩
      by_cases e : c = 2 * j + 1
      · subst e; exact Int.le_refl _
      · obtain rfl : c = 2 * j + 2 := by omega
        exact k2 (by omega)
  rintro jj ⟨j1, j2, j3, j4⟩
  repeat (first | (first | refine rt_nil ?_ | (refine isRun ?_; first | refine x1 ?_ | refine x2 ?_ | refine x3 fun _ => ?_ | refine x4 fun _ => ?_ | refine x5 fun _ => ?_ | (refine rt_step rfl rfl rfl ?_; first | refine st_buildSlice rfl (zr rfl) rfl rfl rfl rfl rfl rfl fun _ => ?_ | refine st_A rfl rfl (fun _ => rfl) rfl fun _ => ?_) | refine x8 ?_ | refine rt_skip rfl rfl rfl ?_ | refine rt_skip0 rfl rfl ?_)) | (first | refine sq_n ?_ | refine sq_r ?_ | refine sq_e ?_ | refine bk_n ?_ | refine bk_r ?_ | refine bk_e rfl ?_ | refine bk_x rfl ?_ | refine ct_seq ?_ | refine ct_region rfl ?_ | refine ct_skip ?_ | refine ct_label ?_ | refine ct_block ?_ | refine ct_exit ?_ | refine ct_ret ?_ | refine ct_scope ?_ | refine ct_true rfl ?_ | refine ct_false rfl ?_ | refine lt_step ?_))
  refine rt_step rfl rfl rfl (st_invoke rfl rfl (hmet _ _ _ (qLess B0 old) (by exact in_auto)) rfl rfl (qless_ct b c jj j (J.getD jj ⟨0, 0⟩) (J.getD j ⟨0, 0⟩) hJ (ha [_] H) (getD_at (by omega)) (getD_at (by omega)) ?_))
  repeat (first | (first | refine rt_nil ?_ | (refine isRun ?_; first | refine x1 ?_ | refine x2 ?_ | refine x3 fun _ => ?_ | refine x4 fun _ => ?_ | refine x5 fun _ => ?_ | (refine rt_step rfl rfl rfl ?_; first | refine st_buildSlice rfl (zr rfl) rfl rfl rfl rfl rfl rfl fun _ => ?_ | refine st_A rfl rfl (fun _ => rfl) rfl fun _ => ?_) | refine x8 ?_ | refine rt_skip rfl rfl rfl ?_ | refine rt_skip0 rfl rfl ?_)) | (first | refine sq_n ?_ | refine sq_r ?_ | refine sq_e ?_ | refine bk_n ?_ | refine bk_r ?_ | refine bk_e rfl ?_ | refine bk_x rfl ?_ | refine ct_seq ?_ | refine ct_region rfl ?_ | refine ct_skip ?_ | refine ct_label ?_ | refine ct_block ?_ | refine ct_exit ?_ | refine ct_ret ?_ | refine ct_scope ?_ | refine ct_true rfl ?_ | refine ct_false rfl ?_ | refine lt_step ?_))
  refine ct_condT (te_n te_d) rfl (fun hlt => ?_) (fun hlt => ?_)
  · repeat (first | (first | refine rt_nil ?_ | (refine isRun ?_; first | refine x1 ?_ | refine x2 ?_ | refine x3 fun _ => ?_ | refine x4 fun _ => ?_ | refine x5 fun _ => ?_ | (refine rt_step rfl rfl rfl ?_; first | refine st_buildSlice rfl (zr rfl) rfl rfl rfl rfl rfl rfl fun _ => ?_ | refine st_A rfl rfl (fun _ => rfl) rfl fun _ => ?_) | refine x8 ?_ | refine rt_skip rfl rfl rfl ?_ | refine rt_skip0 rfl rfl ?_)) | (first | refine sq_n ?_ | refine sq_r ?_ | refine sq_e ?_ | refine bk_n ?_ | refine bk_r ?_ | refine bk_e rfl ?_ | refine bk_x rfl ?_ | refine ct_seq ?_ | refine ct_region rfl ?_ | refine ct_skip ?_ | refine ct_label ?_ | refine ct_block ?_ | refine ct_exit ?_ | refine ct_ret ?_ | refine ct_scope ?_ | refine ct_true rfl ?_ | refine ct_false rfl ?_ | refine lt_step ?_))
    exact re_1 rfl rfl (by exact drop_auto) (h _ J Hj hp hfar (hu.done j4 (Int.not_lt.1 hlt)) hqj)
  repeat (first | (first | refine rt_nil ?_ | (refine isRun ?_; first | refine x1 ?_ | refine x2 ?_ | refine x3 fun _ => ?_ | refine x4 fun _ => ?_ | refine x5 fun _ => ?_ | (refine rt_step rfl rfl rfl ?_; first | refine st_buildSlice rfl (zr rfl) rfl rfl rfl rfl rfl rfl fun _ => ?_ | refine st_A rfl rfl (fun _ => rfl) rfl fun _ => ?_) | refine x8 ?_ | refine rt_skip rfl rfl rfl ?_ | refine rt_skip0 rfl rfl ?_)) | (first | refine sq_n ?_ | refine sq_r ?_ | refine sq_e ?_ | refine bk_n ?_ | refine bk_r ?_ | refine bk_e rfl ?_ | refine bk_x rfl ?_ | refine ct_seq ?_ | refine ct_region rfl ?_ | refine ct_skip ?_ | refine ct_label ?_ | refine ct_block ?_ | refine ct_exit ?_ | refine ct_ret ?_ | refine ct_scope ?_ | refine ct_true rfl ?_ | refine ct_false rfl ?_ | refine lt_step ?_))
  refine rt_step rfl rfl rfl (st_invoke rfl rfl (hmet _ _ _ (qSwap B0 old) (by exact in_auto)) rfl rfl (qswap_ct j jj (J.getD j ⟨0, 0⟩) (J.getD jj ⟨0, 0⟩) hqj (getD_at (by omega)) (getD_at (by omega)) fun w H2 hq2 => ?_))
  unfold QH
  repeat (first | (first | refine rt_nil ?_ | (refine isRun ?_; first | refine x1 ?_ | refine x2 ?_ | refine x3 fun _ => ?_ | refine x4 fun _ => ?_ | refine x5 fun _ => ?_ | (refine rt_step rfl rfl rfl ?_; first | refine st_buildSlice rfl (zr rfl) rfl rfl rfl rfl rfl rfl fun _ => ?_ | refine st_A rfl rfl (fun _ => rfl) rfl fun _ => ?_) | refine x8 ?_ | refine rt_skip rfl rfl rfl ?_ | refine rt_skip0 rfl rfl ?_)) | (first | refine sq_n ?_ | refine sq_r ?_ | refine sq_e ?_ | refine bk_n ?_ | refine bk_r ?_ | refine bk_e rfl ?_ | refine bk_x rfl ?_ | refine ct_seq ?_ | refine ct_region rfl ?_ | refine ct_skip ?_ | refine ct_label ?_ | refine ct_block ?_ | refine ct_exit ?_ | refine ct_ret ?_ | refine ct_scope ?_ | refine ct_true rfl ?_ | refine ct_false rfl ?_ | refine lt_step ?_))
  have hs : swp J j jj = (J.set j (J.getD jj ⟨0, 0⟩)).set jj (J.getD j ⟨0, 0⟩) := rfl
  rw [← hs] at hq2
  exact ⟨(jj, swp J j jj, H2), ⟨(swp_perm (by omega) (by omega)).trans hp, fun c hc => by rw [swp_getD (by omega) (by omega), if_neg (by omega), if_neg (by omega)]; exact hfar c hc, hu.step (by omega) j1 j2 j3 j4 hlt, by omega, hq2⟩, by dsimp only; omega, by repeat (first | exact SubL.nil | refine SubL.cons rfl ?_), by exact drop_auto⟩
end
end Go.Proofs.Ytdaigoiekkofoaa.Abs

/- The library's heap: Push, Pop. -/
namespace Go.Proofs.Ytdaigoiekkofoaa.Abs
open Go
set_option linter.unusedVariables false
section
variable {B0 : Nat} {old : Nat → Option (List Value)} {n : Nat} {H Hs : Hp} {Q : Value → Hp → Prop} {I : List It} {v : Value} {bq : Nat}
set_option maxRecDepth 10000
set_option maxHeartbeats 4000000
theorem met_q (B0 : Nat) (old : Nat → Option (List Value)) {H' : Hp} {name : String} {f bq : Nat} {v : Value} (hf : methOf (cx B0 old) 70 name = some (f, false)) (hmem : (bq, AObj.row [v] 1 false) ∈ H') : ∀ s, MS (cx B0 old) H' s → amethod (cx B0 old) s (.iface 70 (.pointer (some ⟨bq, 0, none⟩))) name = some (f, v) :=
  met_val (e := 74) rfl hf (ld1 (.own _ _ hmem) rfl (sz rfl) rfl)
theorem hpush_ct (x : It) (hq : Qs encIt 2 I v Hs) (hl : I.length ≤ 90000) (hh : IsHp I I.length) (h : ∀ w I' v' Hs', I'.Perm (I ++ [x]) → IsHp I' I'.length → Qs encIt 2 I' v' Hs' → Q w (QH bq v' Hs' H)) :
    CallT (cx B0 old) (acall (cx B0 old) ansP (n + 3)) 52 [.iface 70 (.pointer (some ⟨bq, 0, none⟩)), .iface 72 (.agg ⟨encIt x⟩)] (QH bq v Hs H) Q := by
  refine call_in2 12 rfl Try.func52 rfl rfl ?_
  repeat (first | (first | refine rt_nil ?_ | (refine isRun ?_; first | refine x1 ?_ | refine x2 ?_ | refine x3 fun _ => ?_ | refine x4 fun _ => ?_ | refine x5 fun _ => ?_ | (refine rt_step rfl rfl rfl ?_; first | refine st_buildSlice rfl (zr rfl) rfl rfl rfl rfl rfl rfl fun _ => ?_ | refine st_A rfl rfl (fun _ => rfl) rfl fun _ => ?_) | refine x8 ?_ | refine rt_skip rfl rfl rfl ?_ | refine rt_skip0 rfl rfl ?_)) | (first | refine sq_n ?_ | refine sq_r ?_ | refine sq_e ?_ | refine bk_n ?_ | refine bk_r ?_ | refine bk_e rfl ?_ | refine bk_x rfl ?_ | refine ct_seq ?_ | refine ct_region rfl ?_ | refine ct_skip ?_ | refine ct_label ?_ | refine ct_block ?_ | refine ct_exit ?_ | refine ct_ret ?_ | refine ct_scope ?_ | refine ct_true rfl ?_ | refine ct_false rfl ?_ | refine lt_step ?_))
  refine rt_step rfl rfl rfl (st_invoke rfl rfl (met_ptr (e := 74) rfl (qPush B0 old)) rfl rfl (qpush_ct x hq (by omega) fun w v2 H2 hq2 => ?_))
  obtain ⟨b, c, e, _⟩ := hq2.arr (C := cx B0 old) encIt_len
  subst e
  have hlen : (I ++ [x]).length = I.length + 1 := by simp
  repeat (first | (first | refine rt_nil ?_ | (refine isRun ?_; first | refine x1 ?_ | refine x2 ?_ | refine x3 fun _ => ?_ | refine x4 fun _ => ?_ | refine x5 fun _ => ?_ | (refine rt_step rfl rfl rfl ?_; first | refine st_buildSlice rfl (zr rfl) rfl rfl rfl rfl rfl rfl fun _ => ?_ | refine st_A rfl rfl (fun _ => rfl) rfl fun _ => ?_) | refine x8 ?_ | refine rt_skip rfl rfl rfl ?_ | refine rt_skip0 rfl rfl ?_)) | (first | refine sq_n ?_ | refine sq_r ?_ | refine sq_e ?_ | refine bk_n ?_ | refine bk_r ?_ | refine bk_e rfl ?_ | refine bk_x rfl ?_ | refine ct_seq ?_ | refine ct_region rfl ?_ | refine ct_skip ?_ | refine ct_label ?_ | refine ct_block ?_ | refine ct_exit ?_ | refine ct_ret ?_ | refine ct_scope ?_ | refine ct_true rfl ?_ | refine ct_false rfl ?_ | refine lt_step ?_))
  refine rt_step rfl rfl rfl (st_invoke rfl rfl (met_q B0 old (qLen B0 old) (by unfold QH; exact in_auto)) rfl rfl (qlen_ct b c _ ?_))
  repeat (first | (first | refine rt_nil ?_ | (refine isRun ?_; first | refine x1 ?_ | refine x2 ?_ | refine x3 fun _ => ?_ | refine x4 fun _ => ?_ | refine x5 fun _ => ?_ | (refine rt_step rfl rfl rfl ?_; first | refine st_buildSlice rfl (zr rfl) rfl rfl rfl rfl rfl rfl fun _ => ?_ | refine st_A rfl rfl (fun _ => rfl) rfl fun _ => ?_) | refine x8 ?_ | refine rt_skip rfl rfl rfl ?_ | refine rt_skip0 rfl rfl ?_)) | (first | refine sq_n ?_ | refine sq_r ?_ | refine sq_e ?_ | refine bk_n ?_ | refine bk_r ?_ | refine bk_e rfl ?_ | refine bk_x rfl ?_ | refine ct_seq ?_ | refine ct_region rfl ?_ | refine ct_skip ?_ | refine ct_label ?_ | refine ct_block ?_ | refine ct_exit ?_ | refine ct_ret ?_ | refine ct_scope ?_ | refine ct_true rfl ?_ | refine ct_false rfl ?_ | refine lt_step ?_))
  rw [hlen]
  rw [show ((I.length + 1 : Nat) : Int) - 1 = (I.length : Int) from by omega]
  refine rt_step rfl rfl rfl (st_call rfl rfl rfl rfl (up_ct (I := I ++ [x]) I.length (by rw [hlen] at hq2; exact hq2) (by omega) (by rw [hlen]; exact hh.push) (by omega) fun w2 I' H3 hp hh' hq3 => ?_))
  repeat (first | (first | refine rt_nil ?_ | (refine isRun ?_; first | refine x1 ?_ | refine x2 ?_ | refine x3 fun _ => ?_ | refine x4 fun _ => ?_ | refine x5 fun _ => ?_ | (refine rt_step rfl rfl rfl ?_; first | refine st_buildSlice rfl (zr rfl) rfl rfl rfl rfl rfl rfl fun _ => ?_ | refine st_A rfl rfl (fun _ => rfl) rfl fun _ => ?_) | refine x8 ?_ | refine rt_skip rfl rfl rfl ?_ | refine rt_skip0 rfl rfl ?_)) | (first | refine sq_n ?_ | refine sq_r ?_ | refine sq_e ?_ | refine bk_n ?_ | refine bk_r ?_ | refine bk_e rfl ?_ | refine bk_x rfl ?_ | refine ct_seq ?_ | refine ct_region rfl ?_ | refine ct_skip ?_ | refine ct_label ?_ | refine ct_block ?_ | refine ct_exit ?_ | refine ct_ret ?_ | refine ct_scope ?_ | refine ct_true rfl ?_ | refine ct_false rfl ?_ | refine lt_step ?_))
  exact re_0 rfl (List.Sublist.refl _) (fun w => h w I' _ H3 hp hh' hq3)
theorem hpop_ct (hq : Qs encIt 2 I v Hs) (hl : I.length ≤ 90000) (hne : 0 < I.length) (hh : IsHp I I.length) (h : ∀ I' v' Hs', (I.getD 0 ⟨0, 0⟩ :: I').Perm I → IsHp I' I'.length → Qs encIt 2 I' v' Hs' → Q (.iface 72 (.agg ⟨encIt (I.getD 0 ⟨0, 0⟩)⟩)) (QH bq v' Hs' H)) :
    CallT (cx B0 old) (acall (cx B0 old) ansP (n + 3)) 51 [.iface 70 (.pointer (some ⟨bq, 0, none⟩))] (QH bq v Hs H) Q := by
  refine call_in1 15 rfl Try.func51 rfl rfl ?_
  obtain ⟨b, c, e, _⟩ := hq.arr (C := cx B0 old) encIt_len
  subst e
  repeat (first | (first | refine rt_nil ?_ | (refine isRun ?_; first | refine x1 ?_ | refine x2 ?_ | refine x3 fun _ => ?_ | refine x4 fun _ => ?_ | refine x5 fun _ => ?_ | (refine rt_step rfl rfl rfl ?_; first | refine st_buildSlice rfl (zr rfl) rfl rfl rfl rfl rfl rfl fun _ => ?_ | refine st_A rfl rfl (fun _ => rfl) rfl fun _ => ?_) | refine x8 ?_ | refine rt_skip rfl rfl rfl ?_ | refine rt_skip0 rfl rfl ?_)) | (first | refine sq_n ?_ | refine sq_r ?_ | refine sq_e ?_ | refine bk_n ?_ | refine bk_r ?_ | refine bk_e rfl ?_ | refine bk_x rfl ?_ | refine ct_seq ?_ | refine ct_region rfl ?_ | refine ct_skip ?_ | refine ct_label ?_ | refine ct_block ?_ | refine ct_exit ?_ | refine ct_ret ?_ | refine ct_scope ?_ | refine ct_true rfl ?_ | refine ct_false rfl ?_ | refine lt_step ?_))
  refine rt_step rfl rfl rfl (st_invoke rfl rfl (met_q B0 old (qLen B0 old) (by unfold QH; exact in_auto)) rfl rfl (qlen_ct b c _ ?_))
  repeat (first | (first | refine rt_nil ?_ | (refine isRun ?_; first | refine x1 ?_ | refine x2 ?_ | refine x3 fun _ => ?_ | refine x4 fun _ => ?_ | refine x5 fun _ => ?_ | (refine rt_step rfl rfl rfl ?_; first | refine st_buildSlice rfl (zr rfl) rfl rfl rfl rfl rfl rfl fun _ => ?_ | refine st_A rfl rfl (fun _ => rfl) rfl fun _ => ?_) | refine x8 ?_ | refine rt_skip rfl rfl rfl ?_ | refine rt_skip0 rfl rfl ?_)) | (first | refine sq_n ?_ | refine sq_r ?_ | refine sq_e ?_ | refine bk_n ?_ | refine bk_r ?_ | refine bk_e rfl ?_ | refine bk_x rfl ?_ | refine ct_seq ?_ | refine ct_region rfl ?_ | refine ct_skip ?_ | refine ct_label ?_ | refine ct_block ?_ | refine ct_exit ?_ | refine ct_ret ?_ | refine ct_scope ?_ | refine ct_true rfl ?_ | refine ct_false rfl ?_ | refine lt_step ?_))
  have hn1 : (I.length : Int) - 1 = ((I.length - 1 : Nat) : Int) := by omega
  rw [hn1]
  refine rt_step rfl rfl rfl (st_invoke rfl rfl (met_q B0 old (qSwap B0 old) (by unfold QH; exact in_auto)) rfl rfl (qswap_ct 0 (I.length - 1) (I.getD 0 ⟨0, 0⟩) (I.getD (I.length - 1) ⟨0, 0⟩) hq (getD_at (by omega)) (getD_at (by omega)) fun w H2 hq2 => ?_))
  have hs : swp I 0 (I.length - 1) = (I.set 0 (I.getD (I.length - 1) ⟨0, 0⟩)).set (I.length - 1) (I.getD 0 ⟨0, 0⟩) := rfl
  rw [← hs] at hq2
  have hsl := swp_len I 0 (I.length - 1)
  have hdn : DnI (swp I 0 (I.length - 1)) (I.length - 1) 0 := IsHp.swap (n := I.length - 1) (by rw [show I.length - 1 + 1 = I.length from by omega]; exact hh) (by omega)
  repeat (first | (first | refine rt_nil ?_ | (refine isRun ?_; first | refine x1 ?_ | refine x2 ?_ | refine x3 fun _ => ?_ | refine x4 fun _ => ?_ | refine x5 fun _ => ?_ | (refine rt_step rfl rfl rfl ?_; first | refine st_buildSlice rfl (zr rfl) rfl rfl rfl rfl rfl rfl fun _ => ?_ | refine st_A rfl rfl (fun _ => rfl) rfl fun _ => ?_) | refine x8 ?_ | refine rt_skip rfl rfl rfl ?_ | refine rt_skip0 rfl rfl ?_)) | (first | refine sq_n ?_ | refine sq_r ?_ | refine sq_e ?_ | refine bk_n ?_ | refine bk_r ?_ | refine bk_e rfl ?_ | refine bk_x rfl ?_ | refine ct_seq ?_ | refine ct_region rfl ?_ | refine ct_skip ?_ | refine ct_label ?_ | refine ct_block ?_ | refine ct_exit ?_ | refine ct_ret ?_ | refine ct_scope ?_ | refine ct_true rfl ?_ | refine ct_false rfl ?_ | refine lt_step ?_))
  refine rt_step rfl rfl rfl (st_call rfl rfl rfl rfl (down_ct (I := swp I 0 (I.length - 1)) (I.length - 1) hq2 (by omega) hdn (by omega) fun w2 J H3 hp hfar hh' hq3 => ?_))
  have hJl : J.length = I.length := hp.length_eq.trans hsl
  have hlast : J.getD (I.length - 1) ⟨0, 0⟩ = I.getD 0 ⟨0, 0⟩ := by
    rw [hfar _ (Nat.le_refl _), swp_getD (by omega) (by omega), if_pos rfl]
  have hsplit : J = J.take (I.length - 1) ++ [I.getD 0 ⟨0, 0⟩] := by
    conv => lhs; rw [← List.take_append_drop (I.length - 1) J]
    congr 1
    rw [List.drop_eq_getElem_cons (by omega), List.drop_of_length_le (by omega)]
    rw [List.getD_eq_getElem?_getD, List.getElem?_eq_getElem (by omega)] at hlast
    exact congrArg (· :: []) hlast
  obtain ⟨J0, hJ0⟩ : ∃ j, j = J.take (I.length - 1) := ⟨_, rfl⟩
  rw [← hJ0] at hsplit
  have hJ0l : J0.length = I.length - 1 := by rw [hJ0, List.length_take]; omega
  have hperm : (I.getD 0 ⟨0, 0⟩ :: J0).Perm I := by
    refine (List.perm_append_comm (l₁ := [I.getD 0 ⟨0, 0⟩]) (l₂ := J0)).trans ?_
    rw [← hsplit]
    exact hp.trans (swp_perm (by omega) (by omega))
  rw [hsplit] at hq3 hh'
  repeat (first | (first | refine rt_nil ?_ | (refine isRun ?_; first | refine x1 ?_ | refine x2 ?_ | refine x3 fun _ => ?_ | refine x4 fun _ => ?_ | refine x5 fun _ => ?_ | (refine rt_step rfl rfl rfl ?_; first | refine st_buildSlice rfl (zr rfl) rfl rfl rfl rfl rfl rfl fun _ => ?_ | refine st_A rfl rfl (fun _ => rfl) rfl fun _ => ?_) | refine x8 ?_ | refine rt_skip rfl rfl rfl ?_ | refine rt_skip0 rfl rfl ?_)) | (first | refine sq_n ?_ | refine sq_r ?_ | refine sq_e ?_ | refine bk_n ?_ | refine bk_r ?_ | refine bk_e rfl ?_ | refine bk_x rfl ?_ | refine ct_seq ?_ | refine ct_region rfl ?_ | refine ct_skip ?_ | refine ct_label ?_ | refine ct_block ?_ | refine ct_exit ?_ | refine ct_ret ?_ | refine ct_scope ?_ | refine ct_true rfl ?_ | refine ct_false rfl ?_ | refine lt_step ?_))
  refine rt_step rfl rfl rfl (st_invoke rfl rfl (met_ptr (e := 74) rfl (qPop B0 old)) rfl rfl (qpop_ct (I := J0) (I.getD 0 ⟨0, 0⟩) hq3 (by omega) fun v' hq4 => ?_))
  repeat (first | (first | refine rt_nil ?_ | (refine isRun ?_; first | refine x1 ?_ | refine x2 ?_ | refine x3 fun _ => ?_ | refine x4 fun _ => ?_ | refine x5 fun _ => ?_ | (refine rt_step rfl rfl rfl ?_; first | refine st_buildSlice rfl (zr rfl) rfl rfl rfl rfl rfl rfl fun _ => ?_ | refine st_A rfl rfl (fun _ => rfl) rfl fun _ => ?_) | refine x8 ?_ | refine rt_skip rfl rfl rfl ?_ | refine rt_skip0 rfl rfl ?_)) | (first | refine sq_n ?_ | refine sq_r ?_ | refine sq_e ?_ | refine bk_n ?_ | refine bk_r ?_ | refine bk_e rfl ?_ | refine bk_x rfl ?_ | refine ct_seq ?_ | refine ct_region rfl ?_ | refine ct_skip ?_ | refine ct_label ?_ | refine ct_block ?_ | refine ct_exit ?_ | refine ct_ret ?_ | refine ct_scope ?_ | refine ct_true rfl ?_ | refine ct_false rfl ?_ | refine lt_step ?_))
  exact re_1 rfl rfl (List.Sublist.refl _) (h J0 v' H3 hperm (by rw [hJ0l]; exact hh'.take hJ0l.symm) hq4)
end
end Go.Proofs.Ytdaigoiekkofoaa.Abs
