/- Contracts: times that are forgotten. -/
import Derived.Test.YtoimfchhmocgeaaAuto
import Derived.Test.YtoimfchhmocgeaaStr
import Derived.Test.YtoimfchhmocgeaaQa
import Derived.Test.YtoimfchhmocgeaaQb
import Derived.Test.YtoimfchhmocgeaaNext0
namespace Go.Proofs.Ytoimfchhmocgeaa.Abs
open Go
set_option linter.unusedVariables false
/-- A time that is kept. -/
def keepT (u t : Int) : Bool := !decide (t ≤ u)
section
variable {B0 : Nat} {old : Nat → Option (List Value)} {n : Nat} {H G : Hp} {Q : Value → Hp → Prop} {v : Value} {L : List Int} {bu : Nat} {u : Int}
set_option maxRecDepth 10000
set_option maxHeartbeats 4000000
theorem until76_ct (t : Int) (hu : (bu, AObj.row [.int .i64 u] 1 false) ∈ H) (hQ : Q (.bool (decide (t ≤ u))) H) : CallT (cx B0 old) (acall (cx B0 old) ansP (n + 1)) 76 [.int .i64 t, .pointer (some ⟨bu, 0, none⟩)] H Q := by
  refine call_in2 7 rfl Try.func76 rfl rfl ?_
  have hL0 : ∀ H', H.Sublist H' → LdT (cx B0 old) 3 H' bu 0 (.int .i64 u) := fun H' hs => by
    unfold LdT
    exact fun l y hy => rd_load1 hy (.own _ _ (hs.subset hu)) rfl (sz rfl) rfl
  repeat (first | refine Z0 ?_ | (refine ZR ?_; first | refine x1 ?_ | refine x2 ?_ | refine x8 ?_ | refine Z1 ?_ | refine Z2 ?_ | refine x3 fun _ => ?_ | refine x4 fun _ => ?_ | refine x5 fun _ => ?_ | refine Z3 fun _ => ?_ | refine Z4 fun _ => ?_) | refine ZC ?_)
  exact re_1 rfl rfl (List.Sublist.refl _) hQ
theorem index83_ct {ad : Option Addr} {c : Nat} (ha : Arr (cx B0 old) H ad 1 enV L) (hu : (bu, AObj.row [.int .i64 u] 1 false) ∈ H) (hl : L.length ≤ 100000)
    (hyes : ∀ (i : Nat) (x : Int), L[i]? = some x → x ≤ u → (∀ (j : Nat) (y : Int), j < i → L[j]? = some y → ¬ y ≤ u) → Q (.int .i64 (i : Int)) H) (hno : (∀ x ∈ L, ¬ x ≤ u) → Q (.int .i64 (-1)) H) :
    CallT (cx B0 old) (acall (cx B0 old) ansP (n + 2)) 83 [.slice ad L.length c, .func (.func 76) #[] #[.pointer (some ⟨bu, 0, none⟩)]] H Q := by
  refine call_in2 19 rfl Try.func83 rfl rfl ?_
  repeat (first | refine Z0 ?_ | (refine ZR ?_; first | refine x1 ?_ | refine x2 ?_ | refine x8 ?_ | refine Z1 ?_ | refine Z2 ?_ | refine x3 fun _ => ?_ | refine x4 fun _ => ?_ | refine x5 fun _ => ?_ | refine Z3 fun _ => ?_ | refine Z4 fun _ => ?_) | refine ZC ?_)
  refine loop_ind (ι := Nat) 0 (fun i => L.length - i) (fun i => i ≤ L.length ∧ ∀ (j : Nat) (y : Int), j < i → L[j]? = some y → ¬ y ≤ u) (fun i => [(8, .int .i64 (i : Int)), (7, .int .i64 (L.length : Int)), (0, .slice ad L.length c), (1, .func (.func 76) #[] #[.pointer (some ⟨bu, 0, none⟩)])]) (fun _ => H) ⟨Nat.zero_le _, fun j y hj => absurd hj (Nat.not_lt_zero _)⟩ (by repeat (first | exact SubL.nil | refine SubL.cons rfl ?_)) (List.Sublist.refl _) ?_
  rintro i ⟨hi, hall⟩
  repeat (first | refine Z0 ?_ | (refine ZR ?_; first | refine x1 ?_ | refine x2 ?_ | refine x8 ?_ | refine Z1 ?_ | refine Z2 ?_ | refine x3 fun _ => ?_ | refine x4 fun _ => ?_ | refine x5 fun _ => ?_ | refine Z3 fun _ => ?_ | refine Z4 fun _ => ?_) | refine ZC ?_)
  refine ct_condT te_d rfl (fun hlt => ?_) (fun hlt => ?_)
  · obtain ⟨x, hx⟩ : ∃ x, L[i]? = some x := ⟨_, List.getElem?_eq_getElem (by omega)⟩
    obtain ⟨b1, o1, e1, hL0⟩ := ha.ld1 3 hx rfl rfl (sz rfl)
    subst e1
    repeat (first | refine Z0 ?_ | (refine ZR ?_; first | refine x1 ?_ | refine x2 ?_ | refine x8 ?_ | refine Z1 ?_ | refine Z2 ?_ | refine x3 fun _ => ?_ | refine x4 fun _ => ?_ | refine x5 fun _ => ?_ | refine Z3 fun _ => ?_ | refine Z4 fun _ => ?_) | refine ZC ?_)
    refine rt_step rfl rfl rfl (st_call rfl rfl rfl rfl (until76_ct x hu ?_))
    repeat (first | refine Z0 ?_ | (refine ZR ?_; first | refine x1 ?_ | refine x2 ?_ | refine x8 ?_ | refine Z1 ?_ | refine Z2 ?_ | refine x3 fun _ => ?_ | refine x4 fun _ => ?_ | refine x5 fun _ => ?_ | refine Z3 fun _ => ?_ | refine Z4 fun _ => ?_) | refine ZC ?_)
    refine ct_condT te_d rfl (fun hc => ?_) (fun hc => ?_)
    · repeat (first | refine Z0 ?_ | (refine ZR ?_; first | refine x1 ?_ | refine x2 ?_ | refine x8 ?_ | refine Z1 ?_ | refine Z2 ?_ | refine x3 fun _ => ?_ | refine x4 fun _ => ?_ | refine x5 fun _ => ?_ | refine Z3 fun _ => ?_ | refine Z4 fun _ => ?_) | refine ZC ?_)
      exact re_1 rfl rfl (List.Sublist.refl _) (hyes i x hx hc hall)
    · repeat (first | refine Z0 ?_ | (refine ZR ?_; first | refine x1 ?_ | refine x2 ?_ | refine x8 ?_ | refine Z1 ?_ | refine Z2 ?_ | refine x3 fun _ => ?_ | refine x4 fun _ => ?_ | refine x5 fun _ => ?_ | refine Z3 fun _ => ?_ | refine Z4 fun _ => ?_) | refine ZC ?_)
      exact ⟨i + 1, ⟨by omega, fun j y hj hy => by
        by_cases e : j = i
        · subst e
          obtain rfl := Option.some.inj (hx.symm.trans hy)
          exact hc
        · exact hall j y (by omega) hy⟩, by omega, by repeat (first | exact SubL.nil | refine SubL.cons rfl ?_), List.Sublist.refl _⟩
  · repeat (first | refine Z0 ?_ | (refine ZR ?_; first | refine x1 ?_ | refine x2 ?_ | refine x8 ?_ | refine Z1 ?_ | refine Z2 ?_ | refine x3 fun _ => ?_ | refine x4 fun _ => ?_ | refine x5 fun _ => ?_ | refine Z3 fun _ => ?_ | refine Z4 fun _ => ?_) | refine ZC ?_)
    exact re_1 rfl rfl (List.Sublist.refl _) (hno fun x hx => by
      obtain ⟨j, hj⟩ := List.mem_iff_getElem?.1 hx
      have := (List.getElem?_eq_some_iff.1 hj).1
      exact hall j x (by omega) hj)
theorem keep_all {u : Int} {L : List Int} (h : ∀ x ∈ L, ¬ x ≤ u) : L.filter (keepT u) = L := List.filter_eq_self.2 fun x hx => by unfold keepT; simp [h x hx]
theorem delete75_ct (ho : OwnI L v G) (hu : (bu, AObj.row [.int .i64 u] 1 false) ∈ H) (hl : L.length ≤ 100000) (hQ : ∀ v' G', OwnI (L.filter (keepT u)) v' G' → Q v' (G' ++ H)) :
    CallT (cx B0 old) (acall (cx B0 old) ansP (n + 3)) 75 [v, .func (.func 76) #[] #[.pointer (some ⟨bu, 0, none⟩)]] (G ++ H) Q := by
  refine call_in2 42 rfl Try.func75 rfl rfl ?_
  have ho2 := ho.own
  obtain ⟨ad, c, ev, ga⟩ := ho2.arrW (C := cx B0 old) enV_len
  subst ev
  have haw : Arr (cx B0 old) (G ++ H) ad 1 enV L := (ga [] H).arr enV_len
  repeat (first | refine Z0 ?_ | (refine ZR ?_; first | refine x1 ?_ | refine x2 ?_ | refine x8 ?_ | refine Z1 ?_ | refine Z2 ?_ | refine x3 fun _ => ?_ | refine x4 fun _ => ?_ | refine x5 fun _ => ?_ | refine Z3 fun _ => ?_ | refine Z4 fun _ => ?_) | refine ZC ?_)
  refine rt_step rfl rfl rfl (st_call rfl rfl rfl rfl (index83_ct haw (List.mem_append_right _ hu) hl (fun i x hx hxu hall => ?_) (fun hno => ?_)))
  rotate_left
  · rw [keep_all hno] at hQ
    repeat (first | refine Z0 ?_ | (refine ZR ?_; first | refine x1 ?_ | refine x2 ?_ | refine x8 ?_ | refine Z1 ?_ | refine Z2 ?_ | refine x3 fun _ => ?_ | refine x4 fun _ => ?_ | refine x5 fun _ => ?_ | refine Z3 fun _ => ?_ | refine Z4 fun _ => ?_) | refine ZC ?_)
    exact re_1 rfl rfl (List.Sublist.refl _) (hQ _ _ ho)
  have hil := (List.getElem?_eq_some_iff.1 hx).1
  repeat (first | refine Z0 ?_ | (refine ZR ?_; first | refine x1 ?_ | refine x2 ?_ | refine x8 ?_ | refine Z1 ?_ | refine Z2 ?_ | refine x3 fun _ => ?_ | refine x4 fun _ => ?_ | refine x5 fun _ => ?_ | refine Z3 fun _ => ?_ | refine Z4 fun _ => ?_) | refine ZC ?_)
  rw [show ((i : Int) == -1) = false by simp]
  repeat (first | refine Z0 ?_ | (refine ZR ?_; first | refine x1 ?_ | refine x2 ?_ | refine x8 ?_ | refine Z1 ?_ | refine Z2 ?_ | refine x3 fun _ => ?_ | refine x4 fun _ => ?_ | refine x5 fun _ => ?_ | refine Z3 fun _ => ?_ | refine Z4 fun _ => ?_) | refine ZC ?_)
  refine loop_ind (ι := Nat × Nat × List Int × Hp) (i + 1, i, L, G) (fun j => L.length - j.1) (fun j => j.1 ≤ L.length ∧ j.2.1 < j.1 ∧ j.2.2.1.length = L.length ∧ j.2.2.1.take j.2.1 = (L.take j.1).filter (keepT u) ∧ j.2.2.1.drop j.1 = L.drop j.1 ∧ OwnI j.2.2.1 (.slice ad L.length c) j.2.2.2)
    (fun j => [(6, .int .i64 (j.1 : Int)), (5, .int .i64 (j.2.1 : Int)), (0, .slice ad L.length c), (1, .func (.func 76) #[] #[.pointer (some ⟨bu, 0, none⟩)])]) (fun j => j.2.2.2 ++ H)
    ⟨hil, Nat.lt_succ_self _, rfl, by
      have h1 : L.take (i + 1) = L.take i ++ [x] := by rw [List.take_add_one, hx]; rfl
      have h2 : (L.take i).filter (keepT u) = L.take i := keep_all fun y hy => by
        obtain ⟨j, hj⟩ := List.mem_iff_getElem?.1 hy
        have hji : j < i := by
          have := (List.getElem?_eq_some_iff.1 hj).1
          rw [List.length_take] at this
          omega
        rw [List.getElem?_take_of_lt hji] at hj
        exact hall j y hji hj
      dsimp only
      rw [h1, List.filter_append, h2]
      simp [keepT, hxu], rfl, ho⟩ (by repeat (first | exact SubL.nil | refine SubL.cons rfl ?_)) (List.Sublist.refl _) ?_
  clear ho ho2 ga haw hall hx hxu hil
  rintro ⟨j, k, M, Gm⟩ ⟨hj, hkj, hM, hp, hd, om⟩
  dsimp only at hj hkj hM hp hd om ⊢
  repeat (first | refine Z0 ?_ | (refine ZR ?_; first | refine x1 ?_ | refine x2 ?_ | refine x8 ?_ | refine Z1 ?_ | refine Z2 ?_ | refine x3 fun _ => ?_ | refine x4 fun _ => ?_ | refine x5 fun _ => ?_ | refine Z3 fun _ => ?_ | refine Z4 fun _ => ?_) | refine ZC ?_)
  refine ct_condT te_d rfl (fun hlt => ?_) (fun hlt => ?_)
  · obtain ⟨y, hy⟩ : ∃ y, L[j]? = some y := ⟨_, List.getElem?_eq_getElem (by omega)⟩
    have hyM : M[j]? = some y := by
      have h1 : (M.drop j)[0]? = (L.drop j)[0]? := by rw [hd]
      rw [List.getElem?_drop, List.getElem?_drop] at h1
      exact h1.trans hy
    have htk : L.take (j + 1) = L.take j ++ [y] := by rw [List.take_add_one, hy]; rfl
    have hd1 : M.drop (j + 1) = L.drop (j + 1) := by
      have h1 : (M.drop j).drop 1 = (L.drop j).drop 1 := by rw [hd]
      rwa [List.drop_drop, List.drop_drop] at h1
    obtain ⟨adm, cm, em, gm⟩ := om.own.arrW (C := cx B0 old) enV_len
    rw [hM] at em
    cases em
    obtain ⟨b1, o1, e1, hL0⟩ := ((gm [] H).arr enV_len).ld1 3 hyM rfl rfl (sz rfl)
    obtain ⟨z, hz⟩ : ∃ z, M[k]? = some z := ⟨_, List.getElem?_eq_getElem (by omega)⟩
    obtain ⟨Gz, oz, bb, cb, eb, hst⟩ := om.set (C := cx B0 old) (t := 3) (a' := y) hz (sz rfl)
    rw [hM] at eb
    cases eb
    cases e1
    repeat (first | refine Z0 ?_ | (refine ZR ?_; first | refine x1 ?_ | refine x2 ?_ | refine x8 ?_ | refine Z1 ?_ | refine Z2 ?_ | refine x3 fun _ => ?_ | refine x4 fun _ => ?_ | refine x5 fun _ => ?_ | refine Z3 fun _ => ?_ | refine Z4 fun _ => ?_) | refine ZC ?_)
    refine rt_step rfl rfl rfl (st_call rfl rfl rfl rfl (until76_ct y (List.mem_append_right _ hu) ?_))
    repeat (first | refine Z0 ?_ | (refine ZR ?_; first | refine x1 ?_ | refine x2 ?_ | refine x8 ?_ | refine Z1 ?_ | refine Z2 ?_ | refine x3 fun _ => ?_ | refine x4 fun _ => ?_ | refine x5 fun _ => ?_ | refine Z3 fun _ => ?_ | refine Z4 fun _ => ?_) | refine ZC ?_)
    by_cases hyu : y ≤ u
    · have hk : keepT u y = false := by unfold keepT; simp [hyu]
      rw [show decide (y ≤ u) = true from decide_eq_true hyu]
      repeat (first | refine Z0 ?_ | (refine ZR ?_; first | refine x1 ?_ | refine x2 ?_ | refine x8 ?_ | refine Z1 ?_ | refine Z2 ?_ | refine x3 fun _ => ?_ | refine x4 fun _ => ?_ | refine x5 fun _ => ?_ | refine Z3 fun _ => ?_ | refine Z4 fun _ => ?_) | refine ZC ?_)
      exact ⟨(j + 1, k, M, Gm), ⟨by dsimp only; omega, by dsimp only; omega, hM, by dsimp only; rw [hp, htk, List.filter_append]; simp [hk], hd1, om⟩, by dsimp only; omega, by repeat (first | exact SubL.nil | refine SubL.cons rfl ?_), List.Sublist.refl _⟩
    · have hk : keepT u y = true := by unfold keepT; simp [hyu]
      rw [show decide (y ≤ u) = false from decide_eq_false hyu]
      repeat (first | refine Z0 ?_ | (refine ZR ?_; first | refine x1 ?_ | refine x2 ?_ | refine x8 ?_ | refine Z1 ?_ | refine Z2 ?_ | refine x3 fun _ => ?_ | refine x4 fun _ => ?_ | refine x5 fun _ => ?_ | refine Z3 fun _ => ?_ | refine Z4 fun _ => ?_) | refine ZC ?_)
      refine rt_st rfl rfl rfl rfl rfl (hst [] _) ?_
      repeat (first | refine Z0 ?_ | (refine ZR ?_; first | refine x1 ?_ | refine x2 ?_ | refine x8 ?_ | refine Z1 ?_ | refine Z2 ?_ | refine x3 fun _ => ?_ | refine x4 fun _ => ?_ | refine x5 fun _ => ?_ | refine Z3 fun _ => ?_ | refine Z4 fun _ => ?_) | refine ZC ?_)
      exact ⟨(j + 1, k + 1, M.set k y, Gz), ⟨by dsimp only; omega, by dsimp only; omega, by dsimp only; rw [List.length_set]; exact hM, by
        dsimp only
        rw [htk, List.filter_append, ← hp, List.take_add_one, List.getElem?_set_self (by omega), List.take_set_of_le (by omega)]
        simp [hk], by
        dsimp only
        rw [List.drop_set_of_lt (by omega)]
        exact hd1, oz⟩, by dsimp only; omega, by repeat (first | exact SubL.nil | refine SubL.cons rfl ?_), List.Sublist.refl _⟩
  obtain rfl : j = L.length := by omega
  rw [List.take_length] at hp
  obtain ⟨xs, w, Gc, e1, e2, oc, hcl⟩ := om.clr (C := cx B0 old) (t := 62) (e := 3) (i := k) (by omega) rfl (sz rfl) rfl
  rw [hp] at oc
  repeat (first | refine Z0 ?_ | (refine ZR ?_; first | refine x1 ?_ | refine x2 ?_ | refine x8 ?_ | refine Z1 ?_ | refine Z2 ?_ | refine x3 fun _ => ?_ | refine x4 fun _ => ?_ | refine x5 fun _ => ?_ | refine Z3 fun _ => ?_ | refine Z4 fun _ => ?_) | refine ZC ?_)
  apply rt_p rfl rfl rfl
  case hp => exact p_slc rfl rfl rfl e1
  repeat (first | refine Z0 ?_ | (refine ZR ?_; first | refine x1 ?_ | refine x2 ?_ | refine x8 ?_ | refine Z1 ?_ | refine Z2 ?_ | refine x3 fun _ => ?_ | refine x4 fun _ => ?_ | refine x5 fun _ => ?_ | refine Z3 fun _ => ?_ | refine Z4 fun _ => ?_) | refine ZC ?_)
  refine rt_step0 rfl rfl (hcl [] H _ _ _ _ _ rfl rfl ?_)
  repeat (first | refine Z0 ?_ | (refine ZR ?_; first | refine x1 ?_ | refine x2 ?_ | refine x8 ?_ | refine Z1 ?_ | refine Z2 ?_ | refine x3 fun _ => ?_ | refine x4 fun _ => ?_ | refine x5 fun _ => ?_ | refine Z3 fun _ => ?_ | refine Z4 fun _ => ?_) | refine ZC ?_)
  apply rt_p rfl rfl rfl
  case hp => exact p_slc rfl rfl rfl e2
  repeat (first | refine Z0 ?_ | (refine ZR ?_; first | refine x1 ?_ | refine x2 ?_ | refine x8 ?_ | refine Z1 ?_ | refine Z2 ?_ | refine x3 fun _ => ?_ | refine x4 fun _ => ?_ | refine x5 fun _ => ?_ | refine Z3 fun _ => ?_ | refine Z4 fun _ => ?_) | refine ZC ?_)
  exact re_1 rfl rfl (List.Sublist.refl _) (hQ _ _ oc)
end
end Go.Proofs.Ytoimfchhmocgeaa.Abs

/- The book with at most one address: its state, check, stuck, forget, move. -/
namespace Go.Proofs.Ytoimfchhmocgeaa.Abs
open Go
set_option linter.unusedVariables false
def ekM (k : Kk) : Value := .agg ⟨enK k⟩
def evP (b : Nat) : Value := .pointer (some ⟨b, 0, none⟩)
theorem ekM_eq (K : Kk) : ekM K = .agg ⟨[.int .i64 K.bd, .int .u64 K.mac]⟩ := rfl
theorem evP_eq (b : Nat) : evP b = .pointer (some ⟨b, 0, none⟩) := rfl
theorem KkM.eta {a b : Kk} (h1 : a.bd = b.bd) (h2 : a.mac = b.mac) : a = b := by
  obtain ⟨a1, a2⟩ := a
  obtain ⟨b1, b2⟩ := b
  simp only at h1 h2
  rw [h1, h2]
instance : DecidableEq Kk := fun a b => if h : a.bd = b.bd ∧ a.mac = b.mac then .isTrue (KkM.eta h.1 h.2) else .isFalse fun e => h (by subst e; exact ⟨rfl, rfl⟩)
def moveF (mv : Option (List Int × Bool)) : Bool := match mv with
  | some (_, f) => f
  | none => false
/-- The claim of the address. -/
def ClI (K : Kk) : Option (Int × Bool) → List (Kk × Nat × Nat) → Nat → Hp → Prop
  | none, cs, _, G => cs = [] ∧ G = []
  | some (q, f), cs, cc, G => ∃ b bo, bo < cc ∧ cs = [(K, b, bo)] ∧ G = [(b, .row [.int .u32 q, .bool f] 2 false)]
section
variable {B0 : Nat} {old : Nat → Option (List Value)} {n : Nat} {H G : Hp} {Q : Value → Hp → Prop} {p cb mb cc mc : Nat} {lim win last : Int} {cs ms : List (Kk × Nat × Nat)} {K : Kk} {mv : Option (List Int × Bool)} {L : List Int} {v : Value}
set_option maxRecDepth 10000
set_option maxHeartbeats 4000000
theorem akeyM (a b : Int) : (akeyOk (cx B0 old) 10000 91 (.agg ⟨[.int .i64 a, .int .u64 b]⟩) && scal (.agg ⟨[.int .i64 a, .int .u64 b]⟩)) = true := by kernel_rfl
theorem bitsM (a b : Int) : Instr.sameBits 10000 (.agg ⟨[.int .i64 a, .int .u64 b]⟩) (.agg ⟨[.int .i64 a, .int .u64 b]⟩) = true := by
  show Instr.sameBits (9999 + 1) _ _ = true
  simp [Instr.sameBits]
theorem lvM : leavesE (cx B0 old) 20 91 = some [3, 25] := by kernel_rfl
theorem eqM (a b : Kk) : leafsEq (enK a) (enK b) = decide (a = b) := by
  simp only [leafsEq, leafEq, enK]
  by_cases h : a = b
  · subst h; simp
  · rw [decide_eq_false h]
    by_cases h1 : a.bd = b.bd
    · have h2 : a.mac ≠ b.mac := fun g => h (KkM.eta h1 g)
      simp [h1, h2]
    · simp [h1]
theorem keyMapC : KeyMap (cx B0 old) 82 ekM (.pointer none) := by
  refine ⟨⟨91, 92, _, rfl, fun k => akeyM _ _, fun a b => ?_, rfl, rfl, rfl⟩, fun k => bitsM _ _⟩
  obtain ⟨g, hg', hE⟩ := eqOk 20 91 _ (lvM (B0 := B0) (old := old))
  obtain ⟨x, y, ha, hb, _, he⟩ := hE (enK a) (enK b) rfl rfl Op.maxDepth (by decide)
  have hg : aggAt (cx B0 old) 91 = some true := rfl
  rw [hg] at hg'
  cases hg'
  cases ha
  cases hb
  rw [← eqM]
  exact he
theorem keyMapM : KeyMap (cx B0 old) 83 ekM (.pointer none) := by
  refine ⟨⟨91, 125, _, rfl, fun k => akeyM _ _, fun a b => ?_, rfl, rfl, rfl⟩, fun k => bitsM _ _⟩
  obtain ⟨g, hg', hE⟩ := eqOk 20 91 _ (lvM (B0 := B0) (old := old))
  obtain ⟨x, y, ha, hb, _, he⟩ := hE (enK a) (enK b) rfl rfl Op.maxDepth (by decide)
  have hg : aggAt (cx B0 old) 91 = some true := rfl
  rw [hg] at hg'
  cases hg'
  cases ha
  cases hb
  rw [← eqM]
  exact he
theorem invB45_ct {r : List Value} (h : Q (.bool false) ((p, .row (.int .i64 lim :: .int .i64 win :: .int .i64 last :: .map (some cb) :: r) 5 false) :: H)) :
    CallT (cx B0 old) (acall (cx B0 old) ansP (n + 1)) 45 [.pointer (some ⟨p, 0, none⟩)] ((p, .row (.int .i64 lim :: .int .i64 win :: .int .i64 last :: .map (some cb) :: r) 5 false) :: H) Q := by
  refine call_in1 12 rfl Try.func45 rfl rfl ?_
  repeat (first | refine Z0 ?_ | (refine ZR ?_; first | refine x1 ?_ | refine x2 ?_ | refine x8 ?_ | refine Z1 ?_ | refine Z2 ?_ | refine x3 fun _ => ?_ | refine x4 fun _ => ?_ | refine x5 fun _ => ?_ | refine Z3 fun _ => ?_ | refine Z4 fun _ => ?_) | refine ZC ?_)
  exact re_1 rfl rfl (List.Sublist.refl _) h
/-- What check answers. -/
def chkT (last now : Int) : Int := if now < 0 ∨ now > 1099511627776 then 2 else if now < last then 20 else 0
theorem check43_ct (now : Int) (h : Q (.int .i64 (chkT last now)) ((p, AObj.row [.int .i64 lim, .int .i64 win, .int .i64 last, .map (some cb), .map (some mb)] 5 false) :: (cb, AObj.map (mkH ekM evP cs) cc) :: (mb, AObj.map (mkH ekM evP ms) mc) :: H)) : CallT (cx B0 old) (acall (cx B0 old) ansP (n + 2)) 43 [.pointer (some ⟨p, 0, none⟩), .int .i64 now] ((p, AObj.row [.int .i64 lim, .int .i64 win, .int .i64 last, .map (some cb), .map (some mb)] 5 false) :: (cb, AObj.map (mkH ekM evP cs) cc) :: (mb, AObj.map (mkH ekM evP ms) mc) :: H) Q := by
  refine call_in2 22 rfl Try.func43 rfl rfl ?_
  unfold chkT at h
  repeat (first | refine Z0 ?_ | (refine ZR ?_; first | refine x1 ?_ | refine x2 ?_ | refine x8 ?_ | refine Z1 ?_ | refine Z2 ?_ | refine x3 fun _ => ?_ | refine x4 fun _ => ?_ | refine x5 fun _ => ?_ | refine Z3 fun _ => ?_ | refine Z4 fun _ => ?_) | refine ZC ?_)
  refine rt_step rfl rfl rfl (st_call rfl rfl rfl rfl (invB45_ct ?_))
  repeat (first | refine Z0 ?_ | (refine ZR ?_; first | refine x1 ?_ | refine x2 ?_ | refine x8 ?_ | refine Z1 ?_ | refine Z2 ?_ | refine x3 fun _ => ?_ | refine x4 fun _ => ?_ | refine x5 fun _ => ?_ | refine Z3 fun _ => ?_ | refine Z4 fun _ => ?_) | refine ZC ?_)
  by_cases h1 : now < 0
  · rw [if_pos (.inl h1)] at h
    rw [show decide (now < 0) = true from decide_eq_true h1]
    repeat (first | refine Z0 ?_ | (refine ZR ?_; first | refine x1 ?_ | refine x2 ?_ | refine x8 ?_ | refine Z1 ?_ | refine Z2 ?_ | refine x3 fun _ => ?_ | refine x4 fun _ => ?_ | refine x5 fun _ => ?_ | refine Z3 fun _ => ?_ | refine Z4 fun _ => ?_) | refine ZC ?_)
    exact re_1 rfl rfl (List.Sublist.refl _) h
  rw [show decide (now < 0) = false from decide_eq_false h1]
  repeat (first | refine Z0 ?_ | (refine ZR ?_; first | refine x1 ?_ | refine x2 ?_ | refine x8 ?_ | refine Z1 ?_ | refine Z2 ?_ | refine x3 fun _ => ?_ | refine x4 fun _ => ?_ | refine x5 fun _ => ?_ | refine Z3 fun _ => ?_ | refine Z4 fun _ => ?_) | refine ZC ?_)
  refine ct_condT te_d rfl (fun h2 => ?_) (fun h2 => ?_)
  · rw [if_pos (.inr h2)] at h
    repeat (first | refine Z0 ?_ | (refine ZR ?_; first | refine x1 ?_ | refine x2 ?_ | refine x8 ?_ | refine Z1 ?_ | refine Z2 ?_ | refine x3 fun _ => ?_ | refine x4 fun _ => ?_ | refine x5 fun _ => ?_ | refine Z3 fun _ => ?_ | refine Z4 fun _ => ?_) | refine ZC ?_)
    exact re_1 rfl rfl (List.Sublist.refl _) h
  rw [if_neg (by omega)] at h
  repeat (first | refine Z0 ?_ | (refine ZR ?_; first | refine x1 ?_ | refine x2 ?_ | refine x8 ?_ | refine Z1 ?_ | refine Z2 ?_ | refine x3 fun _ => ?_ | refine x4 fun _ => ?_ | refine x5 fun _ => ?_ | refine Z3 fun _ => ?_ | refine Z4 fun _ => ?_) | refine ZC ?_)
  refine ct_condT te_d rfl (fun h3 => ?_) (fun h3 => ?_)
  · rw [if_pos h3] at h
    repeat (first | refine Z0 ?_ | (refine ZR ?_; first | refine x1 ?_ | refine x2 ?_ | refine x8 ?_ | refine Z1 ?_ | refine Z2 ?_ | refine x3 fun _ => ?_ | refine x4 fun _ => ?_ | refine x5 fun _ => ?_ | refine Z3 fun _ => ?_ | refine Z4 fun _ => ?_) | refine ZC ?_)
    exact re_1 rfl rfl (List.Sublist.refl _) h
  · rw [if_neg h3] at h
    repeat (first | refine Z0 ?_ | (refine ZR ?_; first | refine x1 ?_ | refine x2 ?_ | refine x8 ?_ | refine Z1 ?_ | refine Z2 ?_ | refine x3 fun _ => ?_ | refine x4 fun _ => ?_ | refine x5 fun _ => ?_ | refine Z3 fun _ => ?_ | refine Z4 fun _ => ?_) | refine ZC ?_)
    exact re_1 rfl rfl (List.Sublist.refl _) h
theorem fg_p {t u : Nat × AObj} {G H : Hp} : (G ++ (t :: u :: H)).Perm (t :: u :: (G ++ H)) := List.perm_middle.trans (List.Perm.cons _ List.perm_middle)
theorem forget63_ct {b : Nat} {f : Bool} (ho : OwnI L v G) (hl : L.length ≤ 100000) (u : Int) (hQ : ∀ w v' G', OwnI (L.filter (keepT u)) v' G' → Q w ((b, .row [v', .bool f] 2 false) :: (G' ++ H))) :
    CallT (cx B0 old) (acall (cx B0 old) ansP (n + 4)) 63 [.pointer (some ⟨b, 0, none⟩), .int .i64 u] ((b, .row [v, .bool f] 2 false) :: (G ++ H)) Q := by
  refine call_in2 13 rfl Try.func63 rfl rfl ?_
  have ho2 := ho
  obtain ⟨ad, c, ev, _⟩ := ho.own.arrW (C := cx B0 old) enV_len
  subst ev
  repeat (first | refine Z0 ?_ | (refine ZR ?_; first | refine x1 ?_ | refine x2 ?_ | refine x8 ?_ | refine Z1 ?_ | refine Z2 ?_ | refine x3 fun _ => ?_ | refine x4 fun _ => ?_ | refine x5 fun _ => ?_ | refine Z3 fun _ => ?_ | refine Z4 fun _ => ?_) | refine ZC ?_)
  rename_i t3
  refine rt_step rfl rfl rfl (st_call rfl rfl rfl rfl (CallT.perm (delete75_ct (H := (t3, AObj.row [.int .i64 u] 1 false) :: (b, AObj.row [.slice ad L.length c, .bool f] 2 false) :: H) (bu := t3) ho2 (List.Mem.head _) hl fun v' G' o' => ?_) fg_p))
  have o2 := o'
  obtain ⟨ad2, c2, ev2, _⟩ := o'.own.arrW (C := cx B0 old) enV_len
  subst ev2
  refine RunT.perm ?_ fg_p.symm
  repeat (first | refine Z0 ?_ | (refine ZR ?_; first | refine x1 ?_ | refine x2 ?_ | refine x8 ?_ | refine Z1 ?_ | refine Z2 ?_ | refine x3 fun _ => ?_ | refine x4 fun _ => ?_ | refine x5 fun _ => ?_ | refine Z3 fun _ => ?_ | refine Z4 fun _ => ?_) | refine ZC ?_)
  exact re_0 rfl (List.Sublist.cons _ (List.Sublist.refl _)) (fun w => hQ w _ G' o2)
end
end Go.Proofs.Ytoimfchhmocgeaa.Abs

/- The book with at most one address: move. -/
namespace Go.Proofs.Ytoimfchhmocgeaa.Abs
open Go
set_option linter.unusedVariables false
theorem mv_p {a b c d e f : Nat × AObj} {G H : Hp} : (d :: e :: f :: b :: (G ++ (a :: c :: H))).Perm ([a, b] ++ (G ++ (c :: d :: e :: f :: H))) := by
  have h1 : (G ++ (a :: c :: H)).Perm (a :: c :: (G ++ H)) := List.perm_middle.trans (List.Perm.cons _ List.perm_middle)
  have h2 : (G ++ (c :: d :: e :: f :: H)).Perm (c :: d :: e :: f :: (G ++ H)) := List.perm_middle.trans (List.Perm.cons _ (List.perm_append_comm_assoc G [d, e, f] H))
  have h3 : (d :: e :: f :: b :: (a :: c :: (G ++ H))).Perm (a :: b :: (c :: d :: e :: f :: (G ++ H))) := by
    refine List.Perm.trans ?_ (List.perm_append_comm_assoc [d, e, f] [a, b, c] (G ++ H))
    exact List.Perm.append_left [d, e, f] (List.Perm.swap _ _ _)
  exact ((List.Perm.append_left [d, e, f, b] h1).trans h3).trans (List.Perm.append_left [a, b] h2.symm)
theorem mv_q {b t d e f : Nat × AObj} {G H : Hp} : (b :: (G ++ (t :: d :: e :: f :: H))).Perm (t :: d :: e :: f :: ((b :: G) ++ H)) :=
  (List.perm_append_comm_assoc (b :: G) [t, d, e, f] H)
section
variable {B0 : Nat} {old : Nat → Option (List Value)} {n : Nat} {H G : Hp} {Q : Value → Hp → Prop} {p cb mb cc mc : Nat} {lim win last : Int} {cs ms : List (Kk × Nat × Nat)} {K : Kk} {mv : Option (List Int × Bool)}
set_option maxRecDepth 10000
set_option maxHeartbeats 8000000
/-- The moves behind a move. -/
def moveL (win now : Int) (mv : Option (List Int × Bool)) : List Int := (match mv with
  | some (L, _) => L
  | none => []).filter (keepT (now - win))
def tooM (lim win now : Int) (mv : Option (List Int × Bool)) : Bool := decide (((moveL win now mv).length : Int) + 1 > lim)
end
end Go.Proofs.Ytoimfchhmocgeaa.Abs

/- The book with at most one address: New, contested, decide. -/
namespace Go.Proofs.Ytoimfchhmocgeaa.Abs
open Go
set_option linter.unusedVariables false
/-- The cells of a settling. -/
def enX (K : Kk) (cp : Value) (r : S27) (self now : Int) : List Value := [.int .i64 K.bd, .int .u64 K.mac, cp, .int .i64 r.a0, .int .u64 r.a1, .int .u32 r.a2, .int .u32 r.a3, .bool r.a4, .int .u32 self, .int .i64 now]
/-- The pointer to a claim. -/
def clV (cl : Option (Int × Bool)) (b : Nat) : Value := match cl with
  | some _ => evP b
  | none => .pointer none
def seqO (cl : Option (Int × Bool)) : Int := match cl with
  | some (q, _) => q
  | none => 0
/-- The claim behind a decision. -/
def decC (R : Int × Bool) : Option (Int × Bool) := match R.2 with
  | true => some (R.1, false)
  | false => none
theorem dc_p {a b c d e : Nat × AObj} {H : Hp} : (c :: d :: e :: a :: b :: H).Perm (a :: b :: c :: d :: e :: H) := List.perm_append_comm_assoc [c, d, e] [a, b] H
section
variable {B0 : Nat} {old : Nat → Option (List Value)} {n : Nat} {H G : Hp} {Q : Value → Hp → Prop} {p cb mb cc mc : Nat} {lim win last : Int} {cs ms : List (Kk × Nat × Nat)} {K : Kk} {cl : Option (Int × Bool)}
set_option maxRecDepth 10000
set_option maxHeartbeats 8000000
theorem newB15_ct (a b : Int) (ha : 1 ≤ a ∧ a ≤ 100) (hb : 1 ≤ b ∧ b ≤ 10000) (hQ : ∀ p cb mb, Q (.tuple #[.pointer (some ⟨p, 0, none⟩), .int .i64 0]) ((p, .row [.int .i64 a, .int .i64 b, .int .i64 0, .map (some cb), .map (some mb)] 5 false) :: (mb, .map (mkH ekM evP []) 0) :: (cb, .map (mkH ekM evP []) 0) :: H)) :
    CallT (cx B0 old) (acall (cx B0 old) ansP (n + 1)) 15 [.int .i64 a, .int .i64 b] H Q := by
  refine call_in2 26 rfl Try.func15 rfl rfl ?_
  repeat (first | refine Z0 ?_ | (refine ZR ?_; first | refine x1 ?_ | refine x2 ?_ | refine x8 ?_ | refine Z1 ?_ | refine Z2 ?_ | refine x3 fun _ => ?_ | refine x4 fun _ => ?_ | refine x5 fun _ => ?_ | refine Z3 fun _ => ?_ | refine Z4 fun _ => ?_) | refine ZC ?_)
  rw [show decide (a < 1) = false by simp; omega]
  repeat (first | refine Z0 ?_ | (refine ZR ?_; first | refine x1 ?_ | refine x2 ?_ | refine x8 ?_ | refine Z1 ?_ | refine Z2 ?_ | refine x3 fun _ => ?_ | refine x4 fun _ => ?_ | refine x5 fun _ => ?_ | refine Z3 fun _ => ?_ | refine Z4 fun _ => ?_) | refine ZC ?_)
  rw [show decide (a > 100) = false by simp; omega]
  repeat (first | refine Z0 ?_ | (refine ZR ?_; first | refine x1 ?_ | refine x2 ?_ | refine x8 ?_ | refine Z1 ?_ | refine Z2 ?_ | refine x3 fun _ => ?_ | refine x4 fun _ => ?_ | refine x5 fun _ => ?_ | refine Z3 fun _ => ?_ | refine Z4 fun _ => ?_) | refine ZC ?_)
  rw [show decide (b < 1) = false by simp; omega]
  repeat (first | refine Z0 ?_ | (refine ZR ?_; first | refine x1 ?_ | refine x2 ?_ | refine x8 ?_ | refine Z1 ?_ | refine Z2 ?_ | refine x3 fun _ => ?_ | refine x4 fun _ => ?_ | refine x5 fun _ => ?_ | refine Z3 fun _ => ?_ | refine Z4 fun _ => ?_) | refine ZC ?_)
  rw [show decide (b > 10000) = false by simp; omega]
  repeat (first | refine Z0 ?_ | (refine ZR ?_; first | refine x1 ?_ | refine x2 ?_ | refine x8 ?_ | refine Z1 ?_ | refine Z2 ?_ | refine x3 fun _ => ?_ | refine x4 fun _ => ?_ | refine x5 fun _ => ?_ | refine Z3 fun _ => ?_ | refine Z4 fun _ => ?_) | refine ZC ?_)
  exact re_2 rfl rfl rfl (List.Sublist.refl _) (hQ _ _ _)
theorem contested67_ct (b : Nat) (r : S27) (self now : Int) (h : Q (.bool (cl.isNone && (r.a3 != 0) && !r.a4)) H) : CallT (cx B0 old) (acall (cx B0 old) ansP (n + 1)) 67 [.agg ⟨enX K (clV cl b) r self now⟩] H Q := by
  refine call_in1 18 rfl Try.func67 rfl rfl ?_
  unfold enX
  cases cl with
  | some q =>
    unfold clV evP
    repeat (first | refine Z0 ?_ | (refine ZR ?_; first | refine x1 ?_ | refine x2 ?_ | refine x8 ?_ | refine Z1 ?_ | refine Z2 ?_ | refine x3 fun _ => ?_ | refine x4 fun _ => ?_ | refine x5 fun _ => ?_ | refine Z3 fun _ => ?_ | refine Z4 fun _ => ?_) | refine ZC ?_)
    exact re_1 rfl rfl (List.Sublist.cons _ (List.Sublist.refl _)) h
  | none =>
    unfold clV
    repeat (first | refine Z0 ?_ | (refine ZR ?_; first | refine x1 ?_ | refine x2 ?_ | refine x8 ?_ | refine Z1 ?_ | refine Z2 ?_ | refine x3 fun _ => ?_ | refine x4 fun _ => ?_ | refine x5 fun _ => ?_ | refine Z3 fun _ => ?_ | refine Z4 fun _ => ?_) | refine ZC ?_)
    by_cases h3 : r.a3 = 0
    · rw [show (r.a3 != 0) = false by simp [h3]] at h ⊢
      repeat (first | refine Z0 ?_ | (refine ZR ?_; first | refine x1 ?_ | refine x2 ?_ | refine x8 ?_ | refine Z1 ?_ | refine Z2 ?_ | refine x3 fun _ => ?_ | refine x4 fun _ => ?_ | refine x5 fun _ => ?_ | refine Z3 fun _ => ?_ | refine Z4 fun _ => ?_) | refine ZC ?_)
      exact re_1 rfl rfl (List.Sublist.cons _ (List.Sublist.refl _)) h
    · rw [show (r.a3 != 0) = true by simp [h3]] at h ⊢
      repeat (first | refine Z0 ?_ | (refine ZR ?_; first | refine x1 ?_ | refine x2 ?_ | refine x8 ?_ | refine Z1 ?_ | refine Z2 ?_ | refine x3 fun _ => ?_ | refine x4 fun _ => ?_ | refine x5 fun _ => ?_ | refine Z3 fun _ => ?_ | refine Z4 fun _ => ?_) | refine ZC ?_)
      exact re_1 rfl rfl (List.Sublist.cons _ (List.Sublist.refl _)) h
end
end Go.Proofs.Ytoimfchhmocgeaa.Abs
