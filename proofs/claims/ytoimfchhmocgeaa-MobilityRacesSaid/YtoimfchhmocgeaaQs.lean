/- The contract of the statement MobilityRaces. -/
import Derived.Test.YtoimfchhmocgeaaQr
import Derived.Test.YtoimfchhmocgeaaQl
namespace Go.Proofs.Ytoimfchhmocgeaa.Abs
open Go
set_option linter.unusedVariables false
def enB4 (b : Bool) : List Value := [.bool b]
theorem enB4_len (x : Bool) : (enB4 x).length = 1 := rfl
theorem offL_set : ∀ {ls : List Lf} {i : Nat} {x : Lf}, ls[i]? = some x → offL (ls.set i ⟨false, x.same, x.cl, x.mv⟩) = offL ls
  | [], i, x, h => by cases i <;> cases h
  | y :: r, 0, x, h => by cases h; rfl
  | y :: r, i + 1, x, h => congrArg (_ :: ·) (offL_set (ls := r) (i := i) h)
theorem offL_all : ∀ {ls : List Lf}, (∀ (i : Nat) (x : Lf), ls[i]? = some x → x.has = false) → offL ls = ls
  | [], _ => rfl
  | y :: r, h => by
    have h0 := h 0 y rfl
    obtain ⟨a, b, c, d⟩ := y
    have h0 : a = false := h0
    subst h0
    exact congrArg (_ :: ·) (offL_all (ls := r) fun i x hx => h (i + 1) x hx)
def lstO (f : Nat → Bool) (j : Nat) : Option Nat := (List.range j).find? f
theorem lstO_succ (f : Nat → Bool) (j : Nat) : lstO f (j + 1) = match lstO f j with
  | some a => some a
  | none => if f j = true then some j else none := by
  unfold lstO
  rw [List.range_succ, List.find?_append]
  cases (List.range j).find? f with
  | some a => rfl
  | none =>
    show ([j].find? f) = _
    rw [List.find?_cons]
    cases f j <;> rfl
theorem lstO_end (f : Nat → Bool) {j : Nat} (hj : j ≤ 5) (h : ∀ i, j ≤ i → f i = false) : leastO f = lstO f j := by
  have key : ∀ k, lstO f (j + k) = lstO f j := by
    intro k
    induction k with
    | zero => rfl
    | succ k ih =>
      have e : lstO f (j + (k + 1)) = lstO f ((j + k) + 1) := rfl
      rw [e, lstO_succ, ih, h (j + k) (by omega)]
      cases lstO f j <;> rfl
  have := key (5 - j)
  rw [show j + (5 - j) = 5 by omega] at this
  exact this
theorem lnO_end (sh : Bool) (f : Nat → Bool) {j : Nat} (hj : j ≤ 5) (h : ∀ i, j ≤ i → f i = false) : lnO sh f j = lnO sh f 5 := by
  refine List.map_congr_left fun i hi => ?_
  have hi := List.mem_range.1 hi
  congr 1
  by_cases hij : i < j
  · have e1 : Nat.blt i j = true := Nat.ble_eq_true_of_le hij
    have e2 : Nat.blt i 5 = true := Nat.ble_eq_true_of_le hi
    rw [e1, e2]
  · rw [h i (by omega), Bool.and_false, Bool.and_false]
def lstV (w : Option Nat) : Int := match w with
  | none => -1
  | some a => (a : Int)
theorem lnO_0 (sh : Bool) (f : Nat → Bool) : lnO sh f 0 = stO none := List.map_congr_left fun i _ => rfl
def learnsF (Bs : List Bool) (i : Nat) : Bool := match Bs[i]? with
  | some b => b
  | none => false
section
variable {B0 : Nat} {old : Nat → Option (List Value)} {n m : Nat} {H GA HB : Hp} {Q : Value → Hp → Prop} {ps : List Nat} {v : Value} {last : Int} {ls : List Lf}
set_option maxRecDepth 10000
set_option maxHeartbeats 32000000
/-- The flags of a leaf are set. -/
theorem LvI.flags {ad : Option Addr} {c : Nat} (hL : LvI ps (.slice ad 5 c) last m ls GA HB) {k : Nat} (hk : k < 5) : ∃ x bb, ls[k]? = some x ∧ ad = some ⟨bb, 0, none⟩ ∧
    (∀ b, ∃ GA', LvI ps (.slice ad 5 c) last m (ls.set k ⟨b, x.same, x.cl, x.mv⟩) GA' HB ∧ ∀ pre H0, StP (cx B0 old) 4 bb (0 + k * 3 + 1) (.bool b) (pre ++ (GA ++ H0)) (pre ++ (GA' ++ H0))) ∧
    (∀ b, ∃ GA', LvI ps (.slice ad 5 c) last m (ls.set k ⟨x.has, b, x.cl, x.mv⟩) GA' HB ∧ ∀ pre H0, StP (cx B0 old) 4 bb (0 + k * 3 + 2) (.bool b) (pre ++ (GA ++ H0)) (pre ++ (GA' ++ H0))) := by
  have hlen := hL.len
  have hal := hL.alen
  obtain ⟨x, hx⟩ : ∃ x, ls[k]? = some x := ⟨_, List.getElem?_eq_getElem (by omega)⟩
  obtain ⟨p, _, _, _, hp, _⟩ := hL.bks.at hx
  have hai := lvA_get hp hx
  have hbd : ∀ a b, ∀ y ∈ ls.set k ⟨a, b, x.cl, x.mv⟩, lenM y.mv ≤ m := fun a b y hy => by
    rcases List.mem_or_eq_of_mem_set hy with h | rfl
    · exact hL.bd y h
    · exact hL.bd x (List.mem_iff_getElem?.2 ⟨k, hx⟩)
  obtain ⟨_, _, bb, cb, eb, _⟩ := hL.own.set (C := cx B0 old) (t := 4) (f := 1) (a' := (p, true, x.same)) (u := .bool true) enLf_len hai (sz rfl) rfl rfl
  rw [hal] at eb
  cases eb
  refine ⟨x, bb, hx, rfl, fun b => ?_, fun b => ?_⟩
  · obtain ⟨GA1, oA, b2, cb, eb, hstA⟩ := hL.own.set (C := cx B0 old) (t := 4) (f := 1) (a' := (p, b, x.same)) (u := .bool b) enLf_len hai (sz rfl) rfl rfl
    rw [hal] at eb
    cases eb
    have hset := lvA_set (ls := ls) ⟨b, x.same, x.cl, x.mv⟩ hp
    rw [← hset] at oA
    exact ⟨GA1, ⟨oA, hL.bks.flags b x.same hx, by rw [List.length_set]; exact hlen, hbd _ _⟩, hstA⟩
  · obtain ⟨GA1, oA, b2, cb, eb, hstA⟩ := hL.own.set (C := cx B0 old) (t := 4) (f := 2) (a' := (p, x.has, b)) (u := .bool b) enLf_len hai (sz rfl) rfl rfl
    rw [hal] at eb
    cases eb
    have hset := lvA_set (ls := ls) ⟨x.has, b, x.cl, x.mv⟩ hp
    rw [← hset] at oA
    exact ⟨GA1, ⟨oA, hL.bks.flags x.has b hx, by rw [List.length_set]; exact hlen, hbd _ _⟩, hstA⟩
theorem races7_ct {ad ad2 : Option Addr} {c c2 : Nat} {Bs : List Bool} {M : List Int} (h1 : Arr (cx B0 old) H ad 1 enB4 Bs) (h2 : Arr (cx B0 old) H ad2 1 enI M) (sh : Bool) (hQ : ∀ H', Q (.bool true) H') :
    CallT (cx B0 old) (acall (cx B0 old) ansP (n + 2020)) 7 [.slice ad Bs.length c, .bool sh, .slice ad2 M.length c2] H Q := by
  refine call_in3 159 rfl Try.func7 rfl rfl ?_
  repeat (first | refine Z0 ?_ | (refine ZR ?_; first | refine x1 ?_ | refine x2 ?_ | refine x8 ?_ | refine Z1 ?_ | refine Z2 ?_ | refine x3 fun _ => ?_ | refine x4 fun _ => ?_ | refine x5 fun _ => ?_ | refine Z3 fun _ => ?_ | refine Z4 fun _ => ?_) | refine ZC ?_)
  refine rt_step rfl rfl rfl (st_call rfl rfl rfl rfl (known4_ct ?_))
  repeat (first | refine Z0 ?_ | (refine ZR ?_; first | refine x1 ?_ | refine x2 ?_ | refine x8 ?_ | refine Z1 ?_ | refine Z2 ?_ | refine x3 fun _ => ?_ | refine x4 fun _ => ?_ | refine x5 fun _ => ?_ | refine Z3 fun _ => ?_ | refine Z4 fun _ => ?_) | refine ZC ?_)
  refine rt_step rfl rfl rfl (st_call rfl rfl rfl rfl (leaves28_ct fun ps v GA HB hL => ?_))
  have hal := hL.alen
  obtain ⟨ad1, c1, e, _⟩ := hL.own.arrW (C := cx B0 old) enLf_len
  rw [hal] at e
  subst e
  repeat (first | refine Z0 ?_ | (refine ZR ?_; first | refine x1 ?_ | refine x2 ?_ | refine x8 ?_ | refine Z1 ?_ | refine Z2 ?_ | refine x3 fun _ => ?_ | refine x4 fun _ => ?_ | refine x5 fun _ => ?_ | refine Z3 fun _ => ?_ | refine Z4 fun _ => ?_) | refine ZC ?_)
  rw [show (((5 : Nat) : Int) == 0) = false from rfl]
  repeat (first | refine Z0 ?_ | (refine ZR ?_; first | refine x1 ?_ | refine x2 ?_ | refine x8 ?_ | refine Z1 ?_ | refine Z2 ?_ | refine x3 fun _ => ?_ | refine x4 fun _ => ?_ | refine x5 fun _ => ?_ | refine Z3 fun _ => ?_ | refine Z4 fun _ => ?_) | refine ZC ?_)
  refine ct_condT te_d rfl (fun hc => ?_) (fun hc => ?_)
  · repeat (first | refine Z0 ?_ | (refine ZR ?_; first | refine x1 ?_ | refine x2 ?_ | refine x8 ?_ | refine Z1 ?_ | refine Z2 ?_ | refine x3 fun _ => ?_ | refine x4 fun _ => ?_ | refine x5 fun _ => ?_ | refine Z3 fun _ => ?_ | refine Z4 fun _ => ?_) | refine ZC ?_)
    exact re_1 rfl rfl (List.Sublist.refl _) (hQ _)
  repeat (first | refine Z0 ?_ | (refine ZR ?_; first | refine x1 ?_ | refine x2 ?_ | refine x8 ?_ | refine Z1 ?_ | refine Z2 ?_ | refine x3 fun _ => ?_ | refine x4 fun _ => ?_ | refine x5 fun _ => ?_ | refine Z3 fun _ => ?_ | refine Z4 fun _ => ?_) | refine ZC ?_)
  refine loop_ind (ι := Nat × Option Nat × Int × List Lf × Hp × Hp) (0, none, 0, List.replicate 5 lf0, GA, HB) (fun j => M.length - j.1)
    (fun j => j.1 ≤ M.length ∧ Wok j.2.1 ∧ (j.2.1 = none → j.2.2.1 = 0) ∧ (0 ≤ j.2.2.1 ∧ j.2.2.1 ≤ j.1) ∧ RelS j.2.2.1 j.1 j.2.2.2.1 (stO j.2.1) ∧ LvI ps (.slice ad1 5 c1) (j.1 : Int) (15 * j.1) j.2.2.2.1 j.2.2.2.2.1 j.2.2.2.2.2)
    (fun j => [(9, .int .i64 (j.1 : Int)), (8, .slice ad1 5 c1), (7, .bool true), (0, .slice ad Bs.length c), (1, .bool sh), (2, .slice ad2 M.length c2)]) (fun j => j.2.2.2.2.1 ++ (j.2.2.2.2.2 ++ H))
    ⟨Nat.zero_le _, fun a h => (by cases h), fun _ => rfl, ⟨Int.le_refl _, Int.le_refl _⟩, relS0, hL⟩ (by repeat (first | exact SubL.nil | refine SubL.cons rfl ?_)) (List.Sublist.refl _) ?_
  clear hL hal
  rintro ⟨i, w, s, ls, GA, HB⟩ ⟨hi, hw, hz, hs, hR, hL⟩
  dsimp only at hi hw hz hs hR hL ⊢
  repeat (first | refine Z0 ?_ | (refine ZR ?_; first | refine x1 ?_ | refine x2 ?_ | refine x8 ?_ | refine Z1 ?_ | refine Z2 ?_ | refine x3 fun _ => ?_ | refine x4 fun _ => ?_ | refine x5 fun _ => ?_ | refine Z3 fun _ => ?_ | refine Z4 fun _ => ?_) | refine ZC ?_)
  refine ct_condT te_d rfl (fun hlt => ?_) (fun hlt => ?_)
  · obtain ⟨x0, hx0⟩ : ∃ x, M[i]? = some x := ⟨_, List.getElem?_eq_getElem (by omega)⟩
    obtain ⟨b1, o1, e1, hL0⟩ := h2.ld1 3 hx0 rfl rfl (sz rfl)
    subst e1
    repeat (first | refine Z0 ?_ | (refine ZR ?_; first | refine x1 ?_ | refine x2 ?_ | refine x8 ?_ | refine Z1 ?_ | refine Z2 ?_ | refine x3 fun _ => ?_ | refine x4 fun _ => ?_ | refine x5 fun _ => ?_ | refine Z3 fun _ => ?_ | refine Z4 fun _ => ?_) | refine ZC ?_)
    refine rt_step rfl rfl rfl (st_call rfl rfl rfl rfl (pick24_ct x0 5 (by decide) (by decide) fun r hr0 hr1 => ?_))
    obtain ⟨k, rfl⟩ : ∃ k : Nat, r = k := ⟨r.toNat, by omega⟩
    have hk5 : k < 5 := by omega
    obtain ⟨x, bb, hx, ea, hf1, _⟩ := hL.flags (B0 := B0) (old := old) hk5
    subst ea
    obtain ⟨GA1, hL1, hstA⟩ := hf1 true
    rw [← hasL_set hx] at hL1
    have hR1 := meet_step (i : Int) hw hk5 hz ⟨hs.1, by omega⟩ (by omega) hR
    clear hL0 hL hf1 hR hx
    repeat (first | refine Z0 ?_ | (refine ZR ?_; first | refine x1 ?_ | refine x2 ?_ | refine x8 ?_ | refine Z1 ?_ | refine Z2 ?_ | refine x3 fun _ => ?_ | refine x4 fun _ => ?_ | refine x5 fun _ => ?_ | refine Z3 fun _ => ?_ | refine Z4 fun _ => ?_) | refine ZC ?_)
    refine rt_st rfl rfl rfl rfl rfl (hstA [] _) ?_
    repeat (first | refine Z0 ?_ | (refine ZR ?_; first | refine x1 ?_ | refine x2 ?_ | refine x8 ?_ | refine Z1 ?_ | refine Z2 ?_ | refine x3 fun _ => ?_ | refine x4 fun _ => ?_ | refine x5 fun _ => ?_ | refine Z3 fun _ => ?_ | refine Z4 fun _ => ?_) | refine ZC ?_)
    refine rt_step rfl rfl rfl (st_call rfl rfl rfl rfl (rounds29_ct (n := n + 1) (H := H) hL1 3 (i : Int) ⟨Int.le_refl _, by omega, by omega⟩ (by omega) fun GA2 HB2 hL2 => ?_))
    clear hL1 hstA
    repeat (first | refine Z0 ?_ | (refine ZR ?_; first | refine x1 ?_ | refine x2 ?_ | refine x8 ?_ | refine Z1 ?_ | refine Z2 ?_ | refine x3 fun _ => ?_ | refine x4 fun _ => ?_ | refine x5 fun _ => ?_ | refine Z3 fun _ => ?_ | refine Z4 fun _ => ?_) | refine ZC ?_)
    have hs3 : 0 ≤ s + (dO w k : Int) ∧ s + (dO w k : Int) ≤ i + 1 := by
      have : dO w k ≤ 1 := by unfold dO; split <;> (try split) <;> omega
      omega
    exact ⟨(i + 1, some k, s + (dO w k : Int), roundsL (i : Int) 3 (hasL k ls), GA2, HB2), ⟨by dsimp only; omega, fun a e => (by cases e; exact hk5), fun h => (by cases h), ⟨by dsimp only; omega, by dsimp only; omega⟩, hR1, hL2.mono (by omega) (by omega)⟩, by dsimp only; omega, by repeat (first | exact SubL.nil | refine SubL.cons rfl ?_), by exact drop_auto⟩
  have hiM : i ≤ 20 := by omega
  repeat (first | refine Z0 ?_ | (refine ZR ?_; first | refine x1 ?_ | refine x2 ?_ | refine x8 ?_ | refine Z1 ?_ | refine Z2 ?_ | refine x3 fun _ => ?_ | refine x4 fun _ => ?_ | refine x5 fun _ => ?_ | refine Z3 fun _ => ?_ | refine Z4 fun _ => ?_) | refine ZC ?_)
  refine loop_ind (ι := Nat × List Lf × Hp) (0, ls, GA) (fun j => 5 - j.1) (fun j => j.1 ≤ 5 ∧ LvI ps (.slice ad1 5 c1) (i : Int) (15 * i) j.2.1 j.2.2 HB ∧ offL j.2.1 = offL ls ∧ ∀ (k : Nat) (x : Lf), k < j.1 → j.2.1[k]? = some x → x.has = false)
    (fun j => [(10, .int .i64 (j.1 : Int)), (8, .slice ad1 5 c1), (7, .bool true), (0, .slice ad Bs.length c), (1, .bool sh)]) (fun j => j.2.2 ++ (HB ++ H)) ⟨Nat.zero_le _, hL, rfl, fun k x h => absurd h (Nat.not_lt_zero _)⟩ (by repeat (first | exact SubL.nil | refine SubL.cons rfl ?_)) (List.Sublist.refl _) ?_
  clear hL
  rintro ⟨j, ls1, GA1⟩ ⟨hj, hL, hoff, hall⟩
  dsimp only at hj hL hoff hall ⊢
  repeat (first | refine Z0 ?_ | (refine ZR ?_; first | refine x1 ?_ | refine x2 ?_ | refine x8 ?_ | refine Z1 ?_ | refine Z2 ?_ | refine x3 fun _ => ?_ | refine x4 fun _ => ?_ | refine x5 fun _ => ?_ | refine Z3 fun _ => ?_ | refine Z4 fun _ => ?_) | refine ZC ?_)
  refine ct_condT te_d rfl (fun hjl => ?_) (fun hjl => ?_)
  · obtain ⟨x, bb, hx, ea, hf1, _⟩ := hL.flags (B0 := B0) (old := old) (k := j) (by omega)
    cases ea
    obtain ⟨GA2, hL1, hstA⟩ := hf1 false
    repeat (first | refine Z0 ?_ | (refine ZR ?_; first | refine x1 ?_ | refine x2 ?_ | refine x8 ?_ | refine Z1 ?_ | refine Z2 ?_ | refine x3 fun _ => ?_ | refine x4 fun _ => ?_ | refine x5 fun _ => ?_ | refine Z3 fun _ => ?_ | refine Z4 fun _ => ?_) | refine ZC ?_)
    refine rt_st rfl rfl rfl rfl rfl (hstA [] _) ?_
    repeat (first | refine Z0 ?_ | (refine ZR ?_; first | refine x1 ?_ | refine x2 ?_ | refine x8 ?_ | refine Z1 ?_ | refine Z2 ?_ | refine x3 fun _ => ?_ | refine x4 fun _ => ?_ | refine x5 fun _ => ?_ | refine Z3 fun _ => ?_ | refine Z4 fun _ => ?_) | refine ZC ?_)
    refine ⟨(j + 1, _, GA2), ⟨by dsimp only; omega, hL1, (offL_set hx).trans hoff, fun k y hk hy => ?_⟩, by dsimp only; omega, by repeat (first | exact SubL.nil | refine SubL.cons rfl ?_), by exact drop_auto⟩
    dsimp only at hk hy
    rw [List.getElem?_set] at hy
    by_cases e : j = k
    · rw [if_pos e] at hy
      split at hy
      · cases hy; rfl
      · cases hy
    · rw [if_neg e] at hy
      exact hall k y (by omega) hy
  have hls1 : offL ls1 = ls1 := offL_all fun k x hx => hall k x (by
    have := (List.getElem?_eq_some_iff.1 hx).1
    have := hL.len
    omega) hx
  rw [hls1] at hoff
  subst hoff
  have hR3 := off_step 30 hw ⟨hs.1, by omega⟩ (by omega) hR
  clear hls1 hall hR
  repeat (first | refine Z0 ?_ | (refine ZR ?_; first | refine x1 ?_ | refine x2 ?_ | refine x8 ?_ | refine Z1 ?_ | refine Z2 ?_ | refine x3 fun _ => ?_ | refine x4 fun _ => ?_ | refine x5 fun _ => ?_ | refine Z3 fun _ => ?_ | refine Z4 fun _ => ?_) | refine ZC ?_)
  refine rt_step rfl rfl rfl (st_call rfl rfl rfl rfl (rounds29_ct (n := n + 1) (H := H) hL 1 30 ⟨by omega, by decide, by decide⟩ (by omega) fun GA2 HB2 hL2 => ?_))
  clear hL
  generalize roundsL 30 1 (offL ls) = ls2 at *
  rw [← lnO_0 sh (learnsF Bs)] at hR3
  repeat (first | refine Z0 ?_ | (refine ZR ?_; first | refine x1 ?_ | refine x2 ?_ | refine x8 ?_ | refine Z1 ?_ | refine Z2 ?_ | refine x3 fun _ => ?_ | refine x4 fun _ => ?_ | refine x5 fun _ => ?_ | refine Z3 fun _ => ?_ | refine Z4 fun _ => ?_) | refine ZC ?_)
  refine loop_ind (ι := Nat × List Lf × Hp × Hp) (0, ls2, GA2, HB2) (fun j => 5 - j.1) (fun j => j.1 ≤ 5 ∧ j.1 ≤ Bs.length ∧ LvI ps (.slice ad1 5 c1) 31 (15 * i + 5 + j.1) j.2.1 j.2.2.1 j.2.2.2 ∧ RelS 0 i j.2.1 (lnO sh (learnsF Bs) j.1))
    (fun j => [(12, .int .i64 (j.1 : Int)), (11, .int .i64 (lstV (lstO (learnsF Bs) j.1))), (8, .slice ad1 5 c1), (7, .bool true), (0, .slice ad Bs.length c), (1, .bool sh)]) (fun j => j.2.2.1 ++ (j.2.2.2 ++ H))
    ⟨Nat.zero_le _, Nat.zero_le _, hL2.mono (by decide) (by omega), hR3⟩ (by repeat (first | exact SubL.nil | refine SubL.cons rfl ?_)) (List.Sublist.refl _) ?_
  clear hL2 hR3
  rintro ⟨j, ls3, GA3, HB3⟩ ⟨hj, hjB, hL, hR⟩
  dsimp only at hj hjB hL hR ⊢
  refine ct_seq (ct_seq (ct_region rfl ?_))
  refine rt_midE (ι := Bool) (fun b => b = decide (j < 5 ∧ j < Bs.length)) (fun b => [(63, .bool b), (12, .int .i64 (j : Int)), (11, .int .i64 (lstV (lstO (learnsF Bs) j))), (8, .slice ad1 5 c1), (7, .bool true), (0, .slice ad Bs.length c), (1, .bool sh)]) (fun _ => GA3 ++ (HB3 ++ H)) ?_ ?_
  · by_cases hj5 : j < 5
    · repeat (first | refine Z0 ?_ | (refine ZR ?_; first | refine x1 ?_ | refine x2 ?_ | refine x8 ?_ | refine Z1 ?_ | refine Z2 ?_ | refine x3 fun _ => ?_ | refine x4 fun _ => ?_ | refine x5 fun _ => ?_ | refine Z3 fun _ => ?_ | refine Z4 fun _ => ?_) | refine ZC ?_)
      rw [show decide ((j : Int) < 5) = true from decide_eq_true (by omega)]
      repeat (first | refine Z0 ?_ | (refine ZR ?_; first | refine x1 ?_ | refine x2 ?_ | refine x8 ?_ | refine Z1 ?_ | refine Z2 ?_ | refine x3 fun _ => ?_ | refine x4 fun _ => ?_ | refine x5 fun _ => ?_ | refine Z3 fun _ => ?_ | refine Z4 fun _ => ?_) | refine ZC ?_)
      exact ⟨decide ((j : Int) < (Bs.length : Int)), by rw [decide_eq_decide]; omega, by repeat (first | exact SubL.nil | refine SubL.cons rfl ?_), List.Sublist.refl _⟩
    · repeat (first | refine Z0 ?_ | (refine ZR ?_; first | refine x1 ?_ | refine x2 ?_ | refine x8 ?_ | refine Z1 ?_ | refine Z2 ?_ | refine x3 fun _ => ?_ | refine x4 fun _ => ?_ | refine x5 fun _ => ?_ | refine Z3 fun _ => ?_ | refine Z4 fun _ => ?_) | refine ZC ?_)
      rw [show decide ((j : Int) < 5) = false from decide_eq_false (by omega)]
      repeat (first | refine Z0 ?_ | (refine ZR ?_; first | refine x1 ?_ | refine x2 ?_ | refine x8 ?_ | refine Z1 ?_ | refine Z2 ?_ | refine x3 fun _ => ?_ | refine x4 fun _ => ?_ | refine x5 fun _ => ?_ | refine Z3 fun _ => ?_ | refine Z4 fun _ => ?_) | refine ZC ?_)
      exact ⟨false, by symm; rw [decide_eq_false_iff_not]; omega, by repeat (first | exact SubL.nil | refine SubL.cons rfl ?_), List.Sublist.refl _⟩
  rintro b hb
  cases b
  · have hb := of_decide_eq_false hb.symm
    have hfin : lnO sh (learnsF Bs) j = lnO sh (learnsF Bs) 5 ∧ leastO (learnsF Bs) = lstO (learnsF Bs) j := by
      by_cases h5 : j = 5
      · subst h5; exact ⟨rfl, rfl⟩
      · have hj' : j = Bs.length := by omega
        have hf : ∀ i, j ≤ i → learnsF Bs i = false := fun i hi => by unfold learnsF; rw [List.getElem?_eq_none (by omega)]
        exact ⟨lnO_end sh _ hj hf, lstO_end _ hj hf⟩
    rw [hfin.1] at hR
    rw [← hfin.2]
    clear hfin hb
    repeat (first | refine Z0 ?_ | (refine ZR ?_; first | refine x1 ?_ | refine x2 ?_ | refine x8 ?_ | refine Z1 ?_ | refine Z2 ?_ | refine x3 fun _ => ?_ | refine x4 fun _ => ?_ | refine x5 fun _ => ?_ | refine Z3 fun _ => ?_ | refine Z4 fun _ => ?_) | refine ZC ?_)
    refine rt_step rfl rfl rfl (st_call rfl rfl rfl rfl (rounds29_ct (n := n + 1) (H := H) hL 3 32 ⟨by omega, by decide, by decide⟩ (by omega) fun GA4 HB4 hL4 => ?_))
    clear hL
    have hE := fun k hk => race_end 32 (by omega) hR k hk
    generalize roundsL 32 3 ls3 = ls4 at *
    clear hR
    obtain ⟨ad2, cq, e2, ga⟩ := hL4.own.arrW (C := cx B0 old) enLf_len
    have hal4 := hL4.alen
    rw [hal4] at e2
    cases e2
    have hA : Arr (cx B0 old) (GA4 ++ (HB4 ++ H)) ad1 3 enLf (lvA ps ls4) := (ga [] (HB4 ++ H)).arr enLf_len
    clear ga
    repeat (first | refine Z0 ?_ | (refine ZR ?_; first | refine x1 ?_ | refine x2 ?_ | refine x8 ?_ | refine Z1 ?_ | refine Z2 ?_ | refine x3 fun _ => ?_ | refine x4 fun _ => ?_ | refine x5 fun _ => ?_ | refine Z3 fun _ => ?_ | refine Z4 fun _ => ?_) | refine ZC ?_)
    refine loop_ind (ι := Nat) 0 (fun j => 5 - j) (fun j => j ≤ 5) (fun j => [(15, .int .i64 (j : Int)), (11, .int .i64 (lstV (leastO (learnsF Bs)))), (8, .slice ad1 5 c1), (7, .bool true), (0, .slice ad Bs.length c), (1, .bool sh)])
      (fun _ => GA4 ++ (HB4 ++ H)) (Nat.zero_le _) (by repeat (first | exact SubL.nil | refine SubL.cons rfl ?_)) (List.Sublist.refl _) ?_
    intro k hk
    repeat (first | refine Z0 ?_ | (refine ZR ?_; first | refine x1 ?_ | refine x2 ?_ | refine x8 ?_ | refine Z1 ?_ | refine Z2 ?_ | refine x3 fun _ => ?_ | refine x4 fun _ => ?_ | refine x5 fun _ => ?_ | refine Z3 fun _ => ?_ | refine Z4 fun _ => ?_) | refine ZC ?_)
    refine ct_condT te_d rfl (fun hkl => ?_) (fun hkl => ?_)
    rotate_left
    · repeat (first | refine Z0 ?_ | (refine ZR ?_; first | refine x1 ?_ | refine x2 ?_ | refine x8 ?_ | refine Z1 ?_ | refine Z2 ?_ | refine x3 fun _ => ?_ | refine x4 fun _ => ?_ | refine x5 fun _ => ?_ | refine Z3 fun _ => ?_ | refine Z4 fun _ => ?_) | refine ZC ?_)
      exact re_1 rfl rfl (List.Sublist.refl _) (hQ _)
    have hk5 : k < 5 := by omega
    obtain ⟨x, hx, hxh, hxc⟩ := hE k hk5
    obtain ⟨p, Gi, R, l, hp, hpm, hl, hB, _⟩ := hL4.bks.at hx
    have hai := lvA_get hp hx
    refine ct_skip ?_
    refine sq_n ?_
    refine ct_seq (ct_block (ct_seq (ct_region rfl ?_)))
    refine rt_midE (ι := Unit) (fun _ => True) (fun _ => [(16, .bool (wantO sh (learnsF Bs) k)), (15, .int .i64 (k : Int)), (11, .int .i64 (lstV (leastO (learnsF Bs)))), (8, .slice ad1 5 c1), (7, .bool true), (0, .slice ad Bs.length c), (1, .bool sh)]) (fun _ => GA4 ++ (HB4 ++ H)) ?_ ?_
    · by_cases hlk : leastO (learnsF Bs) = some k
      · have hw1 : wantO sh (learnsF Bs) k = true := by unfold wantO; rw [hlk]; simp
        rw [hw1, hlk]
        dsimp only [lstV]
        repeat (first | refine Z0 ?_ | (refine ZR ?_; first | refine x1 ?_ | refine x2 ?_ | refine x8 ?_ | refine Z1 ?_ | refine Z2 ?_ | refine x3 fun _ => ?_ | refine x4 fun _ => ?_ | refine x5 fun _ => ?_ | refine Z3 fun _ => ?_ | refine Z4 fun _ => ?_) | refine ZC ?_)
        rw [show ((k : Int) == (k : Int)) = true from beq_self_eq_true _]
        repeat (first | refine Z0 ?_ | (refine ZR ?_; first | refine x1 ?_ | refine x2 ?_ | refine x8 ?_ | refine Z1 ?_ | refine Z2 ?_ | refine x3 fun _ => ?_ | refine x4 fun _ => ?_ | refine x5 fun _ => ?_ | refine Z3 fun _ => ?_ | refine Z4 fun _ => ?_) | refine ZC ?_)
        exact ⟨(), trivial, by repeat (first | exact SubL.nil | refine SubL.cons rfl ?_), List.Sublist.refl _⟩
      · have hw1 : wantO sh (learnsF Bs) k = (sh && learnsF Bs k) := by
          unfold wantO
          rw [show (leastO (learnsF Bs) == some k) = false from beq_eq_false_iff_ne.2 hlk, Bool.false_or]
        have hw2 : ((k : Int) == lstV (leastO (learnsF Bs))) = false := by
          rw [beq_eq_false_iff_ne]
          cases hle : leastO (learnsF Bs) with
          | none => unfold lstV; dsimp only; omega
          | some a =>
            unfold lstV
            dsimp only
            intro e
            exact hlk (by rw [hle]; congr 1; omega)
        rw [hw1]
        cases sh with
        | false =>
          repeat (first | refine Z0 ?_ | (refine ZR ?_; first | refine x1 ?_ | refine x2 ?_ | refine x8 ?_ | refine Z1 ?_ | refine Z2 ?_ | refine x3 fun _ => ?_ | refine x4 fun _ => ?_ | refine x5 fun _ => ?_ | refine Z3 fun _ => ?_ | refine Z4 fun _ => ?_) | refine ZC ?_)
          rw [hw2]
          repeat (first | refine Z0 ?_ | (refine ZR ?_; first | refine x1 ?_ | refine x2 ?_ | refine x8 ?_ | refine Z1 ?_ | refine Z2 ?_ | refine x3 fun _ => ?_ | refine x4 fun _ => ?_ | refine x5 fun _ => ?_ | refine Z3 fun _ => ?_ | refine Z4 fun _ => ?_) | refine ZC ?_)
          exact ⟨(), trivial, by repeat (first | exact SubL.nil | refine SubL.cons rfl ?_), List.Sublist.refl _⟩
        | true =>
          by_cases hkB : k < Bs.length
          · have hbk : Bs[k]? = some Bs[k] := List.getElem?_eq_getElem hkB
            have hfk : learnsF Bs k = Bs[k] := by unfold learnsF; rw [hbk]
            rw [hfk]
            generalize Bs[k] = bk at *
            obtain ⟨b1, o1, e1, hL0⟩ := h1.ld1 4 hbk rfl rfl (sz rfl)
            subst e1
            repeat (first | refine Z0 ?_ | (refine ZR ?_; first | refine x1 ?_ | refine x2 ?_ | refine x8 ?_ | refine Z1 ?_ | refine Z2 ?_ | refine x3 fun _ => ?_ | refine x4 fun _ => ?_ | refine x5 fun _ => ?_ | refine Z3 fun _ => ?_ | refine Z4 fun _ => ?_) | refine ZC ?_)
            rw [hw2]
            repeat (first | refine Z0 ?_ | (refine ZR ?_; first | refine x1 ?_ | refine x2 ?_ | refine x8 ?_ | refine Z1 ?_ | refine Z2 ?_ | refine x3 fun _ => ?_ | refine x4 fun _ => ?_ | refine x5 fun _ => ?_ | refine Z3 fun _ => ?_ | refine Z4 fun _ => ?_) | refine ZC ?_)
            rw [show decide ((k : Int) < (Bs.length : Int)) = true from decide_eq_true (by omega)]
            repeat (first | refine Z0 ?_ | (refine ZR ?_; first | refine x1 ?_ | refine x2 ?_ | refine x8 ?_ | refine Z1 ?_ | refine Z2 ?_ | refine x3 fun _ => ?_ | refine x4 fun _ => ?_ | refine x5 fun _ => ?_ | refine Z3 fun _ => ?_ | refine Z4 fun _ => ?_) | refine ZC ?_)
            exact ⟨(), trivial, by repeat (first | exact SubL.nil | refine SubL.cons rfl ?_), List.Sublist.refl _⟩
          · have hfk : learnsF Bs k = false := by unfold learnsF; rw [List.getElem?_eq_none (by omega)]
            rw [hfk]
            repeat (first | refine Z0 ?_ | (refine ZR ?_; first | refine x1 ?_ | refine x2 ?_ | refine x8 ?_ | refine Z1 ?_ | refine Z2 ?_ | refine x3 fun _ => ?_ | refine x4 fun _ => ?_ | refine x5 fun _ => ?_ | refine Z3 fun _ => ?_ | refine Z4 fun _ => ?_) | refine ZC ?_)
            rw [hw2]
            repeat (first | refine Z0 ?_ | (refine ZR ?_; first | refine x1 ?_ | refine x2 ?_ | refine x8 ?_ | refine Z1 ?_ | refine Z2 ?_ | refine x3 fun _ => ?_ | refine x4 fun _ => ?_ | refine x5 fun _ => ?_ | refine Z3 fun _ => ?_ | refine Z4 fun _ => ?_) | refine ZC ?_)
            rw [show decide ((k : Int) < (Bs.length : Int)) = false from decide_eq_false (by omega)]
            repeat (first | refine Z0 ?_ | (refine ZR ?_; first | refine x1 ?_ | refine x2 ?_ | refine x8 ?_ | refine Z1 ?_ | refine Z2 ?_ | refine x3 fun _ => ?_ | refine x4 fun _ => ?_ | refine x5 fun _ => ?_ | refine Z3 fun _ => ?_ | refine Z4 fun _ => ?_) | refine ZC ?_)
            exact ⟨(), trivial, by repeat (first | exact SubL.nil | refine SubL.cons rfl ?_), List.Sublist.refl _⟩
    intro _ _
    obtain ⟨b3, o3, e3, hL0⟩ := hA.ldF 4 1 hai rfl rfl rfl (sz rfl)
    obtain ⟨b4, o4, e4, hL1⟩ := hA.ldF 33 0 hai rfl rfl rfl (sz rfl)
    subst e3
    cases e4
    dsimp only at hL0 hL1
    rw [hxh] at hL0
    repeat (first | refine Z0 ?_ | (refine ZR ?_; first | refine x1 ?_ | refine x2 ?_ | refine x8 ?_ | refine Z1 ?_ | refine Z2 ?_ | refine x3 fun _ => ?_ | refine x4 fun _ => ?_ | refine x5 fun _ => ?_ | refine Z3 fun _ => ?_ | refine Z4 fun _ => ?_) | refine ZC ?_)
    refine rt_step rfl rfl rfl (st_call rfl rfl rfl rfl (CallT.perm (claimsW (n := n + 3) (H := GA4 ++ (R ++ H)) hB K5_ok fun vc Gv ho => ?_) (pmV hpm).symm))
    refine RunT.perm ?_ (List.Perm.append_left Gv (pmV hpm))
    rw [hxc] at ho
    obtain ⟨adc, cc, ec, gc⟩ := ho.arrW (C := cx B0 old) en57_len
    subst ec
    have hC := (gc [] (GA4 ++ (HB4 ++ H))).arr en57_len
    clear gc
    cases hwt : wantO sh (learnsF Bs) k with
    | false =>
      rw [hwt] at hL0
      repeat (first | refine Z0 ?_ | (refine ZR ?_; first | refine x1 ?_ | refine x2 ?_ | refine x8 ?_ | refine Z1 ?_ | refine Z2 ?_ | refine x3 fun _ => ?_ | refine x4 fun _ => ?_ | refine x5 fun _ => ?_ | refine Z3 fun _ => ?_ | refine Z4 fun _ => ?_) | refine ZC ?_)
      exact ⟨k + 1, by omega, by omega, by repeat (first | exact SubL.nil | refine SubL.cons rfl ?_), by exact drop_auto⟩
    | true =>
      rw [hwt] at hL0 hC
      have hc0 : (clL K5 (if (true = true) then some (0, false) else none))[0]? = some ⟨0, 5, 0, false⟩ := rfl
      obtain ⟨b5, o5, e5, hL2⟩ := hC.ldF 22 2 hc0 rfl rfl rfl (sz rfl)
      subst e5
      dsimp only at hL2
      rw [show (clL K5 (if (true = true) then some (0, false) else none)).length = 1 from rfl]
      repeat (first | refine Z0 ?_ | (refine ZR ?_; first | refine x1 ?_ | refine x2 ?_ | refine x8 ?_ | refine Z1 ?_ | refine Z2 ?_ | refine x3 fun _ => ?_ | refine x4 fun _ => ?_ | refine x5 fun _ => ?_ | refine Z3 fun _ => ?_ | refine Z4 fun _ => ?_) | refine ZC ?_)
      exact ⟨k + 1, by omega, by omega, by repeat (first | exact SubL.nil | refine SubL.cons rfl ?_), by exact drop_auto⟩
  · obtain ⟨hj5, hjB2⟩ := of_decide_eq_true hb.symm
    clear hb
    have hbj : Bs[j]? = some Bs[j] := List.getElem?_eq_getElem hjB2
    have hfj : learnsF Bs j = Bs[j] := by unfold learnsF; rw [hbj]
    obtain ⟨hn1, hn2⟩ := ln_step hj5 (by omega) hR
    have hsc := lstO_succ (learnsF Bs) j
    rw [hfj] at hn1 hn2 hsc
    generalize Bs[j] = bj at *
    obtain ⟨b1, o1, e1, hL0⟩ := h1.ld1 4 hbj rfl rfl (sz rfl)
    subst e1
    cases bj with
    | false =>
      have hsc : lstO (learnsF Bs) (j + 1) = lstO (learnsF Bs) j := by rw [hsc]; cases lstO (learnsF Bs) j <;> rfl
      repeat (first | refine Z0 ?_ | (refine ZR ?_; first | refine x1 ?_ | refine x2 ?_ | refine x8 ?_ | refine Z1 ?_ | refine Z2 ?_ | refine x3 fun _ => ?_ | refine x4 fun _ => ?_ | refine x5 fun _ => ?_ | refine Z3 fun _ => ?_ | refine Z4 fun _ => ?_) | refine ZC ?_)
      exact ⟨(j + 1, ls3, GA3, HB3), ⟨by dsimp only; omega, by dsimp only; omega, hL.mono (Int.le_refl _) (by omega), hn1 rfl⟩, by dsimp only; omega, (by dsimp only; rw [hsc]; repeat (first | exact SubL.nil | refine SubL.cons rfl ?_)), by exact drop_auto⟩
    | true =>
      obtain ⟨x, hx, hRn⟩ := hn2 rfl
      clear hn1 hn2
      repeat (first | refine Z0 ?_ | (refine ZR ?_; first | refine x1 ?_ | refine x2 ?_ | refine x8 ?_ | refine Z1 ?_ | refine Z2 ?_ | refine x3 fun _ => ?_ | refine x4 fun _ => ?_ | refine x5 fun _ => ?_ | refine Z3 fun _ => ?_ | refine Z4 fun _ => ?_) | refine ZC ?_)
      refine ct_mid [(12, .int .i64 (j : Int)), (11, .int .i64 (lstV (lstO (learnsF Bs) (j + 1)))), (8, .slice ad1 5 c1), (7, .bool true), (0, .slice (some ⟨b1, o1, none⟩) Bs.length c), (1, .bool sh)] (GA3 ++ (HB3 ++ H)) ?_ ?_
      · rw [hsc]
        cases lstO (learnsF Bs) j with
        | none =>
          dsimp only [lstV, if_pos]
          repeat (first | refine Z0 ?_ | (refine ZR ?_; first | refine x1 ?_ | refine x2 ?_ | refine x8 ?_ | refine Z1 ?_ | refine Z2 ?_ | refine x3 fun _ => ?_ | refine x4 fun _ => ?_ | refine x5 fun _ => ?_ | refine Z3 fun _ => ?_ | refine Z4 fun _ => ?_) | refine ZC ?_)
          exact ⟨by repeat (first | exact SubL.nil | refine SubL.cons rfl ?_), List.Sublist.refl _⟩
        | some a =>
          rw [show decide (lstV (some a) < 0) = false from decide_eq_false (show ¬ ((a : Int) < 0) by omega)]
          repeat (first | refine Z0 ?_ | (refine ZR ?_; first | refine x1 ?_ | refine x2 ?_ | refine x8 ?_ | refine Z1 ?_ | refine Z2 ?_ | refine x3 fun _ => ?_ | refine x4 fun _ => ?_ | refine x5 fun _ => ?_ | refine Z3 fun _ => ?_ | refine Z4 fun _ => ?_) | refine ZC ?_)
          exact ⟨by repeat (first | exact SubL.nil | refine SubL.cons rfl ?_), List.Sublist.refl _⟩
      obtain ⟨x', bb, hx', ea, hf1, _⟩ := hL.flags (B0 := B0) (old := old) hj5
      obtain rfl : x' = x := Option.some.inj (hx'.symm.trans hx)
      subst ea
      obtain ⟨GA4, hL4, hst4⟩ := hf1 true
      obtain ⟨x2, b2, hx2, ea2, _, hf2⟩ := hL4.flags (B0 := B0) (old := old) hj5
      have hjl : j < ls3.length := by rw [hL.len]; exact hj5
      rw [List.getElem?_set_self hjl] at hx2
      cases hx2
      cases ea2
      obtain ⟨GA5, hL5, hst5⟩ := hf2 sh
      dsimp only at hL5 hst5
      rw [List.set_set] at hL5
      clear hf1 hf2 hL4 hx' hL0
      have hxn : (ls3.set j ⟨true, sh, x'.cl, x'.mv⟩)[j]? = some ⟨true, sh, x'.cl, x'.mv⟩ := List.getElem?_set_self hjl
      obtain ⟨p, Gi, R, l, hp, hpm, hl, hB, hback⟩ := hL5.bks.at hxn
      have hai := lvA_get hp hxn
      obtain ⟨ad6, c6, e6, ga⟩ := hL5.own.arrW (C := cx B0 old) enLf_len
      rw [hL5.alen] at e6
      cases e6
      have hA : Arr (cx B0 old) (GA5 ++ (HB3 ++ H)) (some ⟨bb, 0, none⟩) 3 enLf (lvA ps (ls3.set j ⟨true, sh, x'.cl, x'.mv⟩)) := (ga [] (HB3 ++ H)).arr enLf_len
      clear ga
      obtain ⟨b3, o3, e3, hL0⟩ := hA.ldF 33 0 hai rfl rfl rfl (sz rfl)
      cases e3
      dsimp only at hL0 hB
      have hbd := hL5.bd _ (List.mem_iff_getElem?.2 ⟨j, hxn⟩)
      dsimp only at hbd
      repeat (first | refine Z0 ?_ | (refine ZR ?_; first | refine x1 ?_ | refine x2 ?_ | refine x8 ?_ | refine Z1 ?_ | refine Z2 ?_ | refine x3 fun _ => ?_ | refine x4 fun _ => ?_ | refine x5 fun _ => ?_ | refine Z3 fun _ => ?_ | refine Z4 fun _ => ?_) | refine ZC ?_)
      refine rt_st rfl rfl rfl rfl rfl (hst4 [] _) ?_
      repeat (first | refine Z0 ?_ | (refine ZR ?_; first | refine x1 ?_ | refine x2 ?_ | refine x8 ?_ | refine Z1 ?_ | refine Z2 ?_ | refine x3 fun _ => ?_ | refine x4 fun _ => ?_ | refine x5 fun _ => ?_ | refine Z3 fun _ => ?_ | refine Z4 fun _ => ?_) | refine ZC ?_)
      refine rt_st rfl rfl rfl rfl rfl (hst5 [] _) ?_
      repeat (first | refine Z0 ?_ | (refine ZR ?_; first | refine x1 ?_ | refine x2 ?_ | refine x8 ?_ | refine Z1 ?_ | refine Z2 ?_ | refine x3 fun _ => ?_ | refine x4 fun _ => ?_ | refine x5 fun _ => ?_ | refine Z3 fun _ => ?_ | refine Z4 fun _ => ?_) | refine ZC ?_)
      clear hst4 hst5
      refine ct_draw (masks := [0, 0, 3, 7, 15, 0, 32, 96, 0, 511, 1023, 2047, 2047, 4095, 16383]) (plan := [0, 1, 2, 3, 4, 5, 6, 7, 8, 9, 10, 11, 12, 13, 14]) (E := []) (by kernel_rfl) (by kernel_rfl) (by kernel_rfl) (by kernel_rfl) ?_
      repeat (first | refine Y0 ?_ | (refine YP ?_; first | refine y1 ?_ | refine y2 ?_ | refine Y1 ?_ | refine Y2 ?_))
      refine pl_S rfl rfl rfl rfl rfl rfl (st_call rfl rfl rfl rfl (one23_ct fun bn => ⟨by exact rec_auto, ?_⟩))
      repeat (first | refine Y0 ?_ | (refine YP ?_; first | refine y1 ?_ | refine y2 ?_ | refine Y1 ?_ | refine Y2 ?_))
      have ew : IntKind.u32.wrap (1 + (j : Int)) = 1 + (j : Int) := IntWalk.u32_in _ (by omega)
      rw [ew]
      clear ew
      refine pl_S rfl rfl rfl rfl rfl rfl (st_call rfl rfl rfl rfl (CallT.perm (settleW (n := n + 2011) (H := (bn, .row (en59 n5) 6 false) :: (GA5 ++ (R ++ H))) hB (by omega) (1 + (j : Int)) 31 (by unfold chkT; rw [if_neg (by omega), if_neg (by omega)]) (by decide) true n5 rfl none (fun r e => by cases e) ((arrW_one (a := n5) en59_len (List.Mem.head _)).arr en59_len) (arr_nil en27_len) fun v' Gv G' ho hB' => ⟨by exact rec_auto, ?_⟩) (pmX (A := [_]) (B := GA5) hpm).symm))
      have hsl := settle_len 100 10000 (1 + (j : Int)) 31 x'.cl x'.mv true none
      obtain ⟨y, hy1, hy2⟩ := hRn.get (lnO_get hj5)
      rw [List.getElem?_set_self hjl] at hy1
      cases hy1
      have hy3 := hy2.1
      rw [show Nat.blt j (j + 1) = true from Nat.ble_eq_true_of_le (Nat.le_refl _), hfj] at hy3
      have hlr : lrL sh j x' = ⟨true && !(settleB 100 10000 (1 + (j : Int)) 31 x'.cl x'.mv true none).2.2, sh, (settleB 100 10000 (1 + (j : Int)) 31 x'.cl x'.mv true none).1, (settleB 100 10000 (1 + (j : Int)) 31 x'.cl x'.mv true none).2.1⟩ := rfl
      rw [hlr] at hRn hy3
      clear hlr hy2 hB
      generalize settleB 100 10000 (1 + (j : Int)) 31 x'.cl x'.mv true none = RS at *
      obtain ⟨cl', mv', g⟩ := RS
      dsimp only at hy3 ho hB' hsl hRn ⊢
      have hg : g = false := by
        cases g with
        | false => rfl
        | true => cases hy3
      subst hg
      obtain ⟨HB', hp', hbks⟩ := hback 31 ⟨true, sh, cl', mv'⟩ 31 G' (Int.le_refl _) ⟨by decide, Int.le_refl _⟩ hB'
      rw [List.set_set] at hbks
      have hown := hL5.own
      rw [lvA_set (ls := ls3) ⟨true, sh, x'.cl, x'.mv⟩ hp, ← lvA_set (ls := ls3) ⟨true, sh, cl', mv'⟩ hp] at hown
      have hnew : LvI ps (.slice (some ⟨bb, 0, none⟩) 5 c1) 31 (15 * i + 5 + (j + 1)) (ls3.set j ⟨true, sh, cl', mv'⟩) GA5 HB' := ⟨hown, hbks, by rw [List.length_set]; exact hL.len, fun y hy => by
        rcases List.mem_or_eq_of_mem_set hy with h | rfl
        · exact Nat.le_trans (hL.bd y h) (by omega)
        · dsimp only; omega⟩
      refine PlanT.perm ?_ (List.Perm.append_left Gv (pmX (A := [_]) (B := GA5) hp'.symm))
      obtain ⟨adv, cv, ev, _⟩ := ho.arrW (C := cx B0 old) en59_len
      subst ev
      dsimp only [nearL, List.length_nil]
      repeat (first | refine Y0 ?_ | (refine YP ?_; first | refine y1 ?_ | refine y2 ?_ | refine Y1 ?_ | refine Y2 ?_))
      repeat (first | refine Z0 ?_ | (refine ZR ?_; first | refine x1 ?_ | refine x2 ?_ | refine x8 ?_ | refine Z1 ?_ | refine Z2 ?_ | refine x3 fun _ => ?_ | refine x4 fun _ => ?_ | refine x5 fun _ => ?_ | refine Z3 fun _ => ?_ | refine Z4 fun _ => ?_) | refine ZC ?_)
      exact ⟨(j + 1, _, GA5, HB'), ⟨by dsimp only; omega, by dsimp only; omega, hnew, hRn⟩, by dsimp only; omega, by repeat (first | exact SubL.nil | refine SubL.cons rfl ?_), by exact drop_auto⟩
end
end Go.Proofs.Ytoimfchhmocgeaa.Abs

/- Readings of arguments for the statement MobilityRaces. -/
namespace Go.Proofs.Ytoimfchhmocgeaa.Abs
open Go Go.RowKit
set_option linter.unusedVariables false
set_option maxRecDepth 100000
set_option maxHeartbeats 2000000
theorem lv4 : leaves Try.prog 10 4 = some [4] := by kernel_rfl
section
variable {H : Type} {enc : TypeId × Value → H} {w : World} {base : Nat} {spare : Nat → Bool} {held : Bool}
theorem b4_read {hs fuel : Nat} {cs : List Value} {x : DataW H × List MemPlace} (h : DataW.trod enc Try.prog w base spare held fuel 4 cs = some x) : cs.length = 1 ∧ ∃ p : Bool, cs.map (normV hs) = enB4 p ∧ True := by
  have hh := leaves_ok 10 4 _ lv4 _ _ _ h
  refine ⟨hh.1, ?_⟩
  obtain ⟨v0, cs0, rfl, l0, h0⟩ := LeafOk.next hh
  obtain rfl := LeafOk.done h0
  obtain ⟨n0, rfl⟩ := leaf_bool Try.underlying4 l0
  exact ⟨n0, rfl, trivial⟩
end
end Go.Proofs.Ytoimfchhmocgeaa.Abs
