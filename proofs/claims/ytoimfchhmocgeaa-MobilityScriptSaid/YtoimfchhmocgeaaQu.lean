/- The reference's book: what is read of it; New. -/
import Derived.Test.YtoimfchhmocgeaaQt
namespace Go.Proofs.Ytoimfchhmocgeaa.Abs
open Go
set_option linter.unusedVariables false
structure M3 where
  bd : Int
  mac : Int
  at' : Int
def enM (x : M3) : List Value := [.int .i64 x.bd, .int .u64 x.mac, .int .i64 x.at']
theorem enM_len (x : M3) : (enM x).length = 3 := rfl
theorem enM_one (x : M3) : (enM x).all Value.oneCell' = true := rfl
def kM (x : M3) : Kk := ⟨x.bd, x.mac⟩
def kC (x : C57) : Kk := ⟨x.bd, x.mac⟩
/-- The reference's book in memory. -/
def RfI (lim win : Int) (q : Nat) (now : Int) (Cl : List C57) (Ml : List M3) (Fl : List Kk) (G : Hp) : Prop := ∃ vC GC vM GM vF GF, Own en57 4 Cl vC GC ∧ Own enM 3 Ml vM GM ∧ Own enK 2 Fl vF GF ∧
  G = (q, AObj.row [.int .i64 lim, .int .i64 win, .int .i64 now, vC, vM, vF] 6 false) :: (GC ++ (GM ++ GF))
section
variable {B0 : Nat} {old : Nat → Option (List Value)} {n : Nat} {H HR : Hp} {Q : Value → Hp → Prop} {q : Nat} {lim win now : Int} {vC vM vF : Value} {Cl : List C57} {Ml : List M3} {Fl : List Kk}
set_option maxRecDepth 10000
set_option maxHeartbeats 8000000
theorem below74_ct (a b : Kk) (ha : okK a) (hb : okK b) (h : Q (.bool (decide (rkK a < rkK b))) H) : CallT (cx B0 old) (acall (cx B0 old) ansP (n + 1)) 74 [.int .i64 a.bd, .int .u64 a.mac, .int .i64 b.bd, .int .u64 b.mac] H Q := by
  refine call_in 22 rfl Try.func74 rfl rfl ?_
  unfold okK at ha hb
  unfold rkK at h
  by_cases h1 : a.bd < b.bd
  · rw [decide_eq_true (by omega)] at h
    repeat (first | refine Z0 ?_ | (refine ZR ?_; first | refine x1 ?_ | refine x2 ?_ | refine x8 ?_ | refine Z1 ?_ | refine Z2 ?_ | refine x3 fun _ => ?_ | refine x4 fun _ => ?_ | refine x5 fun _ => ?_ | refine Z3 fun _ => ?_ | refine Z4 fun _ => ?_) | refine ZC ?_)
    rw [show decide (a.bd < b.bd) = true from decide_eq_true h1]
    repeat (first | refine Z0 ?_ | (refine ZR ?_; first | refine x1 ?_ | refine x2 ?_ | refine x8 ?_ | refine Z1 ?_ | refine Z2 ?_ | refine x3 fun _ => ?_ | refine x4 fun _ => ?_ | refine x5 fun _ => ?_ | refine Z3 fun _ => ?_ | refine Z4 fun _ => ?_) | refine ZC ?_)
    exact re_1 rfl rfl (List.Sublist.refl _) h
  · repeat (first | refine Z0 ?_ | (refine ZR ?_; first | refine x1 ?_ | refine x2 ?_ | refine x8 ?_ | refine Z1 ?_ | refine Z2 ?_ | refine x3 fun _ => ?_ | refine x4 fun _ => ?_ | refine x5 fun _ => ?_ | refine Z3 fun _ => ?_ | refine Z4 fun _ => ?_) | refine ZC ?_)
    rw [show decide (a.bd < b.bd) = false from decide_eq_false h1]
    repeat (first | refine Z0 ?_ | (refine ZR ?_; first | refine x1 ?_ | refine x2 ?_ | refine x8 ?_ | refine Z1 ?_ | refine Z2 ?_ | refine x3 fun _ => ?_ | refine x4 fun _ => ?_ | refine x5 fun _ => ?_ | refine Z3 fun _ => ?_ | refine Z4 fun _ => ?_) | refine ZC ?_)
    by_cases h2 : a.bd = b.bd
    · rw [show (a.bd == b.bd) = true from beq_iff_eq.2 h2]
      repeat (first | refine Z0 ?_ | (refine ZR ?_; first | refine x1 ?_ | refine x2 ?_ | refine x8 ?_ | refine Z1 ?_ | refine Z2 ?_ | refine x3 fun _ => ?_ | refine x4 fun _ => ?_ | refine x5 fun _ => ?_ | refine Z3 fun _ => ?_ | refine Z4 fun _ => ?_) | refine ZC ?_)
      rw [show decide (a.mac < b.mac) = decide (a.bd * 18446744073709551616 + a.mac < b.bd * 18446744073709551616 + b.mac) by rw [decide_eq_decide]; omega]
      exact re_1 rfl rfl (List.Sublist.refl _) h
    · rw [decide_eq_false (by omega)] at h
      rw [show (a.bd == b.bd) = false from beq_eq_false_iff_ne.2 h2]
      repeat (first | refine Z0 ?_ | (refine ZR ?_; first | refine x1 ?_ | refine x2 ?_ | refine x8 ?_ | refine Z1 ?_ | refine Z2 ?_ | refine x3 fun _ => ?_ | refine x4 fun _ => ?_ | refine x5 fun _ => ?_ | refine Z3 fun _ => ?_ | refine Z4 fun _ => ?_) | refine ZC ?_)
      exact re_1 rfl rfl (List.Sublist.refl _) h
theorem time55_ct (t : Int) (h : Q (.int .i64 (chkT now t)) ((q, AObj.row [.int .i64 lim, .int .i64 win, .int .i64 now, vC, vM, vF] 6 false) :: HR)) :
    CallT (cx B0 old) (acall (cx B0 old) ansP (n + 1)) 55 [.pointer (some ⟨q, 0, none⟩), .int .i64 t] ((q, AObj.row [.int .i64 lim, .int .i64 win, .int .i64 now, vC, vM, vF] 6 false) :: HR) Q := by
  refine call_in2 19 rfl Try.func55 rfl rfl ?_
  unfold chkT at h
  repeat (first | refine Z0 ?_ | (refine ZR ?_; first | refine x1 ?_ | refine x2 ?_ | refine x8 ?_ | refine Z1 ?_ | refine Z2 ?_ | refine x3 fun _ => ?_ | refine x4 fun _ => ?_ | refine x5 fun _ => ?_ | refine Z3 fun _ => ?_ | refine Z4 fun _ => ?_) | refine ZC ?_)
  by_cases h1 : t < 0
  · rw [if_pos (.inl h1)] at h
    rw [show decide (t < 0) = true from decide_eq_true h1]
    repeat (first | refine Z0 ?_ | (refine ZR ?_; first | refine x1 ?_ | refine x2 ?_ | refine x8 ?_ | refine Z1 ?_ | refine Z2 ?_ | refine x3 fun _ => ?_ | refine x4 fun _ => ?_ | refine x5 fun _ => ?_ | refine Z3 fun _ => ?_ | refine Z4 fun _ => ?_) | refine ZC ?_)
    exact re_1 rfl rfl (List.Sublist.refl _) h
  rw [show decide (t < 0) = false from decide_eq_false h1]
  repeat (first | refine Z0 ?_ | (refine ZR ?_; first | refine x1 ?_ | refine x2 ?_ | refine x8 ?_ | refine Z1 ?_ | refine Z2 ?_ | refine x3 fun _ => ?_ | refine x4 fun _ => ?_ | refine x5 fun _ => ?_ | refine Z3 fun _ => ?_ | refine Z4 fun _ => ?_) | refine ZC ?_)
  by_cases h2 : t > 1099511627776
  · rw [if_pos (.inr h2)] at h
    rw [show decide (t > 1099511627776) = true from decide_eq_true h2]
    repeat (first | refine Z0 ?_ | (refine ZR ?_; first | refine x1 ?_ | refine x2 ?_ | refine x8 ?_ | refine Z1 ?_ | refine Z2 ?_ | refine x3 fun _ => ?_ | refine x4 fun _ => ?_ | refine x5 fun _ => ?_ | refine Z3 fun _ => ?_ | refine Z4 fun _ => ?_) | refine ZC ?_)
    exact re_1 rfl rfl (List.Sublist.refl _) h
  rw [if_neg (by omega)] at h
  rw [show decide (t > 1099511627776) = false from decide_eq_false h2]
  repeat (first | refine Z0 ?_ | (refine ZR ?_; first | refine x1 ?_ | refine x2 ?_ | refine x8 ?_ | refine Z1 ?_ | refine Z2 ?_ | refine x3 fun _ => ?_ | refine x4 fun _ => ?_ | refine x5 fun _ => ?_ | refine Z3 fun _ => ?_ | refine Z4 fun _ => ?_) | refine ZC ?_)
  by_cases h3 : t < now
  · rw [if_pos h3] at h
    rw [show decide (t < now) = true from decide_eq_true h3]
    repeat (first | refine Z0 ?_ | (refine ZR ?_; first | refine x1 ?_ | refine x2 ?_ | refine x8 ?_ | refine Z1 ?_ | refine Z2 ?_ | refine x3 fun _ => ?_ | refine x4 fun _ => ?_ | refine x5 fun _ => ?_ | refine Z3 fun _ => ?_ | refine Z4 fun _ => ?_) | refine ZC ?_)
    exact re_1 rfl rfl (List.Sublist.refl _) h
  · rw [if_neg h3] at h
    rw [show decide (t < now) = false from decide_eq_false h3]
    repeat (first | refine Z0 ?_ | (refine ZR ?_; first | refine x1 ?_ | refine x2 ?_ | refine x8 ?_ | refine Z1 ?_ | refine Z2 ?_ | refine x3 fun _ => ?_ | refine x4 fun _ => ?_ | refine x5 fun _ => ?_ | refine Z3 fun _ => ?_ | refine Z4 fun _ => ?_) | refine ZC ?_)
    exact re_1 rfl rfl (List.Sublist.refl _) h
theorem rfrozen58_ct {ad : Option Addr} {c : Nat} (hF : Arr (cx B0 old) HR ad 2 enK Fl) (hl : Fl.length ≤ 100000) (K : Kk) (h : Q (.bool (decide (K ∈ Fl))) ((q, AObj.row [.int .i64 lim, .int .i64 win, .int .i64 now, vC, vM, .slice ad Fl.length c] 6 false) :: HR)) :
    CallT (cx B0 old) (acall (cx B0 old) ansP (n + 1)) 58 [.pointer (some ⟨q, 0, none⟩), .int .i64 K.bd, .int .u64 K.mac] ((q, AObj.row [.int .i64 lim, .int .i64 win, .int .i64 now, vC, vM, .slice ad Fl.length c] 6 false) :: HR) Q := by
  refine call_in3 28 rfl Try.func58 rfl rfl ?_
  repeat (first | refine Z0 ?_ | (refine ZR ?_; first | refine x1 ?_ | refine x2 ?_ | refine x8 ?_ | refine Z1 ?_ | refine Z2 ?_ | refine x3 fun _ => ?_ | refine x4 fun _ => ?_ | refine x5 fun _ => ?_ | refine Z3 fun _ => ?_ | refine Z4 fun _ => ?_) | refine ZC ?_)
  refine loop_ind (ι := Nat) 0 (fun i => Fl.length - i) (fun i => i ≤ Fl.length ∧ K ∉ Fl.take i) (fun i => [(7, .int .i64 (i : Int)), (0, .pointer (some ⟨q, 0, none⟩)), (1, .int .i64 K.bd), (2, .int .u64 K.mac)])
    (fun _ => (q, AObj.row [.int .i64 lim, .int .i64 win, .int .i64 now, vC, vM, .slice ad Fl.length c] 6 false) :: HR) ⟨Nat.zero_le _, fun h => by cases h⟩ (by repeat (first | exact SubL.nil | refine SubL.cons rfl ?_)) (List.Sublist.refl _) ?_
  rintro i ⟨hi, hno⟩
  repeat (first | refine Z0 ?_ | (refine ZR ?_; first | refine x1 ?_ | refine x2 ?_ | refine x8 ?_ | refine Z1 ?_ | refine Z2 ?_ | refine x3 fun _ => ?_ | refine x4 fun _ => ?_ | refine x5 fun _ => ?_ | refine Z3 fun _ => ?_ | refine Z4 fun _ => ?_) | refine ZC ?_)
  refine ct_condT te_d rfl (fun hlt => ?_) (fun hlt => ?_)
  rotate_left
  · obtain rfl : i = Fl.length := by omega
    rw [List.take_length] at hno
    rw [decide_eq_false hno] at h
    repeat (first | refine Z0 ?_ | (refine ZR ?_; first | refine x1 ?_ | refine x2 ?_ | refine x8 ?_ | refine Z1 ?_ | refine Z2 ?_ | refine x3 fun _ => ?_ | refine x4 fun _ => ?_ | refine x5 fun _ => ?_ | refine Z3 fun _ => ?_ | refine Z4 fun _ => ?_) | refine ZC ?_)
    exact re_1 rfl rfl (List.Sublist.refl _) h
  obtain ⟨x, hx⟩ : ∃ x, Fl[i]? = some x := ⟨_, List.getElem?_eq_getElem (by omega)⟩
  have htk : Fl.take (i + 1) = Fl.take i ++ [x] := by rw [List.take_add_one, hx]; rfl
  obtain ⟨b1, o1, e1, hL0⟩ := hF.ldW 122 hx rfl (sz rfl)
  subst e1
  have hs := eqM x K
  unfold enK at hL0 hs
  repeat (first | refine Z0 ?_ | (refine ZR ?_; first | refine x1 ?_ | refine x2 ?_ | refine x8 ?_ | refine Z1 ?_ | refine Z2 ?_ | refine x3 fun _ => ?_ | refine x4 fun _ => ?_ | refine x5 fun _ => ?_ | refine Z3 fun _ => ?_ | refine Z4 fun _ => ?_) | refine ZC ?_)
  refine ct_condT te_d ((rfl : _ = some (Value.bool (leafsEq [.int .i64 x.bd, .int .u64 x.mac] [.int .i64 K.bd, .int .u64 K.mac]))).trans (by rw [hs])) (fun hk => ?_) (fun hk => ?_)
  · rw [decide_eq_true (by rw [← hk]; exact List.mem_iff_getElem?.2 ⟨i, hx⟩)] at h
    repeat (first | refine Z0 ?_ | (refine ZR ?_; first | refine x1 ?_ | refine x2 ?_ | refine x8 ?_ | refine Z1 ?_ | refine Z2 ?_ | refine x3 fun _ => ?_ | refine x4 fun _ => ?_ | refine x5 fun _ => ?_ | refine Z3 fun _ => ?_ | refine Z4 fun _ => ?_) | refine ZC ?_)
    exact re_1 rfl rfl (List.Sublist.refl _) h
  · repeat (first | refine Z0 ?_ | (refine ZR ?_; first | refine x1 ?_ | refine x2 ?_ | refine x8 ?_ | refine Z1 ?_ | refine Z2 ?_ | refine x3 fun _ => ?_ | refine x4 fun _ => ?_ | refine x5 fun _ => ?_ | refine Z3 fun _ => ?_ | refine Z4 fun _ => ?_) | refine ZC ?_)
    exact ⟨i + 1, ⟨by omega, by rw [htk]; simp [hno]; exact fun e => hk e.symm⟩, by omega, by repeat (first | exact SubL.nil | refine SubL.cons rfl ?_), List.Sublist.refl _⟩
theorem rclaim56_ct {ad : Option Addr} {c : Nat} (hC : Arr (cx B0 old) HR ad 4 en57 Cl) (hl : Cl.length ≤ 100000) (K : Kk) (hyes : ∀ (i : Nat) x, Cl[i]? = some x → kC x = K → Q (.int .i64 (i : Int)) ((q, AObj.row [.int .i64 lim, .int .i64 win, .int .i64 now, .slice ad Cl.length c, vM, vF] 6 false) :: HR))
    (hno : (∀ x ∈ Cl, kC x ≠ K) → Q (.int .i64 (-1)) ((q, AObj.row [.int .i64 lim, .int .i64 win, .int .i64 now, .slice ad Cl.length c, vM, vF] 6 false) :: HR)) :
    CallT (cx B0 old) (acall (cx B0 old) ansP (n + 1)) 56 [.pointer (some ⟨q, 0, none⟩), .int .i64 K.bd, .int .u64 K.mac] ((q, AObj.row [.int .i64 lim, .int .i64 win, .int .i64 now, .slice ad Cl.length c, vM, vF] 6 false) :: HR) Q := by
  refine call_in3 40 rfl Try.func56 rfl rfl ?_
  repeat (first | refine Z0 ?_ | (refine ZR ?_; first | refine x1 ?_ | refine x2 ?_ | refine x8 ?_ | refine Z1 ?_ | refine Z2 ?_ | refine x3 fun _ => ?_ | refine x4 fun _ => ?_ | refine x5 fun _ => ?_ | refine Z3 fun _ => ?_ | refine Z4 fun _ => ?_) | refine ZC ?_)
  refine loop_ind (ι := Nat) 0 (fun i => Cl.length - i) (fun i => i ≤ Cl.length ∧ ∀ x ∈ Cl.take i, kC x ≠ K) (fun i => [(7, .int .i64 (i : Int)), (0, .pointer (some ⟨q, 0, none⟩)), (1, .int .i64 K.bd), (2, .int .u64 K.mac)])
    (fun _ => (q, AObj.row [.int .i64 lim, .int .i64 win, .int .i64 now, .slice ad Cl.length c, vM, vF] 6 false) :: HR) ⟨Nat.zero_le _, fun x h => by cases h⟩ (by repeat (first | exact SubL.nil | refine SubL.cons rfl ?_)) (List.Sublist.refl _) ?_
  rintro i ⟨hi, hall⟩
  repeat (first | refine Z0 ?_ | (refine ZR ?_; first | refine x1 ?_ | refine x2 ?_ | refine x8 ?_ | refine Z1 ?_ | refine Z2 ?_ | refine x3 fun _ => ?_ | refine x4 fun _ => ?_ | refine x5 fun _ => ?_ | refine Z3 fun _ => ?_ | refine Z4 fun _ => ?_) | refine ZC ?_)
  refine ct_condT te_d rfl (fun hlt => ?_) (fun hlt => ?_)
  rotate_left
  · obtain rfl : i = Cl.length := by omega
    rw [List.take_length] at hall
    repeat (first | refine Z0 ?_ | (refine ZR ?_; first | refine x1 ?_ | refine x2 ?_ | refine x8 ?_ | refine Z1 ?_ | refine Z2 ?_ | refine x3 fun _ => ?_ | refine x4 fun _ => ?_ | refine x5 fun _ => ?_ | refine Z3 fun _ => ?_ | refine Z4 fun _ => ?_) | refine ZC ?_)
    exact re_1 rfl rfl (List.Sublist.refl _) (hno hall)
  obtain ⟨x, hx⟩ : ∃ x, Cl[i]? = some x := ⟨_, List.getElem?_eq_getElem (by omega)⟩
  have htk : Cl.take (i + 1) = Cl.take i ++ [x] := by rw [List.take_add_one, hx]; rfl
  obtain ⟨b1, o1, e1, hL0⟩ := hC.ldF 3 0 hx rfl rfl rfl (sz rfl)
  obtain ⟨b2, o2, e2, hL1⟩ := hC.ldF 25 1 hx rfl rfl rfl (sz rfl)
  subst e1
  cases e2
  have hnext : kC x ≠ K → ∀ y ∈ Cl.take (i + 1), kC y ≠ K := fun h y hy => by
    rw [htk] at hy
    rcases List.mem_append.1 hy with hy | hy
    · exact hall y hy
    · rw [List.mem_singleton.1 hy]; exact h
  repeat (first | refine Z0 ?_ | (refine ZR ?_; first | refine x1 ?_ | refine x2 ?_ | refine x8 ?_ | refine Z1 ?_ | refine Z2 ?_ | refine x3 fun _ => ?_ | refine x4 fun _ => ?_ | refine x5 fun _ => ?_ | refine Z3 fun _ => ?_ | refine Z4 fun _ => ?_) | refine ZC ?_)
  by_cases h0 : x.bd = K.bd
  · rw [show (x.bd == K.bd) = true from beq_iff_eq.2 h0]
    repeat (first | refine Z0 ?_ | (refine ZR ?_; first | refine x1 ?_ | refine x2 ?_ | refine x8 ?_ | refine Z1 ?_ | refine Z2 ?_ | refine x3 fun _ => ?_ | refine x4 fun _ => ?_ | refine x5 fun _ => ?_ | refine Z3 fun _ => ?_ | refine Z4 fun _ => ?_) | refine ZC ?_)
    by_cases h1 : x.mac = K.mac
    · rw [show (x.mac == K.mac) = true from beq_iff_eq.2 h1]
      repeat (first | refine Z0 ?_ | (refine ZR ?_; first | refine x1 ?_ | refine x2 ?_ | refine x8 ?_ | refine Z1 ?_ | refine Z2 ?_ | refine x3 fun _ => ?_ | refine x4 fun _ => ?_ | refine x5 fun _ => ?_ | refine Z3 fun _ => ?_ | refine Z4 fun _ => ?_) | refine ZC ?_)
      exact re_1 rfl rfl (List.Sublist.refl _) (hyes i x hx (KkM.eta h0 h1))
    · rw [show (x.mac == K.mac) = false from beq_eq_false_iff_ne.2 h1]
      repeat (first | refine Z0 ?_ | (refine ZR ?_; first | refine x1 ?_ | refine x2 ?_ | refine x8 ?_ | refine Z1 ?_ | refine Z2 ?_ | refine x3 fun _ => ?_ | refine x4 fun _ => ?_ | refine x5 fun _ => ?_ | refine Z3 fun _ => ?_ | refine Z4 fun _ => ?_) | refine ZC ?_)
      exact ⟨i + 1, ⟨by omega, hnext fun e => h1 (by rw [← e]; rfl)⟩, by omega, by repeat (first | exact SubL.nil | refine SubL.cons rfl ?_), List.Sublist.refl _⟩
  · rw [show (x.bd == K.bd) = false from beq_eq_false_iff_ne.2 h0]
    repeat (first | refine Z0 ?_ | (refine ZR ?_; first | refine x1 ?_ | refine x2 ?_ | refine x8 ?_ | refine Z1 ?_ | refine Z2 ?_ | refine x3 fun _ => ?_ | refine x4 fun _ => ?_ | refine x5 fun _ => ?_ | refine Z3 fun _ => ?_ | refine Z4 fun _ => ?_) | refine ZC ?_)
    exact ⟨i + 1, ⟨by omega, hnext fun e => h0 (by rw [← e]; rfl)⟩, by omega, by repeat (first | exact SubL.nil | refine SubL.cons rfl ?_), List.Sublist.refl _⟩
theorem rnew30_ct (a b : Int) (hbad : ¬ ((1 ≤ a ∧ a ≤ 100) ∧ 1 ≤ b ∧ b ≤ 10000) → Q (.tuple #[.pointer none, .int .i64 2]) H)
    (hok : (1 ≤ a ∧ a ≤ 100) ∧ 1 ≤ b ∧ b ≤ 10000 → ∀ q G, RfI a b q 0 [] [] [] G → Q (.tuple #[.pointer (some ⟨q, 0, none⟩), .int .i64 0]) (G ++ H)) :
    CallT (cx B0 old) (acall (cx B0 old) ansP (n + 1)) 30 [.int .i64 a, .int .i64 b] H Q := by
  refine call_in2 24 rfl Try.func30 rfl rfl ?_
  repeat (first | refine Z0 ?_ | (refine ZR ?_; first | refine x1 ?_ | refine x2 ?_ | refine x8 ?_ | refine Z1 ?_ | refine Z2 ?_ | refine x3 fun _ => ?_ | refine x4 fun _ => ?_ | refine x5 fun _ => ?_ | refine Z3 fun _ => ?_ | refine Z4 fun _ => ?_) | refine ZC ?_)
  by_cases h1 : a < 1
  · rw [show decide (a < 1) = true from decide_eq_true h1]
    repeat (first | refine Z0 ?_ | (refine ZR ?_; first | refine x1 ?_ | refine x2 ?_ | refine x8 ?_ | refine Z1 ?_ | refine Z2 ?_ | refine x3 fun _ => ?_ | refine x4 fun _ => ?_ | refine x5 fun _ => ?_ | refine Z3 fun _ => ?_ | refine Z4 fun _ => ?_) | refine ZC ?_)
    exact re_2 rfl rfl rfl (List.Sublist.refl _) (hbad (by omega))
  rw [show decide (a < 1) = false from decide_eq_false h1]
  repeat (first | refine Z0 ?_ | (refine ZR ?_; first | refine x1 ?_ | refine x2 ?_ | refine x8 ?_ | refine Z1 ?_ | refine Z2 ?_ | refine x3 fun _ => ?_ | refine x4 fun _ => ?_ | refine x5 fun _ => ?_ | refine Z3 fun _ => ?_ | refine Z4 fun _ => ?_) | refine ZC ?_)
  by_cases h2 : a > 100
  · rw [show decide (a > 100) = true from decide_eq_true h2]
    repeat (first | refine Z0 ?_ | (refine ZR ?_; first | refine x1 ?_ | refine x2 ?_ | refine x8 ?_ | refine Z1 ?_ | refine Z2 ?_ | refine x3 fun _ => ?_ | refine x4 fun _ => ?_ | refine x5 fun _ => ?_ | refine Z3 fun _ => ?_ | refine Z4 fun _ => ?_) | refine ZC ?_)
    exact re_2 rfl rfl rfl (List.Sublist.refl _) (hbad (by omega))
  rw [show decide (a > 100) = false from decide_eq_false h2]
  repeat (first | refine Z0 ?_ | (refine ZR ?_; first | refine x1 ?_ | refine x2 ?_ | refine x8 ?_ | refine Z1 ?_ | refine Z2 ?_ | refine x3 fun _ => ?_ | refine x4 fun _ => ?_ | refine x5 fun _ => ?_ | refine Z3 fun _ => ?_ | refine Z4 fun _ => ?_) | refine ZC ?_)
  by_cases h3 : b < 1
  · rw [show decide (b < 1) = true from decide_eq_true h3]
    repeat (first | refine Z0 ?_ | (refine ZR ?_; first | refine x1 ?_ | refine x2 ?_ | refine x8 ?_ | refine Z1 ?_ | refine Z2 ?_ | refine x3 fun _ => ?_ | refine x4 fun _ => ?_ | refine x5 fun _ => ?_ | refine Z3 fun _ => ?_ | refine Z4 fun _ => ?_) | refine ZC ?_)
    exact re_2 rfl rfl rfl (List.Sublist.refl _) (hbad (by omega))
  rw [show decide (b < 1) = false from decide_eq_false h3]
  repeat (first | refine Z0 ?_ | (refine ZR ?_; first | refine x1 ?_ | refine x2 ?_ | refine x8 ?_ | refine Z1 ?_ | refine Z2 ?_ | refine x3 fun _ => ?_ | refine x4 fun _ => ?_ | refine x5 fun _ => ?_ | refine Z3 fun _ => ?_ | refine Z4 fun _ => ?_) | refine ZC ?_)
  by_cases h4 : b > 10000
  · rw [show decide (b > 10000) = true from decide_eq_true h4]
    repeat (first | refine Z0 ?_ | (refine ZR ?_; first | refine x1 ?_ | refine x2 ?_ | refine x8 ?_ | refine Z1 ?_ | refine Z2 ?_ | refine x3 fun _ => ?_ | refine x4 fun _ => ?_ | refine x5 fun _ => ?_ | refine Z3 fun _ => ?_ | refine Z4 fun _ => ?_) | refine ZC ?_)
    exact re_2 rfl rfl rfl (List.Sublist.refl _) (hbad (by omega))
  rw [show decide (b > 10000) = false from decide_eq_false h4]
  repeat (first | refine Z0 ?_ | (refine ZR ?_; first | refine x1 ?_ | refine x2 ?_ | refine x8 ?_ | refine Z1 ?_ | refine Z2 ?_ | refine x3 fun _ => ?_ | refine x4 fun _ => ?_ | refine x5 fun _ => ?_ | refine Z3 fun _ => ?_ | refine Z4 fun _ => ?_) | refine ZC ?_)
  exact re_2 rfl rfl rfl (List.Sublist.refl _) (hok (by omega) _ _ ⟨_, [], _, [], _, [], .nil, .nil, .nil, rfl⟩)
end
end Go.Proofs.Ytoimfchhmocgeaa.Abs

/- The reference's rival, ordered, moves. -/
namespace Go.Proofs.Ytoimfchhmocgeaa.Abs
open Go
set_option linter.unusedVariables false
def cntM (win now : Int) (K : Kk) (M : List M3) : Nat := (M.filter fun x => decide (kM x = K ∧ x.at' > now - win)).length
section
variable {B0 : Nat} {old : Nat → Option (List Value)} {n : Nat} {H HR GC GM GF : Hp} {Q : Value → Hp → Prop} {q : Nat} {lim win now : Int} {vC vM vF : Value} {Cl : List C57} {Ml : List M3} {Fl : List Kk}
set_option maxRecDepth 10000
set_option maxHeartbeats 8000000
theorem rival62_ct {adr : Option Addr} {cr : Nat} {B : List S27} (hB : Arr (cx B0 old) H adr 5 en27 B) (hl : B.length ≤ 100000) (y : N59) (h : Q (.agg ⟨en27 (rvOf B (kN y))⟩) H) :
    CallT (cx B0 old) (acall (cx B0 old) ansP (n + 1)) 62 [.slice adr B.length cr, .agg ⟨en59 y⟩] H Q := by
  refine call_in2 35 rfl Try.func62 rfl rfl ?_
  unfold en59
  repeat (first | refine Z0 ?_ | (refine ZR ?_; first | refine x1 ?_ | refine x2 ?_ | refine x8 ?_ | refine Z1 ?_ | refine Z2 ?_ | refine x3 fun _ => ?_ | refine x4 fun _ => ?_ | refine x5 fun _ => ?_ | refine Z3 fun _ => ?_ | refine Z4 fun _ => ?_) | refine ZC ?_)
  rename_i t3 t4
  refine loop_ind (ι := Nat) 0 (fun i => B.length - i) (fun i => i ≤ B.length ∧ ∀ r ∈ B.take i, kR r ≠ kN y) (fun i => [(5, .int .i64 (i : Int)), (4, .pointer (some ⟨t4, 0, none⟩)), (3, .pointer (some ⟨t3, 0, none⟩)), (0, .slice adr B.length cr)])
    (fun _ => (t4, AObj.row [.int .i64 0, .int .u64 0, .int .u32 0, .int .u32 0, .bool false] 5 false) :: (t3, AObj.row [.int .i64 y.a0, .int .i64 y.a1, .int .u64 y.a2, .int .u32 y.a3, .bool y.a4, .int .i64 y.a5] 6 false) :: H) ⟨Nat.zero_le _, fun r h => by cases h⟩ (by repeat (first | exact SubL.nil | refine SubL.cons rfl ?_)) (List.Sublist.refl _) ?_
  rintro i ⟨hi, hall⟩
  repeat (first | refine Z0 ?_ | (refine ZR ?_; first | refine x1 ?_ | refine x2 ?_ | refine x8 ?_ | refine Z1 ?_ | refine Z2 ?_ | refine x3 fun _ => ?_ | refine x4 fun _ => ?_ | refine x5 fun _ => ?_ | refine Z3 fun _ => ?_ | refine Z4 fun _ => ?_) | refine ZC ?_)
  refine ct_condT te_d rfl (fun hlt => ?_) (fun hlt => ?_)
  rotate_left
  · obtain rfl : i = B.length := by omega
    rw [List.take_length] at hall
    have e : rvOf B (kN y) = stR0 := by
      unfold rvOf
      rw [List.find?_eq_none.2 fun r hr => by simpa using hall r hr]
    rw [e] at h
    repeat (first | refine Z0 ?_ | (refine ZR ?_; first | refine x1 ?_ | refine x2 ?_ | refine x8 ?_ | refine Z1 ?_ | refine Z2 ?_ | refine x3 fun _ => ?_ | refine x4 fun _ => ?_ | refine x5 fun _ => ?_ | refine Z3 fun _ => ?_ | refine Z4 fun _ => ?_) | refine ZC ?_)
    exact re_c1 rfl rfl (.own _ _ hm0) rfl (sz rfl) rfl (by exact drop_auto) h
  obtain ⟨r, hr⟩ : ∃ r, B[i]? = some r := ⟨_, List.getElem?_eq_getElem (by omega)⟩
  have htk : B.take (i + 1) = B.take i ++ [r] := by rw [List.take_add_one, hr]; rfl
  obtain ⟨b1, o1, e1, hL0⟩ := hB.ldF 3 0 hr rfl rfl rfl (sz rfl)
  obtain ⟨b2, o2, e2, hL1⟩ := hB.ldF 25 1 hr rfl rfl rfl (sz rfl)
  obtain ⟨b3, o3, e3, hL2⟩ := hB.ldW 27 hr rfl (sz rfl)
  subst e1
  cases e2
  cases e3
  have hnext : kR r ≠ kN y → ∀ z ∈ B.take (i + 1), kR z ≠ kN y := fun h z hz => by
    rw [htk] at hz
    rcases List.mem_append.1 hz with hz | hz
    · exact hall z hz
    · rw [List.mem_singleton.1 hz]; exact h
  repeat (first | refine Z0 ?_ | (refine ZR ?_; first | refine x1 ?_ | refine x2 ?_ | refine x8 ?_ | refine Z1 ?_ | refine Z2 ?_ | refine x3 fun _ => ?_ | refine x4 fun _ => ?_ | refine x5 fun _ => ?_ | refine Z3 fun _ => ?_ | refine Z4 fun _ => ?_) | refine ZC ?_)
  refine ct_draw (masks := [0, 0, 3, 7, 15, 0, 32, 127, 255, 511, 511, 2047, 4095, 8191, 511, 16895, 65535, 131071]) (plan := [0, 1, 2, 3, 4, 5, 6, 7, 8, 9, 10, 11, 12, 13, 14, 15, 16, 17]) (E := []) (by kernel_rfl) (by kernel_rfl) (by kernel_rfl) (by kernel_rfl) ?_
  repeat (first | refine Y0 ?_ | (refine YP ?_; first | refine y1 ?_ | refine y2 ?_ | refine Y1 ?_ | refine Y2 ?_))
  by_cases h0 : r.a0 = y.a0
  · rw [show (r.a0 == y.a0) = true from beq_iff_eq.2 h0]
    repeat (first | refine Y0 ?_ | (refine YP ?_; first | refine y1 ?_ | refine y2 ?_ | refine Y1 ?_ | refine Y2 ?_))
    by_cases h1 : r.a1 = y.a2
    · rw [show (r.a1 == y.a2) = true from beq_iff_eq.2 h1]
      have hk : kR r = kN y := KkM.eta h0 h1
      have e : rvOf B (kN y) = r := by
        unfold rvOf
        have hs : B = B.take i ++ r :: B.drop (i + 1) := by
          obtain ⟨hl, rfl⟩ := List.getElem?_eq_some_iff.1 hr
          rw [← List.drop_eq_getElem_cons hl, List.take_append_drop]
        have hn : (B.take i).find? (fun r => decide (kR r = kN y)) = none := List.find?_eq_none.2 fun z hz => by simpa using hall z hz
        rw [hs, List.find?_append, hn, List.find?_cons_of_pos (by simp [hk])]
        rfl
      rw [e] at h
      unfold en27 at hL2 h
      repeat (first | refine Y0 ?_ | (refine YP ?_; first | refine y1 ?_ | refine y2 ?_ | refine Y1 ?_ | refine Y2 ?_))
      repeat (first | refine Z0 ?_ | (refine ZR ?_; first | refine x1 ?_ | refine x2 ?_ | refine x8 ?_ | refine Z1 ?_ | refine Z2 ?_ | refine x3 fun _ => ?_ | refine x4 fun _ => ?_ | refine x5 fun _ => ?_ | refine Z3 fun _ => ?_ | refine Z4 fun _ => ?_) | refine ZC ?_)
      exact re_c1 rfl rfl (.own _ _ hm0) rfl (sz rfl) rfl (by exact drop_auto) h
    · rw [show (r.a1 == y.a2) = false from beq_eq_false_iff_ne.2 h1]
      repeat (first | refine Y0 ?_ | (refine YP ?_; first | refine y1 ?_ | refine y2 ?_ | refine Y1 ?_ | refine Y2 ?_))
      repeat (first | refine Z0 ?_ | (refine ZR ?_; first | refine x1 ?_ | refine x2 ?_ | refine x8 ?_ | refine Z1 ?_ | refine Z2 ?_ | refine x3 fun _ => ?_ | refine x4 fun _ => ?_ | refine x5 fun _ => ?_ | refine Z3 fun _ => ?_ | refine Z4 fun _ => ?_) | refine ZC ?_)
      exact ⟨i + 1, ⟨by omega, hnext fun e => h1 (congrArg Kk.mac e)⟩, by omega, by repeat (first | exact SubL.nil | refine SubL.cons rfl ?_), by exact drop_auto⟩
  · rw [show (r.a0 == y.a0) = false from beq_eq_false_iff_ne.2 h0]
    repeat (first | refine Y0 ?_ | (refine YP ?_; first | refine y1 ?_ | refine y2 ?_ | refine Y1 ?_ | refine Y2 ?_))
    repeat (first | refine Z0 ?_ | (refine ZR ?_; first | refine x1 ?_ | refine x2 ?_ | refine x8 ?_ | refine Z1 ?_ | refine Z2 ?_ | refine x3 fun _ => ?_ | refine x4 fun _ => ?_ | refine x5 fun _ => ?_ | refine Z3 fun _ => ?_ | refine Z4 fun _ => ?_) | refine ZC ?_)
    exact ⟨i + 1, ⟨by omega, hnext fun e => h0 (congrArg Kk.bd e)⟩, by omega, by repeat (first | exact SubL.nil | refine SubL.cons rfl ?_), by exact drop_auto⟩
theorem srt_take1 {ks : List Kk} : SrtR (ks.take 1) := by
  cases ks with
  | nil => exact List.Pairwise.nil
  | cons a l => exact srt_one a
theorem ordered60_ct {adn adr : Option Addr} {cn cr : Nat} {A : List N59} {B : List S27} (hA : Arr (cx B0 old) H adn 6 en59 A) (hB : Arr (cx B0 old) H adr 5 en27 B) (hla : A.length ≤ 1000) (hlb : B.length ≤ 1000) (hwA : ∀ x ∈ A, okK (kN x)) (hwB : ∀ x ∈ B, okK (kR x))
    (hyes : SrtR (A.map kN) ∧ SrtR (B.map kR) → Q (.bool true) H) (hno : ¬ (SrtR (A.map kN) ∧ SrtR (B.map kR)) → Q (.bool false) H) :
    CallT (cx B0 old) (acall (cx B0 old) ansP (n + 2)) 60 [.slice adn A.length cn, .slice adr B.length cr] H Q := by
  refine call_in2 67 rfl Try.func60 rfl rfl ?_
  repeat (first | refine Z0 ?_ | (refine ZR ?_; first | refine x1 ?_ | refine x2 ?_ | refine x8 ?_ | refine Z1 ?_ | refine Z2 ?_ | refine x3 fun _ => ?_ | refine x4 fun _ => ?_ | refine x5 fun _ => ?_ | refine Z3 fun _ => ?_ | refine Z4 fun _ => ?_) | refine ZC ?_)
  refine loop_ind (ι := Nat) 1 (fun i => A.length - i) (fun i => 1 ≤ i ∧ SrtR ((A.map kN).take i)) (fun i => [(5, .int .i64 (i : Int)), (0, .slice adn A.length cn), (1, .slice adr B.length cr)]) (fun _ => H) ⟨Nat.le_refl _, srt_take1⟩ (by repeat (first | exact SubL.nil | refine SubL.cons rfl ?_)) (List.Sublist.refl _) ?_
  rintro i ⟨hi, hs⟩
  repeat (first | refine Z0 ?_ | (refine ZR ?_; first | refine x1 ?_ | refine x2 ?_ | refine x8 ?_ | refine Z1 ?_ | refine Z2 ?_ | refine x3 fun _ => ?_ | refine x4 fun _ => ?_ | refine x5 fun _ => ?_ | refine Z3 fun _ => ?_ | refine Z4 fun _ => ?_) | refine ZC ?_)
  refine ct_condT te_d rfl (fun hlt => ?_) (fun hlt => ?_)
  · have hil : i < A.length := by omega
    obtain ⟨x, hx⟩ : ∃ x, A[i]? = some x := ⟨_, List.getElem?_eq_getElem hil⟩
    obtain ⟨y, hy⟩ : ∃ y, A[i - 1]? = some y := ⟨_, List.getElem?_eq_getElem (by omega)⟩
    have hxk : (A.map kN)[i]? = some (kN x) := by rw [List.getElem?_map, hx]; rfl
    have htk : (A.map kN).take (i + 1) = (A.map kN).take i ++ [kN x] := by rw [List.take_add_one, hxk]; rfl
    have hyk : ((A.map kN).take i)[i - 1]? = some (kN y) := by rw [List.getElem?_take_of_lt (by omega), List.getElem?_map, hy]; rfl
    have hsn := srt_snoc (k := kN x) hs hyk (by rw [List.length_take, List.length_map]; omega)
    obtain ⟨b1, o1, e1, hL0⟩ := hA.ldF 3 0 hx rfl rfl rfl (sz rfl)
    obtain ⟨b2, o2, e2, hL1⟩ := hA.ldF 25 2 hx rfl rfl rfl (sz rfl)
    obtain ⟨b3, o3, e3, hL2⟩ := hA.ldF 3 0 hy rfl rfl rfl (sz rfl)
    obtain ⟨b4, o4, e4, hL3⟩ := hA.ldF 25 2 hy rfl rfl rfl (sz rfl)
    subst e1
    cases e2
    cases e3
    cases e4
    rw [show i - 1 = ((i : Int) - 1).toNat by omega] at hL2 hL3
    repeat (first | refine Z0 ?_ | (refine ZR ?_; first | refine x1 ?_ | refine x2 ?_ | refine x8 ?_ | refine Z1 ?_ | refine Z2 ?_ | refine x3 fun _ => ?_ | refine x4 fun _ => ?_ | refine x5 fun _ => ?_ | refine Z3 fun _ => ?_ | refine Z4 fun _ => ?_) | refine ZC ?_)
    refine ct_draw (masks := [0, 0, 2, 7, 15, 31, 0, 0, 128, 448, 960, 1984, 0, 0, 12288, 28672, 61440, 0, 0, 393216, 917504, 1966080, 4194303, 8388607]) (plan := [0, 1, 2, 3, 4, 5, 6, 7, 8, 9, 10, 11, 12, 13, 14, 15, 16, 17, 18, 19, 20, 21, 22, 23]) (E := []) (by kernel_rfl) (by kernel_rfl) (by kernel_rfl) (by kernel_rfl) ?_
    repeat (first | refine Y0 ?_ | (refine YP ?_; first | refine y1 ?_ | refine y2 ?_ | refine Y1 ?_ | refine Y2 ?_))
    refine pl_S rfl rfl rfl rfl rfl rfl (st_call rfl rfl rfl rfl (below74_ct (kN y) (kN x) (hwA y (List.mem_iff_getElem?.2 ⟨_, hy⟩)) (hwA x (List.mem_iff_getElem?.2 ⟨_, hx⟩)) ⟨by exact rec_auto, ?_⟩))
    by_cases hb : rkK (kN y) < rkK (kN x)
    · rw [decide_eq_true hb]
      repeat (first | refine Y0 ?_ | (refine YP ?_; first | refine y1 ?_ | refine y2 ?_ | refine Y1 ?_ | refine Y2 ?_))
      repeat (first | refine Z0 ?_ | (refine ZR ?_; first | refine x1 ?_ | refine x2 ?_ | refine x8 ?_ | refine Z1 ?_ | refine Z2 ?_ | refine x3 fun _ => ?_ | refine x4 fun _ => ?_ | refine x5 fun _ => ?_ | refine Z3 fun _ => ?_ | refine Z4 fun _ => ?_) | refine ZC ?_)
      exact ⟨i + 1, ⟨by omega, by rw [htk]; exact hsn.2 hb⟩, by omega, by repeat (first | exact SubL.nil | refine SubL.cons rfl ?_), List.Sublist.refl _⟩
    · rw [decide_eq_false hb]
      repeat (first | refine Y0 ?_ | (refine YP ?_; first | refine y1 ?_ | refine y2 ?_ | refine Y1 ?_ | refine Y2 ?_))
      repeat (first | refine Z0 ?_ | (refine ZR ?_; first | refine x1 ?_ | refine x2 ?_ | refine x8 ?_ | refine Z1 ?_ | refine Z2 ?_ | refine x3 fun _ => ?_ | refine x4 fun _ => ?_ | refine x5 fun _ => ?_ | refine Z3 fun _ => ?_ | refine Z4 fun _ => ?_) | refine ZC ?_)
      exact re_1 rfl rfl (List.Sublist.refl _) (hno fun g => hb (hsn.1 (by rw [← htk]; exact srt_sub g.1 (List.take_sublist _ _))))
  rw [List.take_of_length_le (by rw [List.length_map]; omega)] at hs
  repeat (first | refine Z0 ?_ | (refine ZR ?_; first | refine x1 ?_ | refine x2 ?_ | refine x8 ?_ | refine Z1 ?_ | refine Z2 ?_ | refine x3 fun _ => ?_ | refine x4 fun _ => ?_ | refine x5 fun _ => ?_ | refine Z3 fun _ => ?_ | refine Z4 fun _ => ?_) | refine ZC ?_)
  refine loop_ind (ι := Nat) 1 (fun i => B.length - i) (fun i => 1 ≤ i ∧ SrtR ((B.map kR).take i)) (fun i => [(6, .int .i64 (i : Int)), (1, .slice adr B.length cr)]) (fun _ => H) ⟨Nat.le_refl _, srt_take1⟩ (by repeat (first | exact SubL.nil | refine SubL.cons rfl ?_)) (List.Sublist.refl _) ?_
  clear hlt hi
  rintro i ⟨hi, hs2⟩
  repeat (first | refine Z0 ?_ | (refine ZR ?_; first | refine x1 ?_ | refine x2 ?_ | refine x8 ?_ | refine Z1 ?_ | refine Z2 ?_ | refine x3 fun _ => ?_ | refine x4 fun _ => ?_ | refine x5 fun _ => ?_ | refine Z3 fun _ => ?_ | refine Z4 fun _ => ?_) | refine ZC ?_)
  refine ct_condT te_d rfl (fun hlt => ?_) (fun hlt => ?_)
  · have hil : i < B.length := by omega
    obtain ⟨x, hx⟩ : ∃ x, B[i]? = some x := ⟨_, List.getElem?_eq_getElem hil⟩
    obtain ⟨y, hy⟩ : ∃ y, B[i - 1]? = some y := ⟨_, List.getElem?_eq_getElem (by omega)⟩
    have hxk : (B.map kR)[i]? = some (kR x) := by rw [List.getElem?_map, hx]; rfl
    have htk : (B.map kR).take (i + 1) = (B.map kR).take i ++ [kR x] := by rw [List.take_add_one, hxk]; rfl
    have hyk : ((B.map kR).take i)[i - 1]? = some (kR y) := by rw [List.getElem?_take_of_lt (by omega), List.getElem?_map, hy]; rfl
    have hsn := srt_snoc (k := kR x) hs2 hyk (by rw [List.length_take, List.length_map]; omega)
    obtain ⟨b1, o1, e1, hL0⟩ := hB.ldF 3 0 hx rfl rfl rfl (sz rfl)
    obtain ⟨b2, o2, e2, hL1⟩ := hB.ldF 25 1 hx rfl rfl rfl (sz rfl)
    obtain ⟨b3, o3, e3, hL2⟩ := hB.ldF 3 0 hy rfl rfl rfl (sz rfl)
    obtain ⟨b4, o4, e4, hL3⟩ := hB.ldF 25 1 hy rfl rfl rfl (sz rfl)
    subst e1
    cases e2
    cases e3
    cases e4
    rw [show i - 1 = ((i : Int) - 1).toNat by omega] at hL2 hL3
    repeat (first | refine Z0 ?_ | (refine ZR ?_; first | refine x1 ?_ | refine x2 ?_ | refine x8 ?_ | refine Z1 ?_ | refine Z2 ?_ | refine x3 fun _ => ?_ | refine x4 fun _ => ?_ | refine x5 fun _ => ?_ | refine Z3 fun _ => ?_ | refine Z4 fun _ => ?_) | refine ZC ?_)
    refine ct_draw (masks := [0, 0, 2, 7, 15, 31, 0, 0, 128, 448, 960, 1984, 0, 0, 12288, 28672, 61440, 0, 0, 393216, 917504, 1966080, 4194303, 8388607]) (plan := [0, 1, 2, 3, 4, 5, 6, 7, 8, 9, 10, 11, 12, 13, 14, 15, 16, 17, 18, 19, 20, 21, 22, 23]) (E := []) (by kernel_rfl) (by kernel_rfl) (by kernel_rfl) (by kernel_rfl) ?_
    repeat (first | refine Y0 ?_ | (refine YP ?_; first | refine y1 ?_ | refine y2 ?_ | refine Y1 ?_ | refine Y2 ?_))
    refine pl_S rfl rfl rfl rfl rfl rfl (st_call rfl rfl rfl rfl (below74_ct (kR y) (kR x) (hwB y (List.mem_iff_getElem?.2 ⟨_, hy⟩)) (hwB x (List.mem_iff_getElem?.2 ⟨_, hx⟩)) ⟨by exact rec_auto, ?_⟩))
    by_cases hb : rkK (kR y) < rkK (kR x)
    · rw [decide_eq_true hb]
      repeat (first | refine Y0 ?_ | (refine YP ?_; first | refine y1 ?_ | refine y2 ?_ | refine Y1 ?_ | refine Y2 ?_))
      repeat (first | refine Z0 ?_ | (refine ZR ?_; first | refine x1 ?_ | refine x2 ?_ | refine x8 ?_ | refine Z1 ?_ | refine Z2 ?_ | refine x3 fun _ => ?_ | refine x4 fun _ => ?_ | refine x5 fun _ => ?_ | refine Z3 fun _ => ?_ | refine Z4 fun _ => ?_) | refine ZC ?_)
      exact ⟨i + 1, ⟨by omega, by rw [htk]; exact hsn.2 hb⟩, by omega, by repeat (first | exact SubL.nil | refine SubL.cons rfl ?_), List.Sublist.refl _⟩
    · rw [decide_eq_false hb]
      repeat (first | refine Y0 ?_ | (refine YP ?_; first | refine y1 ?_ | refine y2 ?_ | refine Y1 ?_ | refine Y2 ?_))
      repeat (first | refine Z0 ?_ | (refine ZR ?_; first | refine x1 ?_ | refine x2 ?_ | refine x8 ?_ | refine Z1 ?_ | refine Z2 ?_ | refine x3 fun _ => ?_ | refine x4 fun _ => ?_ | refine x5 fun _ => ?_ | refine Z3 fun _ => ?_ | refine Z4 fun _ => ?_) | refine ZC ?_)
      exact re_1 rfl rfl (List.Sublist.refl _) (hno fun g => hb (hsn.1 (by rw [← htk]; exact srt_sub g.2 (List.take_sublist _ _))))
  rw [List.take_of_length_le (by rw [List.length_map]; omega)] at hs2
  repeat (first | refine Z0 ?_ | (refine ZR ?_; first | refine x1 ?_ | refine x2 ?_ | refine x8 ?_ | refine Z1 ?_ | refine Z2 ?_ | refine x3 fun _ => ?_ | refine x4 fun _ => ?_ | refine x5 fun _ => ?_ | refine Z3 fun _ => ?_ | refine Z4 fun _ => ?_) | refine ZC ?_)
  exact re_1 rfl rfl (List.Sublist.refl _) (hyes ⟨hs, hs2⟩)
end
end Go.Proofs.Ytoimfchhmocgeaa.Abs

/- The reference's moves. -/
namespace Go.Proofs.Ytoimfchhmocgeaa.Abs
open Go
set_option linter.unusedVariables false
theorem rk_a {s q : Nat × AObj} {C M F H : Hp} : (s :: q :: (M ++ (C ++ (F ++ H)))).Perm (s :: q :: (C ++ (M ++ (F ++ H)))) := List.Perm.append_left [s, q] (List.perm_append_comm_assoc M C _)
theorem rk_b {s q : Nat × AObj} {C M F H : Hp} : (s :: q :: (F ++ (C ++ (M ++ H)))).Perm (s :: q :: (C ++ (M ++ (F ++ H)))) :=
  pmF (fun i => match i with | 0 => [s, q] | 1 => F | 2 => C | _ => M) (a := [0, 1, 2, 3]) (b := [0, 2, 3, 1]) (by decide)
theorem flt_step {α : Type} (f : α → Bool) {A : List α} {i : Nat} {x : α} (hx : A[i]? = some x) : ((A.take (i + 1)).filter f).length = ((A.take i).filter f).length + (if f x = true then 1 else 0) := by
  have htk : A.take (i + 1) = A.take i ++ [x] := by rw [List.take_add_one, hx]; rfl
  rw [htk, List.filter_append, List.length_append]
  cases h : f x
  · rw [List.filter_cons_of_neg (by simp [h])]; rfl
  · rw [List.filter_cons_of_pos h]; rfl
section
variable {B0 : Nat} {old : Nat → Option (List Value)} {n : Nat} {H HR GC GM GF : Hp} {Q : Value → Hp → Prop} {q : Nat} {lim win now : Int} {vC vM vF : Value} {Cl : List C57} {Ml : List M3} {Fl : List Kk}
set_option maxRecDepth 10000
set_option maxHeartbeats 8000000
theorem rmoves57_ct (hM : Own enM 3 Ml vM GM) (hF : Own enK 2 Fl vF GF) (hl : Ml.length ≤ 2500) (hlf : Fl.length ≤ 2500) (hn : 0 ≤ now ∧ now ≤ 1099511627776) (hwn : 0 ≤ win ∧ win ≤ 100000) (K : Kk)
    (hyes : (cntM win now K (Ml ++ [⟨K.bd, K.mac, now⟩]) : Int) > lim → ∀ vM' GM' vF' GF', Own enM 3 (Ml ++ [⟨K.bd, K.mac, now⟩]) vM' GM' → Own enK 2 (Fl ++ [K]) vF' GF' →
      Q (.bool true) ((q, AObj.row [.int .i64 lim, .int .i64 win, .int .i64 now, vC, vM', vF'] 6 false) :: (GC ++ (GM' ++ (GF' ++ H)))))
    (hno : ¬ (cntM win now K (Ml ++ [⟨K.bd, K.mac, now⟩]) : Int) > lim → ∀ vM' GM', Own enM 3 (Ml ++ [⟨K.bd, K.mac, now⟩]) vM' GM' →
      Q (.bool false) ((q, AObj.row [.int .i64 lim, .int .i64 win, .int .i64 now, vC, vM', vF] 6 false) :: (GC ++ (GM' ++ (GF ++ H))))) :
    CallT (cx B0 old) (acall (cx B0 old) ansP (n + 1)) 57 [.pointer (some ⟨q, 0, none⟩), .int .i64 K.bd, .int .u64 K.mac] ((q, AObj.row [.int .i64 lim, .int .i64 win, .int .i64 now, vC, vM, vF] 6 false) :: (GC ++ (GM ++ (GF ++ H)))) Q := by
  refine call_in3 96 rfl Try.func57 rfl rfl ?_
  obtain ⟨adM, cM, eM, gM⟩ := hM.arrW (C := cx B0 old) enM_len
  subst eM
  obtain ⟨adF, cF, eF, _⟩ := hF.arrW (C := cx B0 old) enK_len
  subst eF
  repeat (first | refine Z0 ?_ | (refine ZR ?_; first | refine x1 ?_ | refine x2 ?_ | refine x8 ?_ | refine Z1 ?_ | refine Z2 ?_ | refine x3 fun _ => ?_ | refine x4 fun _ => ?_ | refine x5 fun _ => ?_ | refine Z3 fun _ => ?_ | refine Z4 fun _ => ?_) | refine ZC ?_)
  refine ct_draw (masks := [0, 0, 2, 6, 14, 0, 0, 0, 128, 384, 896, 2016, 4064, 8190, 16383, 32767, 65535]) (plan := [0, 1, 2, 3, 4, 5, 6, 7, 8, 9, 10, 11, 12, 13, 14, 15, 16]) (E := []) (by kernel_rfl) (by kernel_rfl) (by kernel_rfl) (by kernel_rfl) ?_
  repeat (first | refine Y0 ?_ | (refine YP ?_; first | refine y1 ?_ | refine y2 ?_ | refine Y1 ?_ | refine Y2 ?_))
  refine pl_S rfl rfl rfl rfl rfl rfl (st_buildSlice rfl (zr rfl) rfl rfl rfl rfl rfl rfl fun bs => ⟨by exact rec_auto, ?_⟩)
  refine PlanT.perm ?_ (rk_a (C := GC) (M := GM) (F := GF))
  refine pl_S rfl rfl rfl rfl rfl rfl (st_appP (M := [⟨K.bd, K.mac, now⟩]) (c := 1) (pre := [_, _]) hM enM_len enM_one rfl rfl (ap rfl) (arrW_one (a := ⟨K.bd, K.mac, now⟩) enM_len hm0) (Nat.le_trans (Nat.mul_le_mul_right _ (show 2 * (Ml.length + [(⟨K.bd, K.mac, now⟩ : M3)].length) + 192 ≤ 6000 by simp only [List.length_singleton]; omega)) (by decide)) fun v2 G2 o2 => ⟨by exact rec_auto, ?_⟩)
  refine PlanT.perm ?_ (rk_a (C := GC) (M := G2) (F := GF)).symm
  obtain ⟨M', hM'⟩ : ∃ M', Ml ++ [(⟨K.bd, K.mac, now⟩ : M3)] = M' := ⟨_, rfl⟩
  have hml : M'.length ≤ 2501 := by rw [← hM', List.length_append, List.length_singleton]; omega
  rw [hM'] at o2 hyes hno
  obtain ⟨ad2, c2, e2, g2⟩ := o2.arrW (C := cx B0 old) enM_len
  subst e2
  clear gM hM
  repeat (first | refine Y0 ?_ | (refine YP ?_; first | refine y1 ?_ | refine y2 ?_ | refine Y1 ?_ | refine Y2 ?_))
  refine y3 ?_
  repeat (first | refine Y0 ?_ | (refine YP ?_; first | refine y1 ?_ | refine y2 ?_ | refine Y1 ?_ | refine Y2 ?_))
  repeat (first | refine Z0 ?_ | (refine ZR ?_; first | refine x1 ?_ | refine x2 ?_ | refine x8 ?_ | refine Z1 ?_ | refine Z2 ?_ | refine x3 fun _ => ?_ | refine x4 fun _ => ?_ | refine x5 fun _ => ?_ | refine Z3 fun _ => ?_ | refine Z4 fun _ => ?_) | refine ZC ?_)
  have hA : Arr (cx B0 old) (G2 ++ (GF ++ H)) ad2 3 enM M' := (g2 [] (GF ++ H)).arr enM_len
  clear g2
  refine loop_ind (ι := Nat) 0 (fun i => M'.length - i) (fun i => i ≤ M'.length) (fun i => [(8, .int .i64 (i : Int)), (7, .int .i64 (cntM win now K (M'.take i) : Int)), (0, .pointer (some ⟨q, 0, none⟩)), (1, .int .i64 K.bd), (2, .int .u64 K.mac)])
    (fun _ => (q, AObj.row [.int .i64 lim, .int .i64 win, .int .i64 now, vC, .slice ad2 M'.length c2, .slice adF Fl.length cF] 6 false) :: (GC ++ (G2 ++ (GF ++ H)))) (Nat.zero_le _) (by repeat (first | exact SubL.nil | refine SubL.cons rfl ?_)) (List.sublist_cons_self _ _) ?_
  intro i hi
  repeat (first | refine Z0 ?_ | (refine ZR ?_; first | refine x1 ?_ | refine x2 ?_ | refine x8 ?_ | refine Z1 ?_ | refine Z2 ?_ | refine x3 fun _ => ?_ | refine x4 fun _ => ?_ | refine x5 fun _ => ?_ | refine Z3 fun _ => ?_ | refine Z4 fun _ => ?_) | refine ZC ?_)
  refine ct_condT te_d rfl (fun hlt => ?_) (fun hlt => ?_)
  · obtain ⟨x, hx⟩ : ∃ x, M'[i]? = some x := ⟨_, List.getElem?_eq_getElem (by omega)⟩
    have hst := flt_step (fun x : M3 => decide (kM x = K ∧ x.at' > now - win)) hx
    have hcl : cntM win now K (M'.take i) ≤ 2501 := Nat.le_trans (List.length_filter_le _ _) (by rw [List.length_take]; omega)
    obtain ⟨b1, o1, e1, hL0⟩ := hA.ldF 3 0 hx rfl rfl rfl (sz rfl)
    obtain ⟨b2, o2, e2, hL1⟩ := hA.ldF 25 1 hx rfl rfl rfl (sz rfl)
    obtain ⟨b3, o3, e3, hL2⟩ := hA.ldF 3 2 hx rfl rfl rfl (sz rfl)
    subst e1
    cases e2
    cases e3
    have hmiss : ¬ (kM x = K ∧ x.at' > now - win) → cntM win now K (M'.take (i + 1)) = cntM win now K (M'.take i) := fun h => by
      unfold cntM
      rw [hst, if_neg (by simpa using h)]
      omega
    have hhit : (kM x = K ∧ x.at' > now - win) → cntM win now K (M'.take (i + 1)) = cntM win now K (M'.take i) + 1 := fun h => by
      unfold cntM
      rw [hst, if_pos (decide_eq_true h)]
    repeat (first | refine Z0 ?_ | (refine ZR ?_; first | refine x1 ?_ | refine x2 ?_ | refine x8 ?_ | refine Z1 ?_ | refine Z2 ?_ | refine x3 fun _ => ?_ | refine x4 fun _ => ?_ | refine x5 fun _ => ?_ | refine Z3 fun _ => ?_ | refine Z4 fun _ => ?_) | refine ZC ?_)
    refine ct_draw (masks := [0, 1, 3, 7, 0, 31, 63, 127, 0, 511, 1023, 2047, 4095, 8191, 16383, 2047, 65535, 131071, 262143, 2047, 1048575, 2097151, 4194303, 8388607, 16777215, 33554431, 67108863, 8388607, 268435455, 536870911, 1073741823, 8388607, 2155872255, 6450839551, 15040774143, 8388607, 34368126975, 103087603711, 240526557183, 547616718847, 1099511627775, 2199023255551]) (plan := [0, 1, 2, 3, 4, 5, 6, 7, 8, 9, 10, 11, 12, 13, 14, 15, 16, 17, 18, 19, 20, 21, 22, 23, 24, 25, 26, 27, 28, 29, 30, 31, 32, 33, 34, 35, 36, 37, 38, 39, 40, 41]) (E := []) (by kernel_rfl) (by kernel_rfl) (by kernel_rfl) (by kernel_rfl) ?_
    repeat (first | refine Y0 ?_ | (refine YP ?_; first | refine y1 ?_ | refine y2 ?_ | refine Y1 ?_ | refine Y2 ?_))
    by_cases h0 : x.bd = K.bd
    · rw [show (x.bd == K.bd) = true from beq_iff_eq.2 h0]
      repeat (first | refine Y0 ?_ | (refine YP ?_; first | refine y1 ?_ | refine y2 ?_ | refine Y1 ?_ | refine Y2 ?_))
      by_cases h1 : x.mac = K.mac
      · rw [show (x.mac == K.mac) = true from beq_iff_eq.2 h1]
        repeat (first | refine Y0 ?_ | (refine YP ?_; first | refine y1 ?_ | refine y2 ?_ | refine Y1 ?_ | refine Y2 ?_))
        by_cases h2 : x.at' > now - win
        · rw [show decide (x.at' > now - win) = true from decide_eq_true h2]
          repeat (first | refine Y0 ?_ | (refine YP ?_; first | refine y1 ?_ | refine y2 ?_ | refine Y1 ?_ | refine Y2 ?_))
          repeat (first | refine Z0 ?_ | (refine ZR ?_; first | refine x1 ?_ | refine x2 ?_ | refine x8 ?_ | refine Z1 ?_ | refine Z2 ?_ | refine x3 fun _ => ?_ | refine x4 fun _ => ?_ | refine x5 fun _ => ?_ | refine Z3 fun _ => ?_ | refine Z4 fun _ => ?_) | refine ZC ?_)
          exact ⟨i + 1, by omega, by omega, .cons rfl (.cons (by rw [hhit ⟨KkM.eta h0 h1, h2⟩]; rfl) (by repeat (first | exact SubL.nil | refine SubL.cons rfl ?_))), by exact drop_auto⟩
        · rw [show decide (x.at' > now - win) = false from decide_eq_false h2]
          repeat (first | refine Y0 ?_ | (refine YP ?_; first | refine y1 ?_ | refine y2 ?_ | refine Y1 ?_ | refine Y2 ?_))
          repeat (first | refine Z0 ?_ | (refine ZR ?_; first | refine x1 ?_ | refine x2 ?_ | refine x8 ?_ | refine Z1 ?_ | refine Z2 ?_ | refine x3 fun _ => ?_ | refine x4 fun _ => ?_ | refine x5 fun _ => ?_ | refine Z3 fun _ => ?_ | refine Z4 fun _ => ?_) | refine ZC ?_)
          exact ⟨i + 1, by omega, by omega, .cons rfl (.cons (by rw [hmiss fun g => h2 g.2]; rfl) (by repeat (first | exact SubL.nil | refine SubL.cons rfl ?_))), by exact drop_auto⟩
      · rw [show (x.mac == K.mac) = false from beq_eq_false_iff_ne.2 h1]
        repeat (first | refine Y0 ?_ | (refine YP ?_; first | refine y1 ?_ | refine y2 ?_ | refine Y1 ?_ | refine Y2 ?_))
        repeat (first | refine Z0 ?_ | (refine ZR ?_; first | refine x1 ?_ | refine x2 ?_ | refine x8 ?_ | refine Z1 ?_ | refine Z2 ?_ | refine x3 fun _ => ?_ | refine x4 fun _ => ?_ | refine x5 fun _ => ?_ | refine Z3 fun _ => ?_ | refine Z4 fun _ => ?_) | refine ZC ?_)
        exact ⟨i + 1, by omega, by omega, .cons rfl (.cons (by rw [hmiss fun g => h1 (by rw [← g.1]; rfl)]; rfl) (by repeat (first | exact SubL.nil | refine SubL.cons rfl ?_))), by exact drop_auto⟩
    · rw [show (x.bd == K.bd) = false from beq_eq_false_iff_ne.2 h0]
      repeat (first | refine Y0 ?_ | (refine YP ?_; first | refine y1 ?_ | refine y2 ?_ | refine Y1 ?_ | refine Y2 ?_))
      repeat (first | refine Z0 ?_ | (refine ZR ?_; first | refine x1 ?_ | refine x2 ?_ | refine x8 ?_ | refine Z1 ?_ | refine Z2 ?_ | refine x3 fun _ => ?_ | refine x4 fun _ => ?_ | refine x5 fun _ => ?_ | refine Z3 fun _ => ?_ | refine Z4 fun _ => ?_) | refine ZC ?_)
      exact ⟨i + 1, by omega, by omega, .cons rfl (.cons (by rw [hmiss fun g => h0 (by rw [← g.1]; rfl)]; rfl) (by repeat (first | exact SubL.nil | refine SubL.cons rfl ?_))), by exact drop_auto⟩
  obtain rfl : i = M'.length := by omega
  rw [List.take_length]
  repeat (first | refine Z0 ?_ | (refine ZR ?_; first | refine x1 ?_ | refine x2 ?_ | refine x8 ?_ | refine Z1 ?_ | refine Z2 ?_ | refine x3 fun _ => ?_ | refine x4 fun _ => ?_ | refine x5 fun _ => ?_ | refine Z3 fun _ => ?_ | refine Z4 fun _ => ?_) | refine ZC ?_)
  refine ct_condT te_d rfl (fun hgt => ?_) (fun hgt => ?_)
  rotate_left
  · repeat (first | refine Z0 ?_ | (refine ZR ?_; first | refine x1 ?_ | refine x2 ?_ | refine x8 ?_ | refine Z1 ?_ | refine Z2 ?_ | refine x3 fun _ => ?_ | refine x4 fun _ => ?_ | refine x5 fun _ => ?_ | refine Z3 fun _ => ?_ | refine Z4 fun _ => ?_) | refine ZC ?_)
    exact re_1 rfl rfl (List.Sublist.refl _) (hno hgt _ G2 o2)
  repeat (first | refine Z0 ?_ | (refine ZR ?_; first | refine x1 ?_ | refine x2 ?_ | refine x8 ?_ | refine Z1 ?_ | refine Z2 ?_ | refine x3 fun _ => ?_ | refine x4 fun _ => ?_ | refine x5 fun _ => ?_ | refine Z3 fun _ => ?_ | refine Z4 fun _ => ?_) | refine ZC ?_)
  refine RunT.perm ?_ (rk_b (C := GC) (M := G2) (F := GF))
  refine rt_step rfl rfl rfl (st_appP (M := [K]) (c := 1) (pre := [_, _]) hF enK_len enK_one rfl rfl (ap rfl) (arrW_one (a := K) enK_len hm0) (Nat.le_trans (Nat.mul_le_mul_right _ (show 2 * (Fl.length + [K].length) + 192 ≤ 6000 by simp only [List.length_singleton]; omega)) (by decide)) fun v3 G3 o3 => ?_)
  refine RunT.perm ?_ (rk_b (C := GC) (M := G2) (F := G3)).symm
  obtain ⟨ad3, c3, e3, _⟩ := o3.arrW (C := cx B0 old) enK_len
  subst e3
  repeat (first | refine Z0 ?_ | (refine ZR ?_; first | refine x1 ?_ | refine x2 ?_ | refine x8 ?_ | refine Z1 ?_ | refine Z2 ?_ | refine x3 fun _ => ?_ | refine x4 fun _ => ?_ | refine x5 fun _ => ?_ | refine Z3 fun _ => ?_ | refine Z4 fun _ => ?_) | refine ZC ?_)
  exact re_1 rfl rfl (List.sublist_cons_self _ _) (hyes hgt _ G2 _ G3 o2 o3)
end
end Go.Proofs.Ytoimfchhmocgeaa.Abs

/- The reference's settle. -/
namespace Go.Proofs.Ytoimfchhmocgeaa.Abs
open Go
set_option linter.unusedVariables false
def RelC (C : List C57) (cl : Kk → Option (Int × Bool)) : Prop := SrtR (C.map kC) ∧ (∀ x ∈ C, okK (kC x) ∧ cl (kC x) = some (x.seq, x.fz)) ∧ ∀ k, cl k ≠ none → ∃ x ∈ C, kC x = k
theorem rel_no {C : List C57} {cl : Kk → Option (Int × Bool)} {K : Kk} (h : RelC C cl) (hn : ∀ x ∈ C, kC x ≠ K) : cl K = none := by
  cases e : cl K with
  | none => rfl
  | some a =>
    obtain ⟨x, hx, hk⟩ := h.2.2 K (by rw [e]; simp)
    exact absurd hk (hn x hx)
theorem rel_ne {C : List C57} {cl : Kk → Option (Int × Bool)} {K : Kk} (h : RelC C cl) (hn : cl K = none) : ∀ x ∈ C, kC x ≠ K := fun x hx hk => by
  have := (h.2.1 x hx).2
  rw [hk, hn] at this
  cases this
theorem split_at {α : Type} {C : List α} {i : Nat} {x : α} (hx : C[i]? = some x) : C = C.take i ++ x :: C.drop (i + 1) := by
  obtain ⟨hl, rfl⟩ := List.getElem?_eq_some_iff.1 hx
  rw [← List.drop_eq_getElem_cons hl, List.take_append_drop]
theorem rel_del {C : List C57} {cl : Kk → Option (Int × Bool)} {K : Kk} {i : Nat} {x : C57} (h : RelC C cl) (hx : C[i]? = some x) (hk : kC x = K) : RelC (C.take i ++ C.drop (i + 1)) (updF cl K none) := by
  have hs := split_at hx
  have hne : ∀ y ∈ C.take i ++ C.drop (i + 1), kC y ≠ K := fun y hy e => by
    have h1 := h.1
    unfold SrtR at h1
    rw [hs, List.map_append, List.map_append, List.pairwise_append, List.map_cons, List.map_cons, List.pairwise_cons] at h1
    rcases List.mem_append.1 hy with hy | hy
    · have := h1.2.2 (rkK (kC y)) (List.mem_map_of_mem (List.mem_map_of_mem hy)) (rkK (kC x)) (List.mem_cons_self ..)
      rw [hk, e] at this
      omega
    · have := h1.2.1.1 (rkK (kC y)) (List.mem_map_of_mem (List.mem_map_of_mem hy))
      rw [hk, e] at this
      omega
  have hsub : (C.take i ++ C.drop (i + 1)).Sublist C := by
    conv => rhs; rw [hs]
    exact (List.Sublist.refl _).append (List.sublist_cons_self _ _)
  refine ⟨srt_sub h.1 (hsub.map _), fun y hy => ?_, fun k hkn => ?_⟩
  · rw [updF_ne _ _ (hne y hy)]
    exact h.2.1 y (hsub.subset hy)
  · by_cases e : k = K
    · rw [e, updF_eq] at hkn
      exact absurd rfl hkn
    · rw [updF_ne _ _ e] at hkn
      obtain ⟨y, hy, hyk⟩ := h.2.2 k hkn
      refine ⟨y, ?_, hyk⟩
      rw [hs] at hy
      rcases List.mem_append.1 hy with hy | hy
      · exact List.mem_append_left _ hy
      · rcases List.mem_cons.1 hy with hy | hy
        · exact absurd (hyk.symm.trans (by rw [hy]; exact hk)) e
        · exact List.mem_append_right _ hy
theorem rel_ins {D : List C57} {cl : Kk → Option (Int × Bool)} {K : Kk} {k : Nat} {z : C57} (h : RelC D cl) (hz : kC z = K) (hok : okK K) (hn : cl K = none) (hlt : ∀ a y, a < k → D[a]? = some y → rkK (kC y) < rkK K) (hge : ∀ a y, k ≤ a → D[a]? = some y → ¬ rkK (kC y) < rkK K) :
    RelC (D.take k ++ [z] ++ D.drop k) (updF cl K (some (z.seq, z.fz))) := by
  have hne := rel_ne h hn
  have hlt' : ∀ y ∈ D.take k, rkK (kC y) < rkK K := fun y hy => by
    obtain ⟨a, ha⟩ := List.mem_iff_getElem?.1 hy
    rw [List.getElem?_take] at ha
    split at ha
    · exact hlt a y ‹_› ha
    · cases ha
  have hgt' : ∀ y ∈ D.drop k, rkK K < rkK (kC y) := fun y hy => by
    obtain ⟨a, ha⟩ := List.mem_iff_getElem?.1 hy
    rw [List.getElem?_drop] at ha
    have h1 := hge (k + a) y (by omega) ha
    have hm := List.mem_of_mem_drop hy
    have h2 : rkK (kC y) ≠ rkK K := fun e => hne y hm (rk_inj (h.2.1 y hm).1 hok e)
    omega
  have h1 := h.1
  unfold SrtR at h1
  rw [← List.take_append_drop k D, List.map_append, List.map_append, List.pairwise_append] at h1
  refine ⟨?_, fun y hy => ?_, fun j hj => ?_⟩
  · unfold SrtR
    rw [List.append_assoc, List.map_append, List.map_append, List.pairwise_append, List.map_append, List.map_append, List.pairwise_append]
    refine ⟨h1.1, ⟨by simp, h1.2.1, fun a ha b hb => ?_⟩, fun a ha b hb => ?_⟩
    · simp only [List.map_cons, List.map_nil, List.mem_singleton] at ha
      subst ha
      simp only [List.map_map, List.mem_map] at hb
      obtain ⟨y, hy, rfl⟩ := hb
      rw [hz]
      exact hgt' y hy
    · rcases List.mem_append.1 hb with hb | hb
      · simp only [List.map_cons, List.map_nil, List.mem_singleton] at hb
        subst hb
        simp only [List.map_map, List.mem_map] at ha
        obtain ⟨y, hy, rfl⟩ := ha
        rw [hz]
        exact hlt' y hy
      · exact h1.2.2 a ha b hb
  · rcases List.mem_append.1 hy with hy | hy
    · rcases List.mem_append.1 hy with hy | hy
      · have hm := List.mem_of_mem_take hy
        rw [updF_ne _ _ (hne y hm)]
        exact h.2.1 y hm
      · rw [List.mem_singleton.1 hy, hz, updF_eq]
        exact ⟨hok, rfl⟩
    · have hm := List.mem_of_mem_drop hy
      rw [updF_ne _ _ (hne y hm)]
      exact h.2.1 y hm
  · by_cases e : j = K
    · exact ⟨z, by simp, hz.trans e.symm⟩
    · rw [updF_ne _ _ e] at hj
      obtain ⟨y, hy, hyk⟩ := h.2.2 j hj
      refine ⟨y, ?_, hyk⟩
      rw [← List.take_append_drop k D] at hy
      rcases List.mem_append.1 hy with hy | hy
      · simp [hy]
      · simp [hy]
/-- What the reference does with one settled entry. -/
def refK (lim win now : Int) (cl : Option (Int × Bool)) (M : List M3) (F : List Kk) (K : Kk) (self : Int) (r : S27) : Option (Int × Bool) × List M3 × List Kk × Bool :=
  if clF cl = true then (cl, M, F, false)
  else if contB cl r = true ∧ K ∈ F then (cl, M, F, true)
  else if contB cl r = true ∧ (cntM win now K (M ++ [⟨K.bd, K.mac, now⟩]) : Int) > lim then (cl, M ++ [⟨K.bd, K.mac, now⟩], F ++ [K], true)
  else (decC (nextM (seqO cl) cl.isSome self r), if contB cl r = true then M ++ [⟨K.bd, K.mac, now⟩] else M, F, !(nextM (seqO cl) cl.isSome self r).2)
theorem rk_c {t s q : Nat × AObj} {C M F H : Hp} : (t :: s :: q :: (C ++ (M ++ (F ++ H)))).Perm (q :: (C ++ (M ++ (F ++ (t :: s :: H))))) :=
  pmF (fun i => match i with | 0 => [t, s] | 1 => [q] | 2 => C | 3 => M | _ => F) (a := [0, 1, 2, 3, 4]) (b := [1, 2, 3, 4, 0]) (by decide)
end Go.Proofs.Ytoimfchhmocgeaa.Abs

/- The reference's settle: the walk. -/
namespace Go.Proofs.Ytoimfchhmocgeaa.Abs
open Go
set_option linter.unusedVariables false
def ixO (o : Option (Nat × C57)) : Int := match o with
  | some (i, _) => (i : Int)
  | none => -1
theorem ixO_ge (o : Option (Nat × C57)) : decide (ixO o ≥ 0) = o.isSome := by
  rcases o with _ | ⟨i, c⟩
  · rfl
  · exact decide_eq_true (Int.natCast_nonneg i)
section
variable {B0 : Nat} {old : Nat → Option (List Value)} {n : Nat} {H HR GC GM GF : Hp} {Q : Value → Hp → Prop} {q : Nat} {lim win now : Int} {vC vM vF : Value} {Cl : List C57} {Ml : List M3} {Fl : List Kk} {cl : Kk → Option (Int × Bool)}
set_option maxRecDepth 10000
set_option maxHeartbeats 8000000
theorem srt_ix {ks : List Kk} {a b : Nat} {x y : Kk} (h : SrtR ks) (hx : ks[a]? = some x) (hy : ks[b]? = some y) (hab : a < b) : rkK x < rkK y := by
  obtain ⟨h1, rfl⟩ := List.getElem?_eq_some_iff.1 hx
  obtain ⟨h2, rfl⟩ := List.getElem?_eq_some_iff.1 hy
  have := List.pairwise_iff_getElem.1 h a b (by rw [List.length_map]; exact h1) (by rw [List.length_map]; exact h2) hab
  rwa [List.getElem_map, List.getElem_map] at this
theorem rclaimO_ct {ad : Option Addr} {c : Nat} (hC : Arr (cx B0 old) HR ad 4 en57 Cl) (hl : Cl.length ≤ 100000) (K : Kk) (hQ : ∀ o : Option (Nat × C57), (∀ i x, o = some (i, x) → Cl[i]? = some x ∧ kC x = K) → (o = none → ∀ x ∈ Cl, kC x ≠ K) →
      Q (.int .i64 (ixO o)) ((q, AObj.row [.int .i64 lim, .int .i64 win, .int .i64 now, .slice ad Cl.length c, vM, vF] 6 false) :: HR)) :
    CallT (cx B0 old) (acall (cx B0 old) ansP (n + 1)) 56 [.pointer (some ⟨q, 0, none⟩), .int .i64 K.bd, .int .u64 K.mac] ((q, AObj.row [.int .i64 lim, .int .i64 win, .int .i64 now, .slice ad Cl.length c, vM, vF] 6 false) :: HR) Q :=
  rclaim56_ct hC hl K (fun i x h1 h2 => hQ (some (i, x)) (fun _ _ e => by cases e; exact ⟨h1, h2⟩) (fun e => by cases e)) (fun h => hQ none (fun _ _ e => by cases e) fun _ => h)
theorem settle61_ct (hC : Own en57 4 Cl vC GC) (hM : Own enM 3 Ml vM GM) (hF : Own enK 2 Fl vF GF) (hR : RelC Cl cl) (hlc : Cl.length ≤ 2000) (hl : Ml.length ≤ 2500) (hlf : Fl.length ≤ 2500) (hn : 0 ≤ now ∧ now ≤ 1099511627776) (hwn : 0 ≤ win ∧ win ≤ 100000) (self : Int) (x : N59) (r : S27) (hok : okK (kN x))
    (hQ : ∀ C' vC' GC' vM' GM' vF' GF', Own en57 4 C' vC' GC' → Own enM 3 (refK lim win now (cl (kN x)) Ml Fl (kN x) self r).2.1 vM' GM' → Own enK 2 (refK lim win now (cl (kN x)) Ml Fl (kN x) self r).2.2.1 vF' GF' → RelC C' (updF cl (kN x) (refK lim win now (cl (kN x)) Ml Fl (kN x) self r).1) →
      Q (.bool (!(refK lim win now (cl (kN x)) Ml Fl (kN x) self r).2.2.2)) ((q, AObj.row [.int .i64 lim, .int .i64 win, .int .i64 now, vC', vM', vF'] 6 false) :: (GC' ++ (GM' ++ (GF' ++ H))))) :
    CallT (cx B0 old) (acall (cx B0 old) ansP (n + 3)) 61 [.pointer (some ⟨q, 0, none⟩), .int .u32 self, .agg ⟨en59 x⟩, .agg ⟨en27 r⟩] ((q, AObj.row [.int .i64 lim, .int .i64 win, .int .i64 now, vC, vM, vF] 6 false) :: (GC ++ (GM ++ (GF ++ H)))) Q := by
  refine call_in4 157 rfl Try.func61 rfl rfl ?_
  obtain ⟨adC, cC, eC, gC⟩ := hC.arrW (C := cx B0 old) en57_len
  subst eC
  obtain ⟨adM, cM, eM, gM⟩ := hM.arrW (C := cx B0 old) enM_len
  subst eM
  obtain ⟨adF, cF, eF, gF⟩ := hF.arrW (C := cx B0 old) enK_len
  subst eF
  unfold en59
  unfold en27
  repeat (first | refine Z0 ?_ | (refine ZR ?_; first | refine x1 ?_ | refine x2 ?_ | refine x8 ?_ | refine Z1 ?_ | refine Z2 ?_ | refine x3 fun _ => ?_ | refine x4 fun _ => ?_ | refine x5 fun _ => ?_ | refine Z3 fun _ => ?_ | refine Z4 fun _ => ?_) | refine ZC ?_)
  rename_i b6 b7
  refine RunT.perm ?_ (rk_c (C := GC) (M := GM) (F := GF)).symm
  have hA : Arr (cx B0 old) (GC ++ (GM ++ (GF ++ (b7, AObj.row [.int .i64 r.a0, .int .u64 r.a1, .int .u32 r.a2, .int .u32 r.a3, .bool r.a4] 5 false) :: (b6, AObj.row [.int .i64 x.a0, .int .i64 x.a1, .int .u64 x.a2, .int .u32 x.a3, .bool x.a4, .int .i64 x.a5] 6 false) :: H))) adC 4 en57 Cl := (gC [] _).arr en57_len
  refine rt_step rfl rfl rfl (st_call rfl rfl rfl rfl (rclaimO_ct hA (by omega) (kN x) fun o hyes hno => ?_))
  repeat (first | refine Z0 ?_ | (refine ZR ?_; first | refine x1 ?_ | refine x2 ?_ | refine x8 ?_ | refine Z1 ?_ | refine Z2 ?_ | refine x3 fun _ => ?_ | refine x4 fun _ => ?_ | refine x5 fun _ => ?_ | refine Z3 fun _ => ?_ | refine Z4 fun _ => ?_) | refine ZC ?_)
  rw [ixO_ge]
  refine ct_midE (ι := Int) (fun w => (∀ i c, o = some (i, c) → c.fz = false ∧ w = c.seq) ∧ (o = none → w = 0)) (fun w => [(11, .int .u32 w), (10, .bool o.isSome), (9, .int .i64 (ixO o)), (7, .pointer (some ⟨b7, 0, none⟩)), (6, .pointer (some ⟨b6, 0, none⟩)), (0, .pointer (some ⟨q, 0, none⟩)), (1, .int .u32 self)])
    (fun _ => (q, AObj.row [.int .i64 lim, .int .i64 win, .int .i64 now, .slice adC Cl.length cC, .slice adM Ml.length cM, .slice adF Fl.length cF] 6 false) :: (GC ++ (GM ++ (GF ++ (b7, AObj.row [.int .i64 r.a0, .int .u64 r.a1, .int .u32 r.a2, .int .u32 r.a3, .bool r.a4] 5 false) :: (b6, AObj.row [.int .i64 x.a0, .int .i64 x.a1, .int .u64 x.a2, .int .u32 x.a3, .bool x.a4, .int .i64 x.a5] 6 false) :: H)))) ?_ ?_
  · rcases o with _ | ⟨i, c⟩
    · rw [show (none : Option (Nat × C57)).isSome = false from rfl]
      repeat (first | refine Z0 ?_ | (refine ZR ?_; first | refine x1 ?_ | refine x2 ?_ | refine x8 ?_ | refine Z1 ?_ | refine Z2 ?_ | refine x3 fun _ => ?_ | refine x4 fun _ => ?_ | refine x5 fun _ => ?_ | refine Z3 fun _ => ?_ | refine Z4 fun _ => ?_) | refine ZC ?_)
      exact ⟨_, ⟨fun i c e => (by cases e), fun _ => rfl⟩, by repeat (first | exact SubL.nil | refine SubL.cons rfl ?_), List.Sublist.refl _⟩
    · obtain ⟨hx, hk⟩ := hyes i c rfl
      obtain ⟨b1, o1, e1, hL0⟩ := hA.ldF 4 3 hx rfl rfl rfl (sz rfl)
      obtain ⟨b2, o2, e2, hL1⟩ := hA.ldF 22 2 hx rfl rfl rfl (sz rfl)
      subst e1
      cases e2
      have hcl : cl (kN x) = some (c.seq, c.fz) := by rw [← hk]; exact (hR.2.1 c (List.mem_iff_getElem?.2 ⟨i, hx⟩)).2
      rw [show (some (i, c)).isSome = true from rfl, show ixO (some (i, c)) = (i : Int) from rfl]
      have hil : i < Cl.length := (List.getElem?_eq_some_iff.1 hx).1
      repeat (first | refine Z0 ?_ | (refine ZR ?_; first | refine x1 ?_ | refine x2 ?_ | refine x8 ?_ | refine Z1 ?_ | refine Z2 ?_ | refine x3 fun _ => ?_ | refine x4 fun _ => ?_ | refine x5 fun _ => ?_ | refine Z3 fun _ => ?_ | refine Z4 fun _ => ?_) | refine ZC ?_)
      cases hz : c.fz
      · repeat (first | refine Z0 ?_ | (refine ZR ?_; first | refine x1 ?_ | refine x2 ?_ | refine x8 ?_ | refine Z1 ?_ | refine Z2 ?_ | refine x3 fun _ => ?_ | refine x4 fun _ => ?_ | refine x5 fun _ => ?_ | refine Z3 fun _ => ?_ | refine Z4 fun _ => ?_) | refine ZC ?_)
        exact ⟨_, ⟨fun i c e => (by cases e; exact ⟨hz, rfl⟩), fun e => (by cases e)⟩, by repeat (first | exact SubL.nil | refine SubL.cons rfl ?_), by exact drop_auto⟩
      · repeat (first | refine Z0 ?_ | (refine ZR ?_; first | refine x1 ?_ | refine x2 ?_ | refine x8 ?_ | refine Z1 ?_ | refine Z2 ?_ | refine x3 fun _ => ?_ | refine x4 fun _ => ?_ | refine x5 fun _ => ?_ | refine Z3 fun _ => ?_ | refine Z4 fun _ => ?_) | refine ZC ?_)
        have e : refK lim win now (cl (kN x)) Ml Fl (kN x) self r = (cl (kN x), Ml, Fl, false) := by
          unfold refK
          rw [if_pos (by rw [hcl, hz]; rfl)]
        rw [e, updF_self] at hQ
        exact re_1 rfl rfl (by exact drop_auto) (hQ _ _ _ _ _ _ _ hC hM hF hR)
  rintro w ⟨hw1, hw2⟩
  have hcl : (cl (kN x)).isSome = o.isSome ∧ clF (cl (kN x)) = false ∧ w = seqO (cl (kN x)) := by
    rcases o with _ | ⟨i, c⟩
    · rw [rel_no hR (hno rfl), hw2 rfl]
      exact ⟨rfl, rfl, rfl⟩
    · obtain ⟨hx, hk⟩ := hyes i c rfl
      obtain ⟨h1, h2⟩ := hw1 i c rfl
      rw [show cl (kN x) = some (c.seq, c.fz) by rw [← hk]; exact (hR.2.1 c (List.mem_iff_getElem?.2 ⟨i, hx⟩)).2, h1, h2]
      exact ⟨rfl, rfl, rfl⟩
  obtain ⟨hsm, hcf, rfl⟩ := hcl
  clear hw1 hw2 hA
  have hFz : Arr (cx B0 old) (GC ++ (GM ++ (GF ++ (b7, AObj.row [.int .i64 r.a0, .int .u64 r.a1, .int .u32 r.a2, .int .u32 r.a3, .bool r.a4] 5 false) :: (b6, AObj.row [.int .i64 x.a0, .int .i64 x.a1, .int .u64 x.a2, .int .u32 x.a3, .bool x.a4, .int .i64 x.a5] 6 false) :: H))) adF 2 enK Fl := by
    have := (gF (GC ++ GM) ((b7, AObj.row [.int .i64 r.a0, .int .u64 r.a1, .int .u32 r.a2, .int .u32 r.a3, .bool r.a4] 5 false) :: (b6, AObj.row [.int .i64 x.a0, .int .i64 x.a1, .int .u64 x.a2, .int .u32 x.a3, .bool x.a4, .int .i64 x.a5] 6 false) :: H)).arr enK_len
    rw [List.append_assoc] at this
    exact this
  refine ct_seq ?_
  refine ct_midE (ι := List M3 × Value × Hp) (fun i => i.1 = (if contB (cl (kN x)) r = true then Ml ++ [⟨(kN x).bd, (kN x).mac, now⟩] else Ml) ∧ Own enM 3 i.1 i.2.1 i.2.2 ∧ ¬ (contB (cl (kN x)) r = true ∧ kN x ∈ Fl) ∧ ¬ (contB (cl (kN x)) r = true ∧ (cntM win now (kN x) (Ml ++ [⟨(kN x).bd, (kN x).mac, now⟩]) : Int) > lim))
    (fun _ => [(11, .int .u32 (seqO (cl (kN x)))), (10, .bool o.isSome), (9, .int .i64 (ixO o)), (7, .pointer (some ⟨b7, 0, none⟩)), (6, .pointer (some ⟨b6, 0, none⟩)), (0, .pointer (some ⟨q, 0, none⟩)), (1, .int .u32 self)])
    (fun i => (q, AObj.row [.int .i64 lim, .int .i64 win, .int .i64 now, .slice adC Cl.length cC, i.2.1, .slice adF Fl.length cF] 6 false) :: (GC ++ (i.2.2 ++ (GF ++ (b7, AObj.row [.int .i64 r.a0, .int .u64 r.a1, .int .u32 r.a2, .int .u32 r.a3, .bool r.a4] 5 false) :: (b6, AObj.row [.int .i64 x.a0, .int .i64 x.a1, .int .u64 x.a2, .int .u32 x.a3, .bool x.a4, .int .i64 x.a5] 6 false) :: H)))) ?_ ?_
  · have hstay : contB (cl (kN x)) r = false → ∃ i : List M3 × Value × Hp, (i.1 = (if contB (cl (kN x)) r = true then Ml ++ [⟨(kN x).bd, (kN x).mac, now⟩] else Ml) ∧ Own enM 3 i.1 i.2.1 i.2.2 ∧ ¬ (contB (cl (kN x)) r = true ∧ kN x ∈ Fl) ∧ ¬ (contB (cl (kN x)) r = true ∧ (cntM win now (kN x) (Ml ++ [⟨(kN x).bd, (kN x).mac, now⟩]) : Int) > lim)) ∧ i = (Ml, .slice adM Ml.length cM, GM) := fun h => by
      rw [h]
      exact ⟨_, ⟨rfl, hM, fun g => (by cases g.1), fun g => (by cases g.1)⟩, rfl⟩
    rw [← hsm]
    have hcn : contB (cl (kN x)) r = ((cl (kN x)).isNone && (r.a3 != 0) && !r.a4) := rfl
    cases hk : cl (kN x) with
    | some a =>
      rw [hk] at hstay hcn
      rw [show (some a).isSome = true from rfl]
      obtain ⟨i, hi, rfl⟩ := hstay (by rw [hcn]; rfl)
      repeat (first | refine Z0 ?_ | (refine ZR ?_; first | refine x1 ?_ | refine x2 ?_ | refine x8 ?_ | refine Z1 ?_ | refine Z2 ?_ | refine x3 fun _ => ?_ | refine x4 fun _ => ?_ | refine x5 fun _ => ?_ | refine Z3 fun _ => ?_ | refine Z4 fun _ => ?_) | refine ZC ?_)
      exact ⟨_, hi, by repeat (first | exact SubL.nil | refine SubL.cons rfl ?_), List.Sublist.refl _⟩
    | none =>
      rw [hk] at hstay hcn
      rw [show (none : Option (Int × Bool)).isSome = false from rfl]
      repeat (first | refine Z0 ?_ | (refine ZR ?_; first | refine x1 ?_ | refine x2 ?_ | refine x8 ?_ | refine Z1 ?_ | refine Z2 ?_ | refine x3 fun _ => ?_ | refine x4 fun _ => ?_ | refine x5 fun _ => ?_ | refine Z3 fun _ => ?_ | refine Z4 fun _ => ?_) | refine ZC ?_)
      cases h3 : (r.a3 != 0)
      · obtain ⟨i, hi, rfl⟩ := hstay (by rw [hcn, h3]; rfl)
        repeat (first | refine Z0 ?_ | (refine ZR ?_; first | refine x1 ?_ | refine x2 ?_ | refine x8 ?_ | refine Z1 ?_ | refine Z2 ?_ | refine x3 fun _ => ?_ | refine x4 fun _ => ?_ | refine x5 fun _ => ?_ | refine Z3 fun _ => ?_ | refine Z4 fun _ => ?_) | refine ZC ?_)
        exact ⟨_, hi, by repeat (first | exact SubL.nil | refine SubL.cons rfl ?_), List.Sublist.refl _⟩
      repeat (first | refine Z0 ?_ | (refine ZR ?_; first | refine x1 ?_ | refine x2 ?_ | refine x8 ?_ | refine Z1 ?_ | refine Z2 ?_ | refine x3 fun _ => ?_ | refine x4 fun _ => ?_ | refine x5 fun _ => ?_ | refine Z3 fun _ => ?_ | refine Z4 fun _ => ?_) | refine ZC ?_)
      cases h4 : r.a4
      rotate_left
      · obtain ⟨i, hi, rfl⟩ := hstay (by rw [hcn, h3, h4]; rfl)
        repeat (first | refine Z0 ?_ | (refine ZR ?_; first | refine x1 ?_ | refine x2 ?_ | refine x8 ?_ | refine Z1 ?_ | refine Z2 ?_ | refine x3 fun _ => ?_ | refine x4 fun _ => ?_ | refine x5 fun _ => ?_ | refine Z3 fun _ => ?_ | refine Z4 fun _ => ?_) | refine ZC ?_)
        exact ⟨_, hi, by repeat (first | exact SubL.nil | refine SubL.cons rfl ?_), List.Sublist.refl _⟩
      have hct : contB none r = true := by rw [hcn, h3, h4]; rfl
      clear hstay hcn
      repeat (first | refine Z0 ?_ | (refine ZR ?_; first | refine x1 ?_ | refine x2 ?_ | refine x8 ?_ | refine Z1 ?_ | refine Z2 ?_ | refine x3 fun _ => ?_ | refine x4 fun _ => ?_ | refine x5 fun _ => ?_ | refine Z3 fun _ => ?_ | refine Z4 fun _ => ?_) | refine ZC ?_)
      rw [h4] at hFz
      have hr1 : ¬ clF (cl (kN x)) = true := by rw [hcf]; simp
      have hct2 : contB (cl (kN x)) r = true := by rw [hk]; exact hct
      refine rt_step rfl rfl rfl (st_call rfl rfl rfl rfl (rfrozen58_ct hFz (by omega) (kN x) ?_))
      by_cases hmem : kN x ∈ Fl
      · rw [decide_eq_true hmem]
        repeat (first | refine Z0 ?_ | (refine ZR ?_; first | refine x1 ?_ | refine x2 ?_ | refine x8 ?_ | refine Z1 ?_ | refine Z2 ?_ | refine x3 fun _ => ?_ | refine x4 fun _ => ?_ | refine x5 fun _ => ?_ | refine Z3 fun _ => ?_ | refine Z4 fun _ => ?_) | refine ZC ?_)
        have e : refK lim win now (cl (kN x)) Ml Fl (kN x) self r = (cl (kN x), Ml, Fl, true) := by
          unfold refK
          rw [if_neg hr1, if_pos ⟨hct2, hmem⟩]
        rw [e, updF_self] at hQ
        exact re_1 rfl rfl (by exact drop_auto) (hQ _ _ _ _ _ _ _ hC hM hF hR)
      rw [decide_eq_false hmem]
      repeat (first | refine Z0 ?_ | (refine ZR ?_; first | refine x1 ?_ | refine x2 ?_ | refine x8 ?_ | refine Z1 ?_ | refine Z2 ?_ | refine x3 fun _ => ?_ | refine x4 fun _ => ?_ | refine x5 fun _ => ?_ | refine Z3 fun _ => ?_ | refine Z4 fun _ => ?_) | refine ZC ?_)
      refine rt_step rfl rfl rfl (st_call rfl rfl rfl rfl (rmoves57_ct (K := kN x) (H := _ :: _ :: H) hM hF hl hlf hn hwn (fun hgt vM' GM' vF' GF' oM oF => ?_) (fun hgt vM' GM' oM => ?_)))
      · repeat (first | refine Z0 ?_ | (refine ZR ?_; first | refine x1 ?_ | refine x2 ?_ | refine x8 ?_ | refine Z1 ?_ | refine Z2 ?_ | refine x3 fun _ => ?_ | refine x4 fun _ => ?_ | refine x5 fun _ => ?_ | refine Z3 fun _ => ?_ | refine Z4 fun _ => ?_) | refine ZC ?_)
        have e : refK lim win now (cl (kN x)) Ml Fl (kN x) self r = (cl (kN x), Ml ++ [⟨(kN x).bd, (kN x).mac, now⟩], Fl ++ [kN x], true) := by
          unfold refK
          rw [if_neg hr1, if_neg (fun g => hmem g.2), if_pos ⟨hct2, hgt⟩]
        rw [e, updF_self] at hQ
        exact re_1 rfl rfl (by exact drop_auto) (hQ _ _ _ _ _ _ _ hC oM oF hR)
      · repeat (first | refine Z0 ?_ | (refine ZR ?_; first | refine x1 ?_ | refine x2 ?_ | refine x8 ?_ | refine Z1 ?_ | refine Z2 ?_ | refine x3 fun _ => ?_ | refine x4 fun _ => ?_ | refine x5 fun _ => ?_ | refine Z3 fun _ => ?_ | refine Z4 fun _ => ?_) | refine ZC ?_)
        exact ⟨(_, vM', GM'), ⟨(if_pos hct).symm, oM, fun g => hmem g.2, fun g => hgt g.2⟩, by repeat (first | exact SubL.nil | refine SubL.cons rfl ?_), List.Sublist.refl _⟩
  rintro ⟨M', vM', GM'⟩ ⟨eM, oM, hn1, hn2⟩
  dsimp only at eM oM hn1 hn2 ⊢
  have e : refK lim win now (cl (kN x)) Ml Fl (kN x) self r = (decC (nextM (seqO (cl (kN x))) o.isSome self r), M', Fl, !(nextM (seqO (cl (kN x))) o.isSome self r).2) := by
    unfold refK
    rw [if_neg (by rw [hcf]; simp), if_neg hn1, if_neg hn2, ← eM, hsm]
  rw [e] at hQ
  clear e hn1 hn2 eM hM gM hFz
  repeat (first | refine Z0 ?_ | (refine ZR ?_; first | refine x1 ?_ | refine x2 ?_ | refine x8 ?_ | refine Z1 ?_ | refine Z2 ?_ | refine x3 fun _ => ?_ | refine x4 fun _ => ?_ | refine x5 fun _ => ?_ | refine Z3 fun _ => ?_ | refine Z4 fun _ => ?_) | refine ZC ?_)
  refine rt_step rfl rfl rfl (st_call rfl rfl rfl rfl (next2_ct o.isSome (seqO (cl (kN x))) self r (seqO (cl (kN x))) ?_ fun v b hvb => ?_))
  · cases h : o.isSome
    · rw [h] at hsm
      rw [Option.isSome_eq_false_iff, Option.isNone_iff_eq_none] at hsm
      rw [hsm]
      rfl
    · rfl
  rw [← hvb] at hQ
  clear hvb
  repeat (first | refine Z0 ?_ | (refine ZR ?_; first | refine x1 ?_ | refine x2 ?_ | refine x8 ?_ | refine Z1 ?_ | refine Z2 ?_ | refine x3 fun _ => ?_ | refine x4 fun _ => ?_ | refine x5 fun _ => ?_ | refine Z3 fun _ => ?_ | refine Z4 fun _ => ?_) | refine ZC ?_)
  refine ct_midE (ι := List C57 × Value × Hp) (fun i => RelC i.1 (updF cl (kN x) none) ∧ Own en57 4 i.1 i.2.1 i.2.2 ∧ i.1.length ≤ 2000)
    (fun _ => [(13, .bool b), (12, .int .u32 v), (7, .pointer (some ⟨b7, 0, none⟩)), (6, .pointer (some ⟨b6, 0, none⟩)), (0, .pointer (some ⟨q, 0, none⟩)), (1, .int .u32 self)]) (fun i => (q, AObj.row [.int .i64 lim, .int .i64 win, .int .i64 now, i.2.1, vM', .slice adF Fl.length cF] 6 false) :: (i.2.2 ++ (GM' ++ (GF ++ (b7, AObj.row [.int .i64 r.a0, .int .u64 r.a1, .int .u32 r.a2, .int .u32 r.a3, .bool r.a4] 5 false) :: (b6, AObj.row [.int .i64 x.a0, .int .i64 x.a1, .int .u64 x.a2, .int .u32 x.a3, .bool x.a4, .int .i64 x.a5] 6 false) :: H)))) ?_ ?_
  · rcases o with _ | ⟨i, c⟩
    · rw [show (none : Option (Nat × C57)).isSome = false from rfl]
      repeat (first | refine Z0 ?_ | (refine ZR ?_; first | refine x1 ?_ | refine x2 ?_ | refine x8 ?_ | refine Z1 ?_ | refine Z2 ?_ | refine x3 fun _ => ?_ | refine x4 fun _ => ?_ | refine x5 fun _ => ?_ | refine Z3 fun _ => ?_ | refine Z4 fun _ => ?_) | refine ZC ?_)
      refine ⟨(Cl, _, GC), ⟨?_, hC, hlc⟩, by repeat (first | exact SubL.nil | refine SubL.cons rfl ?_), List.Sublist.refl _⟩
      have h0 := rel_no hR (hno rfl)
      have h1 := updF_self cl (kN x)
      rw [h0] at h1
      rw [h1]
      exact hR
    · obtain ⟨hx, hk⟩ := hyes i c rfl
      have hil : i < Cl.length := (List.getElem?_eq_some_iff.1 hx).1
      rw [show (some (i, c)).isSome = true from rfl, show ixO (some (i, c)) = (i : Int) from rfl]
      have hcut := hC.cuts (C := cx B0 old) (pre := [(q, AObj.row [.int .i64 lim, .int .i64 win, .int .i64 now, .slice adC Cl.length cC, vM', .slice adF Fl.length cF] 6 false)]) (H0 := GM' ++ (GF ++ (b7, AObj.row [.int .i64 r.a0, .int .u64 r.a1, .int .u32 r.a2, .int .u32 r.a3, .bool r.a4] 5 false) :: (b6, AObj.row [.int .i64 x.a0, .int .i64 x.a1, .int .u64 x.a2, .int .u32 x.a3, .bool x.a4, .int .i64 x.a5] 6 false) :: H)) en57_len
      obtain ⟨ad3, c3, hs3, hw3⟩ := hcut.part 53 57 none (some (.int .i64 (i : Int))) 0 i rfl (sz rfl) (Nat.zero_le _) (by omega) (.inr ⟨rfl, rfl⟩) (.inl (by simp [natOf]))
      obtain ⟨ad4, c4, hs4, hw4⟩ := hcut.part 53 57 (some (.int .i64 ((i : Int) + 1))) none (i + 1) Cl.length rfl (sz rfl) (by omega) (Nat.le_refl _) (.inl rfl) (.inr ⟨rfl, rfl⟩)
      rw [List.drop_zero, Nat.sub_zero] at hw3
      rw [Nat.sub_zero] at hs3
      have hl3 : (Cl.take i).length = i := by rw [List.length_take]; omega
      have hl4 : ((Cl.drop (i + 1)).take (Cl.length - (i + 1))).length = Cl.length - (i + 1) := by rw [List.length_take, List.length_drop]; omega
      repeat (first | refine Z0 ?_ | (refine ZR ?_; first | refine x1 ?_ | refine x2 ?_ | refine x8 ?_ | refine Z1 ?_ | refine Z2 ?_ | refine x3 fun _ => ?_ | refine x4 fun _ => ?_ | refine x5 fun _ => ?_ | refine Z3 fun _ => ?_ | refine Z4 fun _ => ?_) | refine ZC ?_)
      refine ct_draw (masks := [0, 0, 0, 4, 12, 28, 0, 124, 254, 0, 512, 1536, 3584, 0, 8192, 32256, 65534, 131071, 262143, 524287]) (plan := [0, 2, 3, 4, 5, 6, 7, 9, 10, 11, 12, 13, 14, 15, 1, 8, 16, 17, 18, 19]) (E := []) (by kernel_rfl) (by kernel_rfl) (by kernel_rfl) (by kernel_rfl) ?_
      repeat (first | refine Y0 ?_ | (refine YP ?_; first | refine y1 ?_ | refine y2 ?_ | refine Y1 ?_ | refine Y2 ?_))
      refine pl_p rfl rfl rfl rfl rfl rfl (p_slc rfl rfl rfl hs3) ?_
      repeat (first | refine Y0 ?_ | (refine YP ?_; first | refine y1 ?_ | refine y2 ?_ | refine Y1 ?_ | refine Y2 ?_))
      refine pl_p rfl rfl rfl rfl rfl rfl (p_slc rfl rfl rfl hs4) ?_
      repeat (first | refine Y0 ?_ | (refine YP ?_; first | refine y1 ?_ | refine y2 ?_ | refine Y1 ?_ | refine Y2 ?_))
      refine pl_S rfl rfl rfl rfl rfl rfl (st_buildSlice rfl (zr rfl) rfl rfl rfl rfl rfl rfl fun b0 => ⟨by exact rec_auto, ?_⟩)
      repeat (first | refine Y0 ?_ | (refine YP ?_; first | refine y1 ?_ | refine y2 ?_ | refine Y1 ?_ | refine Y2 ?_))
      refine pl_S rfl rfl rfl rfl rfl rfl (st_appO (M := Cl.take i) (c := c3) (pre := []) (Hs := [_]) (Own.emp _ _) en57_len en57_one rfl (by rw [hl3]; rfl) (ap rfl) (hw3.weak (List.sublist_cons_self _ _)) (Nat.le_trans (Nat.mul_le_mul_right _ (show 2 * (([] : List C57).length + (Cl.take i).length) + 192 ≤ 6000 by rw [hl3, List.length_nil]; omega)) (by decide)) fun v3 H3 ho3 => ⟨by exact rec_auto, ?_⟩)
      repeat (first | refine Y0 ?_ | (refine YP ?_; first | refine y1 ?_ | refine y2 ?_ | refine Y1 ?_ | refine Y2 ?_))
      refine pl_S rfl rfl rfl rfl rfl rfl (st_appO (M := (Cl.drop (i + 1)).take (Cl.length - (i + 1))) (c := c4) (pre := []) (Hs := H3) ho3 en57_len en57_one rfl (by rw [hl4]; rfl) (ap rfl) (hw4.weak (by exact drop_auto)) (Nat.le_trans (Nat.mul_le_mul_right _ (show 2 * (([] ++ Cl.take i).length + ((Cl.drop (i + 1)).take (Cl.length - (i + 1))).length) + 192 ≤ 6000 by rw [hl4, List.nil_append, hl3]; omega)) (by decide)) fun v4 H4 ho4 => ⟨by exact rec_auto, ?_⟩)
      have ho5 := ho4
      obtain ⟨ad5, c5, rfl, _⟩ := ho4.arrW (C := cx B0 old) en57_len
      refine PlanT.perm ?_ (List.perm_append_comm_assoc [_] H4 _)
      repeat (first | refine Y0 ?_ | (refine YP ?_; first | refine y1 ?_ | refine y2 ?_ | refine Y1 ?_ | refine Y2 ?_))
      refine y3 ?_
      repeat (first | refine Y0 ?_ | (refine YP ?_; first | refine y1 ?_ | refine y2 ?_ | refine Y1 ?_ | refine Y2 ?_))
      repeat (first | refine Z0 ?_ | (refine ZR ?_; first | refine x1 ?_ | refine x2 ?_ | refine x8 ?_ | refine Z1 ?_ | refine Z2 ?_ | refine x3 fun _ => ?_ | refine x4 fun _ => ?_ | refine x5 fun _ => ?_ | refine Z3 fun _ => ?_ | refine Z4 fun _ => ?_) | refine ZC ?_)
      have hD : [] ++ Cl.take i ++ (Cl.drop (i + 1)).take (Cl.length - (i + 1)) = Cl.take i ++ Cl.drop (i + 1) := by
        rw [List.nil_append, List.take_of_length_le (l := Cl.drop (i + 1)) (by rw [List.length_drop]; omega)]
      refine ⟨(_, _, H4), ⟨?_, ho5, ?_⟩, by repeat (first | exact SubL.nil | refine SubL.cons rfl ?_), by exact drop_auto⟩
      · dsimp only
        rw [hD]
        exact rel_del hR hx hk
      · dsimp only
        rw [hD, List.length_append, List.length_take, List.length_drop]
        omega
  have hR0 := hR
  clear hR hC gC hyes hno hsm hcf hlc
  rintro ⟨D, vD, GD⟩ ⟨hR, hC, hlc⟩
  dsimp only at hR hC hlc ⊢
  have hKn : updF cl (kN x) none (kN x) = none := updF_eq _ _ _
  cases b
  · repeat (first | refine Z0 ?_ | (refine ZR ?_; first | refine x1 ?_ | refine x2 ?_ | refine x8 ?_ | refine Z1 ?_ | refine Z2 ?_ | refine x3 fun _ => ?_ | refine x4 fun _ => ?_ | refine x5 fun _ => ?_ | refine Z3 fun _ => ?_ | refine Z4 fun _ => ?_) | refine ZC ?_)
    exact re_1 rfl rfl (by exact drop_auto) (hQ _ _ _ _ _ _ _ hC oM hF hR)
  repeat (first | refine Z0 ?_ | (refine ZR ?_; first | refine x1 ?_ | refine x2 ?_ | refine x8 ?_ | refine Z1 ?_ | refine Z2 ?_ | refine x3 fun _ => ?_ | refine x4 fun _ => ?_ | refine x5 fun _ => ?_ | refine Z3 fun _ => ?_ | refine Z4 fun _ => ?_) | refine ZC ?_)
  obtain ⟨adD, cD, eD, gD⟩ := hC.arrW (C := cx B0 old) en57_len
  subst eD
  have hA : Arr (cx B0 old) (GD ++ (GM' ++ (GF ++ (b7, AObj.row [.int .i64 r.a0, .int .u64 r.a1, .int .u32 r.a2, .int .u32 r.a3, .bool r.a4] 5 false) :: (b6, AObj.row [.int .i64 x.a0, .int .i64 x.a1, .int .u64 x.a2, .int .u32 x.a3, .bool x.a4, .int .i64 x.a5] 6 false) :: H))) adD 4 en57 D := (gD [] _).arr en57_len
  clear gD
  refine loop_ind (ι := Nat × Nat) (0, 0) (fun i => D.length - i.1) (fun i => i.1 ≤ D.length ∧ i.2 ≤ i.1 ∧ (∀ a y, a < i.2 → D[a]? = some y → rkK (kC y) < rkK (kN x)) ∧ ∀ a y, i.2 ≤ a → a < i.1 → D[a]? = some y → ¬ rkK (kC y) < rkK (kN x))
    (fun i => [(15, .int .i64 (i.1 : Int)), (14, .int .i64 (i.2 : Int)), (12, .int .u32 v), (7, .pointer (some ⟨b7, 0, none⟩)), (6, .pointer (some ⟨b6, 0, none⟩)), (0, .pointer (some ⟨q, 0, none⟩)), (1, .int .u32 self)])
    (fun _ => (q, AObj.row [.int .i64 lim, .int .i64 win, .int .i64 now, .slice adD D.length cD, vM', .slice adF Fl.length cF] 6 false) :: (GD ++ (GM' ++ (GF ++ (b7, AObj.row [.int .i64 r.a0, .int .u64 r.a1, .int .u32 r.a2, .int .u32 r.a3, .bool r.a4] 5 false) :: (b6, AObj.row [.int .i64 x.a0, .int .i64 x.a1, .int .u64 x.a2, .int .u32 x.a3, .bool x.a4, .int .i64 x.a5] 6 false) :: H)))) ⟨Nat.zero_le _, Nat.le_refl _, fun a y h => absurd h (Nat.not_lt_zero _), fun a y _ h => absurd h (Nat.not_lt_zero _)⟩ (by repeat (first | exact SubL.nil | refine SubL.cons rfl ?_)) (List.Sublist.refl _) ?_
  rintro ⟨i, k⟩ ⟨hi, hki, hlt, hge⟩
  dsimp only at hi hki hlt hge ⊢
  repeat (first | refine Z0 ?_ | (refine ZR ?_; first | refine x1 ?_ | refine x2 ?_ | refine x8 ?_ | refine Z1 ?_ | refine Z2 ?_ | refine x3 fun _ => ?_ | refine x4 fun _ => ?_ | refine x5 fun _ => ?_ | refine Z3 fun _ => ?_ | refine Z4 fun _ => ?_) | refine ZC ?_)
  refine ct_condT te_d rfl (fun hil => ?_) (fun hil => ?_)
  · obtain ⟨y, hy⟩ : ∃ y, D[i]? = some y := ⟨_, List.getElem?_eq_getElem (by omega)⟩
    obtain ⟨b1, o1, e1, hL0⟩ := hA.ldF 3 0 hy rfl rfl rfl (sz rfl)
    obtain ⟨b2, o2, e2, hL1⟩ := hA.ldF 25 1 hy rfl rfl rfl (sz rfl)
    subst e1
    cases e2
    repeat (first | refine Z0 ?_ | (refine ZR ?_; first | refine x1 ?_ | refine x2 ?_ | refine x8 ?_ | refine Z1 ?_ | refine Z2 ?_ | refine x3 fun _ => ?_ | refine x4 fun _ => ?_ | refine x5 fun _ => ?_ | refine Z3 fun _ => ?_ | refine Z4 fun _ => ?_) | refine ZC ?_)
    refine ct_draw (masks := [0, 1, 3, 7, 0, 31, 63, 127, 0, 256, 768, 1792, 0, 7936, 16128, 32512, 0, 65536, 0, 262144, 1048575]) (plan := [0, 1, 2, 3, 4, 5, 6, 7, 8, 9, 10, 11, 12, 13, 14, 15, 16, 17, 18, 19, 20]) (E := []) (by kernel_rfl) (by kernel_rfl) (by kernel_rfl) (by kernel_rfl) ?_
    repeat (first | refine Y0 ?_ | (refine YP ?_; first | refine y1 ?_ | refine y2 ?_ | refine Y1 ?_ | refine Y2 ?_))
    refine pl_S rfl rfl rfl rfl rfl rfl (st_call rfl rfl rfl rfl (below74_ct (kC y) (kN x) (hR.2.1 y (List.mem_iff_getElem?.2 ⟨_, hy⟩)).1 hok ⟨by exact rec_auto, ?_⟩))
    by_cases hb : rkK (kC y) < rkK (kN x)
    · rw [decide_eq_true hb]
      repeat (first | refine Y0 ?_ | (refine YP ?_; first | refine y1 ?_ | refine y2 ?_ | refine Y1 ?_ | refine Y2 ?_))
      repeat (first | refine Z0 ?_ | (refine ZR ?_; first | refine x1 ?_ | refine x2 ?_ | refine x8 ?_ | refine Z1 ?_ | refine Z2 ?_ | refine x3 fun _ => ?_ | refine x4 fun _ => ?_ | refine x5 fun _ => ?_ | refine Z3 fun _ => ?_ | refine Z4 fun _ => ?_) | refine ZC ?_)
      refine ⟨(i + 1, i + 1), ⟨by omega, Nat.le_refl _, fun a z ha hz => ?_, fun a z h1 h2 => absurd h2 (by omega)⟩, by dsimp only; omega, by repeat (first | exact SubL.nil | refine SubL.cons rfl ?_), by exact drop_auto⟩
      by_cases ei : a = i
      · subst ei
        rw [hy] at hz
        cases hz
        exact hb
      · have hz1 : (D.map kC)[a]? = some (kC z) := by rw [List.getElem?_map, hz]; rfl
        have hy1 : (D.map kC)[i]? = some (kC y) := by rw [List.getElem?_map, hy]; rfl
        have := srt_ix hR.1 hz1 hy1 (by dsimp only at ha; omega)
        omega
    · rw [decide_eq_false hb]
      repeat (first | refine Y0 ?_ | (refine YP ?_; first | refine y1 ?_ | refine y2 ?_ | refine Y1 ?_ | refine Y2 ?_))
      repeat (first | refine Z0 ?_ | (refine ZR ?_; first | refine x1 ?_ | refine x2 ?_ | refine x8 ?_ | refine Z1 ?_ | refine Z2 ?_ | refine x3 fun _ => ?_ | refine x4 fun _ => ?_ | refine x5 fun _ => ?_ | refine Z3 fun _ => ?_ | refine Z4 fun _ => ?_) | refine ZC ?_)
      refine ⟨(i + 1, k), ⟨by omega, by dsimp only; omega, hlt, fun a z h1 h2 hz => ?_⟩, by dsimp only; omega, by repeat (first | exact SubL.nil | refine SubL.cons rfl ?_), by exact drop_auto⟩
      by_cases ei : a = i
      · subst ei
        rw [hy] at hz
        cases hz
        exact hb
      · exact hge a z h1 (by dsimp only at h2; omega) hz
  obtain rfl : i = D.length := by omega
  have hge' : ∀ a y, k ≤ a → D[a]? = some y → ¬ rkK (kC y) < rkK (kN x) := fun a y h h2 => hge a y h (List.getElem?_eq_some_iff.1 h2).1 h2
  clear hge
  have hcut := hC.cuts (C := cx B0 old) (pre := [(q, AObj.row [.int .i64 lim, .int .i64 win, .int .i64 now, .slice adD D.length cD, vM', .slice adF Fl.length cF] 6 false)]) (H0 := GM' ++ (GF ++ (b7, AObj.row [.int .i64 r.a0, .int .u64 r.a1, .int .u32 r.a2, .int .u32 r.a3, .bool r.a4] 5 false) :: (b6, AObj.row [.int .i64 x.a0, .int .i64 x.a1, .int .u64 x.a2, .int .u32 x.a3, .bool x.a4, .int .i64 x.a5] 6 false) :: H)) en57_len
  obtain ⟨ad3, c3, hs3, hw3⟩ := hcut.part 53 57 none (some (.int .i64 (k : Int))) 0 k rfl (sz rfl) (Nat.zero_le _) (by omega) (.inr ⟨rfl, rfl⟩) (.inl (by simp [natOf]))
  obtain ⟨ad4, c4, hs4, hw4⟩ := hcut.part 53 57 (some (.int .i64 (k : Int))) none k D.length rfl (sz rfl) (by omega) (Nat.le_refl _) (.inl (by simp [natOf])) (.inr ⟨rfl, rfl⟩)
  rw [List.drop_zero, Nat.sub_zero] at hw3
  rw [Nat.sub_zero] at hs3
  have hl3 : (D.take k).length = k := by rw [List.length_take]; omega
  have hl4 : ((D.drop k).take (D.length - k)).length = D.length - k := by rw [List.length_take, List.length_drop]; omega
  have hz : kC ⟨x.a0, x.a2, v, false⟩ = kN x := rfl
  repeat (first | refine Z0 ?_ | (refine ZR ?_; first | refine x1 ?_ | refine x2 ?_ | refine x8 ?_ | refine Z1 ?_ | refine Z2 ?_ | refine x3 fun _ => ?_ | refine x4 fun _ => ?_ | refine x5 fun _ => ?_ | refine Z3 fun _ => ?_ | refine Z4 fun _ => ?_) | refine ZC ?_)
  refine ct_draw (masks := [0, 0, 0, 4, 12, 28, 0, 124, 254, 0, 512, 0, 2048, 0, 15872, 32256, 65534, 0, 131072, 393216, 917504, 0, 4063232, 8388606, 16777215, 33554431, 67108863]) (plan := [0, 2, 3, 4, 5, 6, 7, 9, 10, 11, 12, 13, 14, 17, 18, 19, 20, 21, 22, 1, 8, 15, 16, 23, 24, 25, 26]) (E := [15]) (by kernel_rfl) (by kernel_rfl) (by kernel_rfl) (by kernel_rfl) ?_
  repeat (first | refine Y0 ?_ | (refine YP ?_; first | refine y1 ?_ | refine y2 ?_ | refine Y1 ?_ | refine Y2 ?_))
  refine pl_p rfl rfl rfl rfl rfl rfl (p_slc rfl rfl rfl hs3) ?_
  repeat (first | refine Y0 ?_ | (refine YP ?_; first | refine y1 ?_ | refine y2 ?_ | refine Y1 ?_ | refine Y2 ?_))
  refine pl_p rfl rfl rfl rfl rfl rfl (p_slc rfl rfl rfl hs4) ?_
  repeat (first | refine Y0 ?_ | (refine YP ?_; first | refine y1 ?_ | refine y2 ?_ | refine Y1 ?_ | refine Y2 ?_))
  refine pl_S' (late_has 15 rfl (made_slice rfl rfl rfl (zr rfl) rfl rfl rfl rfl rfl rfl)) rfl rfl rfl rfl rfl rfl (st_buildSlice rfl (zr rfl) rfl rfl rfl rfl rfl rfl fun b0 => ⟨by exact rec_auto, ?_⟩)
  repeat (first | refine Y0 ?_ | (refine YP ?_; first | refine y1 ?_ | refine y2 ?_ | refine Y1 ?_ | refine Y2 ?_))
  refine pl_S' (late_has 15 rfl (made_slice rfl rfl rfl (zr rfl) rfl rfl rfl rfl rfl rfl)) rfl rfl rfl rfl rfl rfl (st_appO (M := D.take k) (c := c3) (pre := []) (Hs := [_]) (Own.emp _ _) en57_len en57_one rfl (by rw [hl3]; rfl) (ap rfl) (hw3.weak (List.sublist_cons_self _ _)) (Nat.le_trans (Nat.mul_le_mul_right _ (show 2 * (([] : List C57).length + (D.take k).length) + 192 ≤ 6000 by rw [hl3, List.length_nil]; omega)) (by decide)) fun v3 H3 ho3 => ⟨by exact rec_auto, ?_⟩)
  repeat (first | refine Y0 ?_ | (refine YP ?_; first | refine y1 ?_ | refine y2 ?_ | refine Y1 ?_ | refine Y2 ?_))
  refine pl_S' (late_has 15 rfl (made_slice rfl rfl rfl (zr rfl) rfl rfl rfl rfl rfl rfl)) rfl rfl rfl rfl rfl rfl (st_buildSlice rfl (zr rfl) rfl rfl rfl rfl rfl rfl fun bo => ⟨by exact rec_auto, ?_⟩)
  repeat (first | refine Y0 ?_ | (refine YP ?_; first | refine y1 ?_ | refine y2 ?_ | refine Y1 ?_ | refine Y2 ?_))
  refine pl_S' (late_no rfl) rfl rfl rfl rfl rfl rfl (st_appO (M := [⟨x.a0, x.a2, v, false⟩]) (c := 1) (pre := [_]) (Hs := H3) ho3 en57_len en57_one rfl rfl (ap rfl) (arrW_one en57_len (List.Mem.head _)) (Nat.le_trans (Nat.mul_le_mul_right _ (show 2 * (([] ++ D.take k).length + [(⟨x.a0, x.a2, v, false⟩ : C57)].length) + 192 ≤ 6000 by rw [List.nil_append, hl3, List.length_singleton]; omega)) (by decide)) fun v4 H4 ho4 => ⟨by exact rec_auto, ?_⟩)
  repeat (first | refine Y0 ?_ | (refine YP ?_; first | refine y1 ?_ | refine y2 ?_ | refine Y1 ?_ | refine Y2 ?_))
  refine pl_S' (late_no rfl) rfl rfl rfl rfl rfl rfl (st_appO (M := (D.drop k).take (D.length - k)) (c := c4) (pre := []) (Hs := H4) ho4 en57_len en57_one rfl (by rw [hl4]; rfl) (ap rfl) (hw4.weak (by exact drop_auto)) (Nat.le_trans (Nat.mul_le_mul_right _ (show 2 * (([] ++ D.take k ++ [(⟨x.a0, x.a2, v, false⟩ : C57)]).length + ((D.drop k).take (D.length - k)).length) + 192 ≤ 6000 by rw [hl4, List.nil_append, List.length_append, hl3, List.length_singleton]; omega)) (by decide)) fun v5 H5 ho5 => ⟨by exact rec_auto, ?_⟩)
  have ho6 := ho5
  obtain ⟨ad5, c5, rfl, _⟩ := ho5.arrW (C := cx B0 old) en57_len
  refine PlanT.perm ?_ (List.perm_append_comm_assoc [_, _] H5 _)
  repeat (first | refine Y0 ?_ | (refine YP ?_; first | refine y1 ?_ | refine y2 ?_ | refine Y1 ?_ | refine Y2 ?_))
  refine pl_st' (late_no rfl) rfl rfl rfl rfl rfl rfl rfl rfl (by repeat (first | exact sV (sz rfl) rfl rfl | exact sW (sz rfl) rfl rfl rfl | exact sF (sz rfl) rfl rfl rfl | exact sG (sz rfl) rfl rfl | exact sM (f := vV) (sz rfl) rfl rfl (by omega) | exact sM (sz rfl) rfl rfl (by omega) | apply sS | apply sA)) (by exact rec_auto) ?_
  repeat (first | refine Y0 ?_ | (refine YP ?_; first | refine y1 ?_ | refine y2 ?_ | refine Y1 ?_ | refine Y2 ?_))
  repeat (first | refine Z0 ?_ | (refine ZR ?_; first | refine x1 ?_ | refine x2 ?_ | refine x8 ?_ | refine Z1 ?_ | refine Z2 ?_ | refine x3 fun _ => ?_ | refine x4 fun _ => ?_ | refine x5 fun _ => ?_ | refine Z3 fun _ => ?_ | refine Z4 fun _ => ?_) | refine ZC ?_)
  have hfin : [] ++ D.take k ++ [⟨x.a0, x.a2, v, false⟩] ++ (D.drop k).take (D.length - k) = D.take k ++ [⟨x.a0, x.a2, v, false⟩] ++ D.drop k := by
    rw [List.nil_append, List.take_of_length_le (l := D.drop k) (by rw [List.length_drop]; omega)]
  have hrel := rel_ins hR hz hok hKn hlt hge'
  rw [updF_upd] at hrel
  rw [← hfin] at hrel
  exact re_1 rfl rfl (by exact drop_auto) (hQ _ _ _ _ _ _ _ ho6 oM hF hrel)
end
end Go.Proofs.Ytoimfchhmocgeaa.Abs

/- The reference's Settle: what it does with all entries. -/
namespace Go.Proofs.Ytoimfchhmocgeaa.Abs
open Go
set_option linter.unusedVariables false
structure RfS where
  cl : Kk → Option (Int × Bool)
  M : List M3
  F : List Kk
  g : List N59
def refL (lim win now self : Int) (B : List S27) : List N59 → RfS → RfS
  | [], s => s
  | x :: A, s => refL lim win now self B A ⟨updF s.cl (kN x) (refK lim win now (s.cl (kN x)) s.M s.F (kN x) self (rvOf B (kN x))).1, (refK lim win now (s.cl (kN x)) s.M s.F (kN x) self (rvOf B (kN x))).2.1, (refK lim win now (s.cl (kN x)) s.M s.F (kN x) self (rvOf B (kN x))).2.2.1,
    if (refK lim win now (s.cl (kN x)) s.M s.F (kN x) self (rvOf B (kN x))).2.2.2 = true then s.g ++ [x] else s.g⟩
theorem refK_len (lim win now : Int) (cl : Option (Int × Bool)) (M : List M3) (F : List Kk) (K : Kk) (self : Int) (r : S27) : (refK lim win now cl M F K self r).2.1.length ≤ M.length + 1 ∧ (refK lim win now cl M F K self r).2.2.1.length ≤ F.length + 1 := by
  unfold refK
  split
  · simp
  · split
    · simp
    · split
      · simp
      · dsimp only
        split <;> simp
theorem refL_len (lim win now self : Int) (B : List S27) : ∀ (A : List N59) (s : RfS), (refL lim win now self B A s).M.length ≤ s.M.length + A.length ∧ (refL lim win now self B A s).F.length ≤ s.F.length + A.length
  | [], s => ⟨Nat.le_refl _, Nat.le_refl _⟩
  | x :: A, s => by
    unfold refL
    have h1 := refL_len lim win now self B A ⟨updF s.cl (kN x) (refK lim win now (s.cl (kN x)) s.M s.F (kN x) self (rvOf B (kN x))).1, (refK lim win now (s.cl (kN x)) s.M s.F (kN x) self (rvOf B (kN x))).2.1, (refK lim win now (s.cl (kN x)) s.M s.F (kN x) self (rvOf B (kN x))).2.2.1, if (refK lim win now (s.cl (kN x)) s.M s.F (kN x) self (rvOf B (kN x))).2.2.2 = true then s.g ++ [x] else s.g⟩
    have h2 := refK_len lim win now (s.cl (kN x)) s.M s.F (kN x) self (rvOf B (kN x))
    dsimp only at h1
    rw [List.length_cons]
    exact ⟨by omega, by omega⟩
theorem srtR_nodup {ks : List Kk} (h : SrtR ks) : ks.Nodup := by
  unfold SrtR at h
  rw [List.pairwise_map] at h
  exact h.imp fun {a b} h e => by rw [e] at h; omega
theorem rel_len {C : List C57} {cl : Kk → Option (Int × Bool)} {L : List Kk} (h : RelC C cl) (hL : ∀ k, cl k ≠ none → k ∈ L) : C.length ≤ L.length := by
  have hn : (C.map kC).Nodup := srtR_nodup h.1
  have := hn.length_le_of_subset (l₂ := L) fun k hk => by
    obtain ⟨x, hx, rfl⟩ := List.mem_map.1 hk
    exact hL _ (by rw [(h.2.1 x hx).2]; simp)
  rwa [List.length_map] at this
theorem rel_flt {C : List C57} {cl : Kk → Option (Int × Bool)} {L : List Kk} (h : RelC C cl) : RelC (C.filter fun c => decide (kC c ∈ L)) (fun k => if k ∈ L then cl k else none) := by
  refine ⟨srt_sub h.1 (List.filter_sublist.map _), fun x hx => ?_, fun k hk => ?_⟩
  · obtain ⟨h1, h2⟩ := List.mem_filter.1 hx
    dsimp only
    rw [if_pos (of_decide_eq_true h2)]
    exact h.2.1 x h1
  · dsimp only at hk
    by_cases hkL : k ∈ L
    · rw [if_pos hkL] at hk
      obtain ⟨x, hx, e⟩ := h.2.2 k hk
      exact ⟨x, List.mem_filter.2 ⟨hx, decide_eq_true (by rw [e]; exact hkL)⟩, e⟩
    · rw [if_neg hkL] at hk
      exact absurd rfl hk
end Go.Proofs.Ytoimfchhmocgeaa.Abs

/- The reference's Settle: the walk. -/
namespace Go.Proofs.Ytoimfchhmocgeaa.Abs
open Go
set_option linter.unusedVariables false
theorem rk_d {s q : Nat × AObj} {C M F G H : Hp} : (s :: q :: (C ++ (M ++ (F ++ (G ++ H))))).Perm (s :: q :: (G ++ (C ++ (M ++ (F ++ H))))) :=
  pmF (fun i => match i with | 0 => [s, q] | 1 => C | 2 => M | 3 => F | _ => G) (a := [0, 1, 2, 3, 4]) (b := [0, 4, 1, 2, 3]) (by decide)
theorem refL_cons (lim win now self : Int) (B : List S27) (x : N59) (A : List N59) (s : RfS) : refL lim win now self B (x :: A) s = refL lim win now self B A ⟨updF s.cl (kN x) (refK lim win now (s.cl (kN x)) s.M s.F (kN x) self (rvOf B (kN x))).1, (refK lim win now (s.cl (kN x)) s.M s.F (kN x) self (rvOf B (kN x))).2.1, (refK lim win now (s.cl (kN x)) s.M s.F (kN x) self (rvOf B (kN x))).2.2.1,
    if (refK lim win now (s.cl (kN x)) s.M s.F (kN x) self (rvOf B (kN x))).2.2.2 = true then s.g ++ [x] else s.g⟩ := rfl
def fltC (A : List N59) (c : C57) : Bool := decide (kC c ∈ A.map kN)
section
variable {B0 : Nat} {old : Nat → Option (List Value)} {n : Nat} {H HR GC GM GF : Hp} {Q : Value → Hp → Prop} {q : Nat} {lim win last : Int} {vC vM vF : Value} {Cl : List C57} {Ml : List M3} {Fl : List Kk} {cl : Kk → Option (Int × Bool)}
set_option maxRecDepth 10000
set_option maxHeartbeats 8000000
theorem settle37_ct (hC : Own en57 4 Cl vC GC) (hM : Own enM 3 Ml vM GM) (hF : Own enK 2 Fl vF GF) (hR : RelC Cl cl) (hlc : Cl.length ≤ 2000) (hwn : 0 ≤ win ∧ win ≤ 100000) (self now : Int) {A : List N59} {B : List S27} (hA1 : A.length ≤ 1000) (hB1 : B.length ≤ 1000) (hl : Ml.length + A.length ≤ 2500) (hlf : Fl.length + A.length ≤ 2500)
    (hwA : ∀ x ∈ A, okK (kN x)) (hwB : ∀ x ∈ B, okK (kR x)) {adn adr : Option Addr} {cn cr : Nat} (hn : Arr (cx B0 old) H adn 6 en59 A) (hrv : Arr (cx B0 old) H adr 5 en27 B)
    (htime : chkT last now ≠ 0 → Q (.tuple #[.slice none 0 0, .int .i64 (chkT last now)]) ((q, AObj.row [.int .i64 lim, .int .i64 win, .int .i64 last, vC, vM, vF] 6 false) :: (GC ++ (GM ++ (GF ++ H)))))
    (hbad : chkT last now = 0 → ¬ (SrtR (A.map kN) ∧ SrtR (B.map kR)) → Q (.tuple #[.slice none 0 0, .int .i64 10]) ((q, AObj.row [.int .i64 lim, .int .i64 win, .int .i64 last, vC, vM, vF] 6 false) :: (GC ++ (GM ++ (GF ++ H)))))
    (hQ : chkT last now = 0 → SrtR (A.map kN) → SrtR (B.map kR) → ∀ S, S = refL lim win now self B A ⟨fun k => if k ∈ A.map kN then cl k else none, Ml, Fl, []⟩ → ∀ C' vC' GC' vM' GM' vF' GF' vg Gg, Own en57 4 C' vC' GC' → Own enM 3 S.M vM' GM' → Own enK 2 S.F vF' GF' → RelC C' S.cl → Own en59 6 S.g vg Gg →
      Q (.tuple #[vg, .int .i64 0]) ((q, AObj.row [.int .i64 lim, .int .i64 win, .int .i64 now, vC', vM', vF'] 6 false) :: (GC' ++ (GM' ++ (GF' ++ (Gg ++ H)))))) :
    CallT (cx B0 old) (acall (cx B0 old) ansP (n + 4)) 37 [.pointer (some ⟨q, 0, none⟩), .int .u32 self, .slice adn A.length cn, .slice adr B.length cr, .int .i64 now] ((q, AObj.row [.int .i64 lim, .int .i64 win, .int .i64 last, vC, vM, vF] 6 false) :: (GC ++ (GM ++ (GF ++ H)))) Q := by
  refine call_in 119 rfl Try.func37 rfl rfl ?_
  obtain ⟨adC, cC, eC, gC⟩ := hC.arrW (C := cx B0 old) en57_len
  subst eC
  obtain ⟨adM, cM, eM, gM⟩ := hM.arrW (C := cx B0 old) enM_len
  subst eM
  obtain ⟨adF, cF, eF, gF⟩ := hF.arrW (C := cx B0 old) enK_len
  subst eF
  clear gM gF
  repeat (first | refine Z0 ?_ | (refine ZR ?_; first | refine x1 ?_ | refine x2 ?_ | refine x8 ?_ | refine Z1 ?_ | refine Z2 ?_ | refine x3 fun _ => ?_ | refine x4 fun _ => ?_ | refine x5 fun _ => ?_ | refine Z3 fun _ => ?_ | refine Z4 fun _ => ?_) | refine ZC ?_)
  refine rt_step rfl rfl rfl (st_call rfl rfl rfl rfl (time55_ct now ?_))
  by_cases hck : chkT last now = 0
  rotate_left
  · repeat (first | refine Z0 ?_ | (refine ZR ?_; first | refine x1 ?_ | refine x2 ?_ | refine x8 ?_ | refine Z1 ?_ | refine Z2 ?_ | refine x3 fun _ => ?_ | refine x4 fun _ => ?_ | refine x5 fun _ => ?_ | refine Z3 fun _ => ?_ | refine Z4 fun _ => ?_) | refine ZC ?_)
    rw [show (chkT last now != 0) = true from bne_iff_ne.2 hck]
    repeat (first | refine Z0 ?_ | (refine ZR ?_; first | refine x1 ?_ | refine x2 ?_ | refine x8 ?_ | refine Z1 ?_ | refine Z2 ?_ | refine x3 fun _ => ?_ | refine x4 fun _ => ?_ | refine x5 fun _ => ?_ | refine Z3 fun _ => ?_ | refine Z4 fun _ => ?_) | refine ZC ?_)
    exact re_2 rfl rfl rfl (List.Sublist.refl _) (htime hck)
  have hnow : 0 ≤ now ∧ now ≤ 1099511627776 := by
    unfold chkT at hck
    by_cases h : now < 0 ∨ now > 1099511627776
    · rw [if_pos h] at hck; cases hck
    · omega
  rw [hck]
  repeat (first | refine Z0 ?_ | (refine ZR ?_; first | refine x1 ?_ | refine x2 ?_ | refine x8 ?_ | refine Z1 ?_ | refine Z2 ?_ | refine x3 fun _ => ?_ | refine x4 fun _ => ?_ | refine x5 fun _ => ?_ | refine Z3 fun _ => ?_ | refine Z4 fun _ => ?_) | refine ZC ?_)
  have hsub : ∀ (x : Nat × AObj) (G1 G2 G3 : Hp), H.Sublist (x :: (G1 ++ (G2 ++ (G3 ++ H)))) := fun x G1 G2 G3 => (((List.sublist_append_right G3 H).trans (List.sublist_append_right G2 _)).trans (List.sublist_append_right G1 _)).trans (List.sublist_cons_self _ _)
  refine rt_step rfl rfl rfl (st_call rfl rfl rfl rfl (ordered60_ct (hn.weak (hsub _ _ _ _)) (hrv.weak (hsub _ _ _ _)) hA1 hB1 hwA hwB (fun hs => ?_) (fun hs => ?_)))
  rotate_left
  · repeat (first | refine Z0 ?_ | (refine ZR ?_; first | refine x1 ?_ | refine x2 ?_ | refine x8 ?_ | refine Z1 ?_ | refine Z2 ?_ | refine x3 fun _ => ?_ | refine x4 fun _ => ?_ | refine x5 fun _ => ?_ | refine Z3 fun _ => ?_ | refine Z4 fun _ => ?_) | refine ZC ?_)
    exact re_2 rfl rfl rfl (List.Sublist.refl _) (hbad hck hs)
  replace hQ := hQ hck hs.1 hs.2 _ rfl
  clear htime hbad
  repeat (first | refine Z0 ?_ | (refine ZR ?_; first | refine x1 ?_ | refine x2 ?_ | refine x8 ?_ | refine Z1 ?_ | refine Z2 ?_ | refine x3 fun _ => ?_ | refine x4 fun _ => ?_ | refine x5 fun _ => ?_ | refine Z3 fun _ => ?_ | refine Z4 fun _ => ?_) | refine ZC ?_)
  have hk1 : ∀ i c, Cl[i]? = some c → (Cl.take (i + 1)).filter (fltC A) = (Cl.take i).filter (fltC A) ++ if kC c ∈ A.map kN then [c] else [] := fun i c hc => by
    have htk : Cl.take (i + 1) = Cl.take i ++ [c] := by rw [List.take_add_one, hc]; rfl
    rw [htk, List.filter_append]
    congr 1
    by_cases h : kC c ∈ A.map kN
    · rw [if_pos h, List.filter_cons_of_pos (show fltC A c = true from decide_eq_true h)]; rfl
    · rw [if_neg h, List.filter_cons_of_neg (by unfold fltC; simpa using h)]; rfl
  refine loop_ind (ι := Nat × Value × Hp) (0, .slice none 0 0, []) (fun i => Cl.length - i.1) (fun i => i.1 ≤ Cl.length ∧ Own en57 4 ((Cl.take i.1).filter (fltC A)) i.2.1 i.2.2)
    (fun i => [(14, .int .i64 (i.1 : Int)), (13, i.2.1), (0, .pointer (some ⟨q, 0, none⟩)), (1, .int .u32 self), (2, .slice adn A.length cn), (3, .slice adr B.length cr)])
    (fun i => (q, AObj.row [.int .i64 lim, .int .i64 win, .int .i64 now, .slice adC Cl.length cC, .slice adM Ml.length cM, .slice adF Fl.length cF] 6 false) :: (i.2.2 ++ (GC ++ (GM ++ (GF ++ H))))) ⟨Nat.zero_le _, Own.nil⟩ (by repeat (first | exact SubL.nil | refine SubL.cons rfl ?_)) (List.Sublist.refl _) ?_
  rintro ⟨i, v, G⟩ ⟨hi, ho⟩
  dsimp only at hi ho ⊢
  repeat (first | refine Z0 ?_ | (refine ZR ?_; first | refine x1 ?_ | refine x2 ?_ | refine x8 ?_ | refine Z1 ?_ | refine Z2 ?_ | refine x3 fun _ => ?_ | refine x4 fun _ => ?_ | refine x5 fun _ => ?_ | refine Z3 fun _ => ?_ | refine Z4 fun _ => ?_) | refine ZC ?_)
  refine ct_condT te_d rfl (fun hil => ?_) (fun hil => ?_)
  · obtain ⟨c, hc⟩ : ∃ c, Cl[i]? = some c := ⟨_, List.getElem?_eq_getElem (by omega)⟩
    have hil2 : i < Cl.length := by omega
    repeat (first | refine Z0 ?_ | (refine ZR ?_; first | refine x1 ?_ | refine x2 ?_ | refine x8 ?_ | refine Z1 ?_ | refine Z2 ?_ | refine x3 fun _ => ?_ | refine x4 fun _ => ?_ | refine x5 fun _ => ?_ | refine Z3 fun _ => ?_ | refine Z4 fun _ => ?_) | refine ZC ?_)
    refine loop_ind (ι := Nat × Value × Hp) (0, v, G) (fun j => A.length - j.1) (fun j => j.1 ≤ A.length ∧ Own en57 4 ((Cl.take i).filter (fltC A) ++ if kC c ∈ (A.take j.1).map kN then [c] else []) j.2.1 j.2.2)
      (fun j => [(15, .int .i64 (j.1 : Int)), (13, j.2.1), (14, .int .i64 (i : Int)), (0, .pointer (some ⟨q, 0, none⟩)), (1, .int .u32 self), (2, .slice adn A.length cn), (3, .slice adr B.length cr)])
      (fun j => (q, AObj.row [.int .i64 lim, .int .i64 win, .int .i64 now, .slice adC Cl.length cC, .slice adM Ml.length cM, .slice adF Fl.length cF] 6 false) :: (j.2.2 ++ (GC ++ (GM ++ (GF ++ H))))) ⟨Nat.zero_le _, by simpa using ho⟩ (by repeat (first | exact SubL.nil | refine SubL.cons rfl ?_)) (List.Sublist.refl _) ?_
    clear ho
    rintro ⟨j, v, G⟩ ⟨hj, ho⟩
    dsimp only at hj ⊢
    have ho : Own en57 4 ((Cl.take i).filter (fltC A) ++ if kC c ∈ (A.take j).map kN then [c] else []) v G := ho
    repeat (first | refine Z0 ?_ | (refine ZR ?_; first | refine x1 ?_ | refine x2 ?_ | refine x8 ?_ | refine Z1 ?_ | refine Z2 ?_ | refine x3 fun _ => ?_ | refine x4 fun _ => ?_ | refine x5 fun _ => ?_ | refine Z3 fun _ => ?_ | refine Z4 fun _ => ?_) | refine ZC ?_)
    refine ct_condT te_d rfl (fun hjl => ?_) (fun hjl => ?_)
    rotate_left
    · obtain rfl : j = A.length := by omega
      rw [List.take_length, ← hk1 i c hc] at ho
      repeat (first | refine Z0 ?_ | (refine ZR ?_; first | refine x1 ?_ | refine x2 ?_ | refine x8 ?_ | refine Z1 ?_ | refine Z2 ?_ | refine x3 fun _ => ?_ | refine x4 fun _ => ?_ | refine x5 fun _ => ?_ | refine Z3 fun _ => ?_ | refine Z4 fun _ => ?_) | refine ZC ?_)
      exact ⟨(i + 1, v, G), ⟨by omega, ho⟩, by dsimp only; omega, by repeat (first | exact SubL.nil | refine SubL.cons rfl ?_), List.Sublist.refl _⟩
    obtain ⟨x, hx⟩ : ∃ x, A[j]? = some x := ⟨_, List.getElem?_eq_getElem (by omega)⟩
    have hxk : (A.map kN)[j]? = some (kN x) := by rw [List.getElem?_map, hx]; rfl
    have htk : (A.take (j + 1)).map kN = (A.take j).map kN ++ [kN x] := by rw [List.take_add_one, hx]; simp
    have hnot : kN x ∉ (A.take j).map kN := by
      have := srt_not hs.1 hxk
      rwa [← List.map_take] at this
    have hA : Arr (cx B0 old) (G ++ (GC ++ (GM ++ (GF ++ H)))) adC 4 en57 Cl := (gC G _).arr en57_len
    have hnx : Arr (cx B0 old) (G ++ (GC ++ (GM ++ (GF ++ H)))) adn 6 en59 A := hn.weak ((((List.sublist_append_right GF H).trans (List.sublist_append_right GM _)).trans (List.sublist_append_right GC _)).trans (List.sublist_append_right G _))
    obtain ⟨b1, o1, e1, hL0⟩ := hnx.ldF 3 0 hx rfl rfl rfl (sz rfl)
    obtain ⟨b2, o2, e2, hL1⟩ := hnx.ldF 25 2 hx rfl rfl rfl (sz rfl)
    obtain ⟨b3, o3, e3, hL2⟩ := hA.ldF 3 0 hc rfl rfl rfl (sz rfl)
    obtain ⟨b4, o4, e4, hL3⟩ := hA.ldF 25 1 hc rfl rfl rfl (sz rfl)
    obtain ⟨b5, o5, e5, hL4⟩ := hA.ldW 57 hc rfl (sz rfl)
    subst e1
    cases e2
    subst e3
    cases e4
    cases e5
    unfold en57 at hL4
    obtain ⟨av, cv, ev, _⟩ := ho.arrW (C := cx B0 old) en57_len
    subst ev
    have hmiss : kN x ≠ kC c → Own en57 4 ((Cl.take i).filter (fltC A) ++ if kC c ∈ (A.take (j + 1)).map kN then [c] else []) (.slice av ((Cl.take i).filter (fltC A) ++ if kC c ∈ (A.take j).map kN then [c] else []).length cv) G := fun h => by
      have e2 : (if kC c ∈ (A.take (j + 1)).map kN then [c] else []) = if kC c ∈ (A.take j).map kN then [c] else [] := by
        rw [htk]
        by_cases g : kC c ∈ (A.take j).map kN
        · rw [if_pos (List.mem_append_left _ g), if_pos g]
        · rw [if_neg (fun g2 => (List.mem_append.1 g2).elim g fun e => h (List.mem_singleton.1 e).symm), if_neg g]
      rw [e2]
      exact ho
    repeat (first | refine Z0 ?_ | (refine ZR ?_; first | refine x1 ?_ | refine x2 ?_ | refine x8 ?_ | refine Z1 ?_ | refine Z2 ?_ | refine x3 fun _ => ?_ | refine x4 fun _ => ?_ | refine x5 fun _ => ?_ | refine Z3 fun _ => ?_ | refine Z4 fun _ => ?_) | refine ZC ?_)
    refine ct_draw (masks := [0, 0, 3, 7, 15, 0, 32, 96, 224, 0, 992, 2016, 4064, 8191, 16383, 32767, 32767, 131071, 262143, 524287, 32767, 1081343, 3178495, 7372799, 32767, 32538623, 66093055, 133201919, 268435455, 536870911]) (plan := [0, 1, 2, 3, 4, 5, 6, 7, 8, 9, 10, 11, 12, 13, 14, 15, 16, 17, 18, 19, 20, 21, 22, 23, 24, 25, 26, 27, 28, 29]) (E := []) (by kernel_rfl) (by kernel_rfl) (by kernel_rfl) (by kernel_rfl) ?_
    repeat (first | refine Y0 ?_ | (refine YP ?_; first | refine y1 ?_ | refine y2 ?_ | refine Y1 ?_ | refine Y2 ?_))
    by_cases h0 : x.a0 = c.bd
    · rw [show (x.a0 == c.bd) = true from beq_iff_eq.2 h0]
      repeat (first | refine Y0 ?_ | (refine YP ?_; first | refine y1 ?_ | refine y2 ?_ | refine Y1 ?_ | refine Y2 ?_))
      by_cases h1 : x.a2 = c.mac
      · rw [show (x.a2 == c.mac) = true from beq_iff_eq.2 h1]
        repeat (first | refine Y0 ?_ | (refine YP ?_; first | refine y1 ?_ | refine y2 ?_ | refine Y1 ?_ | refine Y2 ?_))
        repeat (first | refine Z0 ?_ | (refine ZR ?_; first | refine x1 ?_ | refine x2 ?_ | refine x8 ?_ | refine Z1 ?_ | refine Z2 ?_ | refine x3 fun _ => ?_ | refine x4 fun _ => ?_ | refine x5 fun _ => ?_ | refine Z3 fun _ => ?_ | refine Z4 fun _ => ?_) | refine ZC ?_)
        have hk : kN x = kC c := KkM.eta h0 h1
        rw [if_neg (by rw [← hk]; exact hnot), List.append_nil] at ho ⊢
        have hlf : ((Cl.take i).filter (fltC A)).length ≤ 2000 := Nat.le_trans (List.length_filter_le _ _) (by rw [List.length_take]; omega)
        refine rt_step rfl rfl rfl (st_appP (M := [c]) (c := 1) (pre := [_, _]) ho en57_len en57_one rfl rfl (ap rfl) (arrW_one (a := c) en57_len hm0) (Nat.le_trans (Nat.mul_le_mul_right _ (show 2 * (((Cl.take i).filter (fltC A)).length + [c].length) + 192 ≤ 6000 by simp only [List.length_singleton]; omega)) (by decide)) fun v2 G2 o2 => ?_)
        obtain ⟨ad2, c2, e2, _⟩ := o2.arrW (C := cx B0 old) en57_len
        subst e2
        repeat (first | refine Z0 ?_ | (refine ZR ?_; first | refine x1 ?_ | refine x2 ?_ | refine x8 ?_ | refine Z1 ?_ | refine Z2 ?_ | refine x3 fun _ => ?_ | refine x4 fun _ => ?_ | refine x5 fun _ => ?_ | refine Z3 fun _ => ?_ | refine Z4 fun _ => ?_) | refine ZC ?_)
        exact ⟨(j + 1, _, G2), ⟨by omega, by dsimp only; rw [htk, if_pos (by rw [← hk]; simp)]; exact o2⟩, by dsimp only; omega, by repeat (first | exact SubL.nil | refine SubL.cons rfl ?_), by exact drop_auto⟩
      · rw [show (x.a2 == c.mac) = false from beq_eq_false_iff_ne.2 h1]
        repeat (first | refine Y0 ?_ | (refine YP ?_; first | refine y1 ?_ | refine y2 ?_ | refine Y1 ?_ | refine Y2 ?_))
        repeat (first | refine Z0 ?_ | (refine ZR ?_; first | refine x1 ?_ | refine x2 ?_ | refine x8 ?_ | refine Z1 ?_ | refine Z2 ?_ | refine x3 fun _ => ?_ | refine x4 fun _ => ?_ | refine x5 fun _ => ?_ | refine Z3 fun _ => ?_ | refine Z4 fun _ => ?_) | refine ZC ?_)
        exact ⟨(j + 1, _, G), ⟨by omega, hmiss fun e => h1 (congrArg Kk.mac e)⟩, by dsimp only; omega, by repeat (first | exact SubL.nil | refine SubL.cons rfl ?_), by exact drop_auto⟩
    · rw [show (x.a0 == c.bd) = false from beq_eq_false_iff_ne.2 h0]
      repeat (first | refine Y0 ?_ | (refine YP ?_; first | refine y1 ?_ | refine y2 ?_ | refine Y1 ?_ | refine Y2 ?_))
      repeat (first | refine Z0 ?_ | (refine ZR ?_; first | refine x1 ?_ | refine x2 ?_ | refine x8 ?_ | refine Z1 ?_ | refine Z2 ?_ | refine x3 fun _ => ?_ | refine x4 fun _ => ?_ | refine x5 fun _ => ?_ | refine Z3 fun _ => ?_ | refine Z4 fun _ => ?_) | refine ZC ?_)
      exact ⟨(j + 1, _, G), ⟨by omega, hmiss fun e => h0 (congrArg Kk.bd e)⟩, by dsimp only; omega, by repeat (first | exact SubL.nil | refine SubL.cons rfl ?_), by exact drop_auto⟩
  obtain rfl : i = Cl.length := by omega
  rw [List.take_length] at ho
  have hRf : RelC (Cl.filter (fltC A)) (fun k => if k ∈ A.map kN then cl k else none) := rel_flt (L := A.map kN) hR
  clear hk1 hR hC gC hil hi
  generalize Cl.filter (fltC A) = C1 at *
  generalize hcl1 : (fun k => if k ∈ A.map kN then cl k else none) = cl1 at *
  have hsup : ∀ k, cl1 k ≠ none → k ∈ A.map kN := fun k h => by
    rw [← hcl1] at h
    dsimp only at h
    by_cases g : k ∈ A.map kN
    · exact g
    · rw [if_neg g] at h
      exact absurd rfl h
  clear hcl1
  obtain ⟨av, cv, ev, _⟩ := ho.arrW (C := cx B0 old) en57_len
  subst ev
  repeat (first | refine Z0 ?_ | (refine ZR ?_; first | refine x1 ?_ | refine x2 ?_ | refine x8 ?_ | refine Z1 ?_ | refine Z2 ?_ | refine x3 fun _ => ?_ | refine x4 fun _ => ?_ | refine x5 fun _ => ?_ | refine Z3 fun _ => ?_ | refine Z4 fun _ => ?_) | refine ZC ?_)
  refine loop_ind (ι := Nat × RfS × (List C57 × Value × Hp) × (Value × Hp) × (Value × Hp) × (Value × Hp)) (0, ⟨cl1, Ml, Fl, []⟩, (C1, .slice av C1.length cv, G), (.slice adM Ml.length cM, GM), (.slice adF Fl.length cF, GF), (.slice none 0 0, [])) (fun i => A.length - i.1)
    (fun i => i.1 ≤ A.length ∧ refL lim win now self B (A.drop i.1) i.2.1 = refL lim win now self B A ⟨cl1, Ml, Fl, []⟩ ∧ i.2.1.M.length ≤ Ml.length + i.1 ∧ i.2.1.F.length ≤ Fl.length + i.1 ∧ i.2.1.g.length ≤ i.1 ∧ (∀ k, i.2.1.cl k ≠ none → k ∈ A.map kN) ∧ RelC i.2.2.1.1 i.2.1.cl ∧
      Own en57 4 i.2.2.1.1 i.2.2.1.2.1 i.2.2.1.2.2 ∧ Own enM 3 i.2.1.M i.2.2.2.1.1 i.2.2.2.1.2 ∧ Own enK 2 i.2.1.F i.2.2.2.2.1.1 i.2.2.2.2.1.2 ∧ Own en59 6 i.2.1.g i.2.2.2.2.2.1 i.2.2.2.2.2.2)
    (fun i => [(17, .int .i64 (i.1 : Int)), (16, i.2.2.2.2.2.1), (0, .pointer (some ⟨q, 0, none⟩)), (1, .int .u32 self), (2, .slice adn A.length cn), (3, .slice adr B.length cr)])
    (fun i => (q, AObj.row [.int .i64 lim, .int .i64 win, .int .i64 now, i.2.2.1.2.1, i.2.2.2.1.1, i.2.2.2.2.1.1] 6 false) :: (i.2.2.1.2.2 ++ (i.2.2.2.1.2 ++ (i.2.2.2.2.1.2 ++ (i.2.2.2.2.2.2 ++ H))))) ⟨Nat.zero_le _, rfl, Nat.le_refl _, Nat.le_refl _, Nat.le_refl _, hsup, hRf, ho, hM, hF, .nil⟩ (by repeat (first | exact SubL.nil | refine SubL.cons rfl ?_)) (by exact drop_auto) ?_
  clear hRf ho hM hF hsup
  rintro ⟨i, s, ⟨C, vC, GC⟩, ⟨vM, GM⟩, ⟨vF, GF⟩, ⟨vg, Gg⟩⟩ ⟨hi, hst, hlm, hlf2, hlg, hsup, hR, hC, hM, hF, ho⟩
  dsimp only at hi hst hlm hlf2 hlg hsup hR hC hM hF ho ⊢
  repeat (first | refine Z0 ?_ | (refine ZR ?_; first | refine x1 ?_ | refine x2 ?_ | refine x8 ?_ | refine Z1 ?_ | refine Z2 ?_ | refine x3 fun _ => ?_ | refine x4 fun _ => ?_ | refine x5 fun _ => ?_ | refine Z3 fun _ => ?_ | refine Z4 fun _ => ?_) | refine ZC ?_)
  refine ct_condT te_d rfl (fun hil => ?_) (fun hil => ?_)
  rotate_left
  · obtain rfl : i = A.length := by omega
    rw [List.drop_length] at hst
    obtain ⟨ag, cg, eg, _⟩ := ho.arrW (C := cx B0 old) en59_len
    subst eg
    repeat (first | refine Z0 ?_ | (refine ZR ?_; first | refine x1 ?_ | refine x2 ?_ | refine x8 ?_ | refine Z1 ?_ | refine Z2 ?_ | refine x3 fun _ => ?_ | refine x4 fun _ => ?_ | refine x5 fun _ => ?_ | refine Z3 fun _ => ?_ | refine Z4 fun _ => ?_) | refine ZC ?_)
    rw [← hst] at hQ
    exact re_2 rfl rfl rfl (List.Sublist.refl _) (hQ C _ GC _ GM _ GF _ Gg hC hM hF hR ho)
  obtain ⟨x, hx⟩ : ∃ x, A[i]? = some x := ⟨_, List.getElem?_eq_getElem (by omega)⟩
  have hdr : A.drop i = x :: A.drop (i + 1) := by
    obtain ⟨hl, rfl⟩ := List.getElem?_eq_some_iff.1 hx
    exact List.drop_eq_getElem_cons hl
  have hxm : x ∈ A := List.mem_iff_getElem?.2 ⟨_, hx⟩
  rw [hdr, refL_cons] at hst
  have hlC : C.length ≤ 2000 := by have := rel_len hR hsup; rw [List.length_map] at this; omega
  have hsub2 : H.Sublist (GC ++ (GM ++ (GF ++ (Gg ++ H)))) := (((List.sublist_append_right Gg H).trans (List.sublist_append_right GF _)).trans (List.sublist_append_right GM _)).trans (List.sublist_append_right GC _)
  obtain ⟨b1, o1, e1, hL0⟩ := hn.ldW 59 hx rfl (sz rfl)
  subst e1
  have hkl := refK_len lim win now (s.cl (kN x)) s.M s.F (kN x) self (rvOf B (kN x))
  repeat (first | refine Z0 ?_ | (refine ZR ?_; first | refine x1 ?_ | refine x2 ?_ | refine x8 ?_ | refine Z1 ?_ | refine Z2 ?_ | refine x3 fun _ => ?_ | refine x4 fun _ => ?_ | refine x5 fun _ => ?_ | refine Z3 fun _ => ?_ | refine Z4 fun _ => ?_) | refine ZC ?_)
  refine ct_draw (masks := [0, 0, 0, 0, 12, 28, 0, 0, 0, 384, 896, 1984, 4095, 8191]) (plan := [0, 1, 2, 3, 4, 5, 6, 7, 8, 9, 10, 11, 12, 13]) (E := []) (by kernel_rfl) (by kernel_rfl) (by kernel_rfl) (by kernel_rfl) ?_
  repeat (first | refine Y0 ?_ | (refine YP ?_; first | refine y1 ?_ | refine y2 ?_ | refine Y1 ?_ | refine Y2 ?_))
  refine pl_S rfl rfl rfl rfl rfl rfl (st_call rfl rfl rfl rfl (rival62_ct (hrv.weak (hsub2.trans (List.sublist_cons_self _ _))) (by omega) x ⟨by exact rec_auto, ?_⟩))
  repeat (first | refine Y0 ?_ | (refine YP ?_; first | refine y1 ?_ | refine y2 ?_ | refine Y1 ?_ | refine Y2 ?_))
  refine pl_S rfl rfl rfl rfl rfl rfl (st_call rfl rfl rfl rfl (settle61_ct (H := Gg ++ H) hC hM hF hR hlC (by omega) (by omega) hnow hwn self x (rvOf B (kN x)) (hwA x hxm) fun C' vC' GC' vM' GM' vF' GF' oC oM oF oR => ⟨by exact rec_auto, ?_⟩))
  generalize refK lim win now (s.cl (kN x)) s.M s.F (kN x) self (rvOf B (kN x)) = R at *
  have hsup' : ∀ k, updF s.cl (kN x) R.1 k ≠ none → k ∈ A.map kN := fun k h => by
    by_cases e : k = kN x
    · rw [e]; exact List.mem_map_of_mem hxm
    · rw [updF_ne _ _ e] at h
      exact hsup k h
  cases hg : R.2.2.2
  · rw [hg, if_neg (by simp)] at hst
    repeat (first | refine Y0 ?_ | (refine YP ?_; first | refine y1 ?_ | refine y2 ?_ | refine Y1 ?_ | refine Y2 ?_))
    repeat (first | refine Z0 ?_ | (refine ZR ?_; first | refine x1 ?_ | refine x2 ?_ | refine x8 ?_ | refine Z1 ?_ | refine Z2 ?_ | refine x3 fun _ => ?_ | refine x4 fun _ => ?_ | refine x5 fun _ => ?_ | refine Z3 fun _ => ?_ | refine Z4 fun _ => ?_) | refine ZC ?_)
    exact ⟨(i + 1, ⟨updF s.cl (kN x) R.1, R.2.1, R.2.2.1, s.g⟩, (C', vC', GC'), (vM', GM'), (vF', GF'), (vg, Gg)), ⟨by omega, hst, by dsimp only; omega, by dsimp only; omega, by dsimp only; omega, hsup', oR, oC, oM, oF, ho⟩, by dsimp only; omega, by repeat (first | exact SubL.nil | refine SubL.cons rfl ?_), List.Sublist.refl _⟩
  · rw [hg, if_pos rfl] at hst
    repeat (first | refine Y0 ?_ | (refine YP ?_; first | refine y1 ?_ | refine y2 ?_ | refine Y1 ?_ | refine Y2 ?_))
    repeat (first | refine Z0 ?_ | (refine ZR ?_; first | refine x1 ?_ | refine x2 ?_ | refine x8 ?_ | refine Z1 ?_ | refine Z2 ?_ | refine x3 fun _ => ?_ | refine x4 fun _ => ?_ | refine x5 fun _ => ?_ | refine Z3 fun _ => ?_ | refine Z4 fun _ => ?_) | refine ZC ?_)
    refine RunT.perm ?_ (rk_d (C := GC') (M := GM') (F := GF') (G := Gg)).symm
    refine rt_step rfl rfl rfl (st_appP (M := [x]) (c := 1) (pre := [_, _]) ho en59_len en59_one rfl rfl (ap rfl) (arrW_one (a := x) en59_len hm0) (Nat.le_trans (Nat.mul_le_mul_right _ (show 2 * (s.g.length + [x].length) + 192 ≤ 6000 by simp only [List.length_singleton]; omega)) (by decide)) fun v2 G2 o2 => ?_)
    refine RunT.perm ?_ (rk_d (C := GC') (M := GM') (F := GF') (G := G2))
    obtain ⟨ad2, c2, e2, _⟩ := o2.arrW (C := cx B0 old) en59_len
    subst e2
    repeat (first | refine Z0 ?_ | (refine ZR ?_; first | refine x1 ?_ | refine x2 ?_ | refine x8 ?_ | refine Z1 ?_ | refine Z2 ?_ | refine x3 fun _ => ?_ | refine x4 fun _ => ?_ | refine x5 fun _ => ?_ | refine Z3 fun _ => ?_ | refine Z4 fun _ => ?_) | refine ZC ?_)
    exact ⟨(i + 1, ⟨updF s.cl (kN x) R.1, R.2.1, R.2.2.1, s.g ++ [x]⟩, (C', vC', GC'), (vM', GM'), (vF', GF'), (_, G2)), ⟨by omega, hst, by dsimp only; omega, by dsimp only; omega, by dsimp only; rw [List.length_append, List.length_singleton]; omega, hsup', oR, oC, oM, oF, o2⟩, by dsimp only; omega, by repeat (first | exact SubL.nil | refine SubL.cons rfl ?_), by exact drop_auto⟩
end
end Go.Proofs.Ytoimfchhmocgeaa.Abs

/- The reference's Moved. -/
namespace Go.Proofs.Ytoimfchhmocgeaa.Abs
open Go
set_option linter.unusedVariables false
theorem rel_set {C : List C57} {cl : Kk → Option (Int × Bool)} {K : Kk} {i : Nat} {x z : C57} (h : RelC C cl) (hx : C[i]? = some x) (hk : kC x = K) (hz : kC z = K) : RelC (C.set i z) (updF cl K (some (z.seq, z.fz))) := by
  have hil := (List.getElem?_eq_some_iff.1 hx).1
  have hm : (C.set i z).map kC = C.map kC := by
    refine List.ext_getElem? fun j => ?_
    rw [List.getElem?_map, List.getElem?_map]
    by_cases e : i = j
    · subst e
      rw [List.getElem?_set_self hil, hx]
      exact congrArg some (hz.trans hk.symm)
    · rw [List.getElem?_set_ne e]
  have hmem : ∀ k, (∃ y ∈ C.set i z, kC y = k) ↔ ∃ y ∈ C, kC y = k := fun k => by
    have h1 : k ∈ (C.set i z).map kC ↔ k ∈ C.map kC := by rw [hm]
    rw [List.mem_map, List.mem_map] at h1
    exact h1
  refine ⟨by rw [hm]; exact h.1, fun y hy => ?_, fun k hkn => ?_⟩
  · obtain ⟨j, hj⟩ := List.mem_iff_getElem?.1 hy
    by_cases e : i = j
    · subst e
      rw [List.getElem?_set_self hil] at hj
      cases hj
      rw [hz, updF_eq]
      exact ⟨by rw [← hk]; exact (h.2.1 x (List.mem_iff_getElem?.2 ⟨_, hx⟩)).1, rfl⟩
    · rw [List.getElem?_set_ne e] at hj
      have hym : y ∈ C := List.mem_iff_getElem?.2 ⟨_, hj⟩
      have hne : kC y ≠ K := fun e2 => by
        have hxk : (C.map kC)[i]? = some (kC x) := by rw [List.getElem?_map, hx]; rfl
        have hyk : (C.map kC)[j]? = some (kC y) := by rw [List.getElem?_map, hj]; rfl
        rcases Nat.lt_or_gt_of_ne e with g | g
        · have := srt_ix h.1 hxk hyk g
          rw [hk, e2] at this; omega
        · have := srt_ix h.1 hyk hxk g
          rw [hk, e2] at this; omega
      rw [updF_ne _ _ hne]
      exact h.2.1 y hym
  · refine (hmem k).2 ?_
    by_cases e : k = K
    · exact ⟨x, List.mem_iff_getElem?.2 ⟨_, hx⟩, hk.trans e.symm⟩
    · rw [updF_ne _ _ e] at hkn
      exact h.2.2 k hkn
section
variable {B0 : Nat} {old : Nat → Option (List Value)} {n : Nat} {H HR GC GM GF : Hp} {Q : Value → Hp → Prop} {q : Nat} {lim win last : Int} {vC vM vF : Value} {Cl : List C57} {Ml : List M3} {Fl : List Kk} {cl : Kk → Option (Int × Bool)}
set_option maxRecDepth 10000
set_option maxHeartbeats 8000000
theorem moved31_ct (hC : Own en57 4 Cl vC GC) (hM : Own enM 3 Ml vM GM) (hF : Own enK 2 Fl vF GF) (hR : RelC Cl cl) (hlc : Cl.length ≤ 2000) (hl : Ml.length ≤ 2500) (hlf : Fl.length ≤ 2500) (hwn : 0 ≤ win ∧ win ≤ 100000) (K : Kk) (now : Int)
    (htime : chkT last now ≠ 0 → Q (.tuple #[.bool false, .int .i64 (chkT last now)]) ((q, AObj.row [.int .i64 lim, .int .i64 win, .int .i64 last, vC, vM, vF] 6 false) :: (GC ++ (GM ++ (GF ++ H)))))
    (hun : chkT last now = 0 → cl K = none → Q (.tuple #[.bool false, .int .i64 8]) ((q, AObj.row [.int .i64 lim, .int .i64 win, .int .i64 last, vC, vM, vF] 6 false) :: (GC ++ (GM ++ (GF ++ H)))))
    (hfz : ∀ s, chkT last now = 0 → cl K = some (s, true) → Q (.tuple #[.bool false, .int .i64 9]) ((q, AObj.row [.int .i64 lim, .int .i64 win, .int .i64 last, vC, vM, vF] 6 false) :: (GC ++ (GM ++ (GF ++ H)))))
    (hQ : ∀ s b, chkT last now = 0 → cl K = some (s, false) → b = decide ((cntM win now K (Ml ++ [⟨K.bd, K.mac, now⟩]) : Int) > lim) → ∀ C' vC' GC' vM' GM' vF' GF', Own en57 4 C' vC' GC' → Own enM 3 (Ml ++ [⟨K.bd, K.mac, now⟩]) vM' GM' → Own enK 2 (if b = true then Fl ++ [K] else Fl) vF' GF' → RelC C' (updF cl K (some (aft s, b))) →
      Q (.tuple #[.bool b, .int .i64 0]) ((q, AObj.row [.int .i64 lim, .int .i64 win, .int .i64 now, vC', vM', vF'] 6 false) :: (GC' ++ (GM' ++ (GF' ++ H))))) :
    CallT (cx B0 old) (acall (cx B0 old) ansP (n + 4)) 31 [.pointer (some ⟨q, 0, none⟩), .int .i64 K.bd, .int .u64 K.mac, .int .i64 now] ((q, AObj.row [.int .i64 lim, .int .i64 win, .int .i64 last, vC, vM, vF] 6 false) :: (GC ++ (GM ++ (GF ++ H)))) Q := by
  refine call_in4 73 rfl Try.func31 rfl rfl ?_
  obtain ⟨adC, cC, eC, gC⟩ := hC.arrW (C := cx B0 old) en57_len
  subst eC
  obtain ⟨adM, cM, eM, gM⟩ := hM.arrW (C := cx B0 old) enM_len
  subst eM
  obtain ⟨adF, cF, eF, gF⟩ := hF.arrW (C := cx B0 old) enK_len
  subst eF
  clear gM gF
  have hA : Arr (cx B0 old) (GC ++ (GM ++ (GF ++ H))) adC 4 en57 Cl := (gC [] _).arr en57_len
  repeat (first | refine Z0 ?_ | (refine ZR ?_; first | refine x1 ?_ | refine x2 ?_ | refine x8 ?_ | refine Z1 ?_ | refine Z2 ?_ | refine x3 fun _ => ?_ | refine x4 fun _ => ?_ | refine x5 fun _ => ?_ | refine Z3 fun _ => ?_ | refine Z4 fun _ => ?_) | refine ZC ?_)
  refine rt_step rfl rfl rfl (st_call rfl rfl rfl rfl (time55_ct now ?_))
  by_cases hck : chkT last now = 0
  rotate_left
  · repeat (first | refine Z0 ?_ | (refine ZR ?_; first | refine x1 ?_ | refine x2 ?_ | refine x8 ?_ | refine Z1 ?_ | refine Z2 ?_ | refine x3 fun _ => ?_ | refine x4 fun _ => ?_ | refine x5 fun _ => ?_ | refine Z3 fun _ => ?_ | refine Z4 fun _ => ?_) | refine ZC ?_)
    rw [show (chkT last now != 0) = true from bne_iff_ne.2 hck]
    repeat (first | refine Z0 ?_ | (refine ZR ?_; first | refine x1 ?_ | refine x2 ?_ | refine x8 ?_ | refine Z1 ?_ | refine Z2 ?_ | refine x3 fun _ => ?_ | refine x4 fun _ => ?_ | refine x5 fun _ => ?_ | refine Z3 fun _ => ?_ | refine Z4 fun _ => ?_) | refine ZC ?_)
    exact re_2 rfl rfl rfl (List.Sublist.refl _) (htime hck)
  have hnow : 0 ≤ now ∧ now ≤ 1099511627776 := by
    unfold chkT at hck
    by_cases h : now < 0 ∨ now > 1099511627776
    · rw [if_pos h] at hck; cases hck
    · omega
  rw [hck]
  repeat (first | refine Z0 ?_ | (refine ZR ?_; first | refine x1 ?_ | refine x2 ?_ | refine x8 ?_ | refine Z1 ?_ | refine Z2 ?_ | refine x3 fun _ => ?_ | refine x4 fun _ => ?_ | refine x5 fun _ => ?_ | refine Z3 fun _ => ?_ | refine Z4 fun _ => ?_) | refine ZC ?_)
  refine rt_step rfl rfl rfl (st_call rfl rfl rfl rfl (rclaim56_ct hA (by omega) K (fun i x hx hk => ?_) (fun hno => ?_)))
  rotate_left
  · repeat (first | refine Z0 ?_ | (refine ZR ?_; first | refine x1 ?_ | refine x2 ?_ | refine x8 ?_ | refine Z1 ?_ | refine Z2 ?_ | refine x3 fun _ => ?_ | refine x4 fun _ => ?_ | refine x5 fun _ => ?_ | refine Z3 fun _ => ?_ | refine Z4 fun _ => ?_) | refine ZC ?_)
    exact re_2 rfl rfl rfl (List.Sublist.refl _) (hun hck (rel_no hR hno))
  have hcl : cl K = some (x.seq, x.fz) := by rw [← hk]; exact (hR.2.1 x (List.mem_iff_getElem?.2 ⟨i, hx⟩)).2
  have hil : i < Cl.length := (List.getElem?_eq_some_iff.1 hx).1
  obtain ⟨b1, o1, e1, hL0⟩ := hA.ldF 4 3 hx rfl rfl rfl (sz rfl)
  obtain ⟨b2, o2, e2, hL1⟩ := hA.ldF 22 2 hx rfl rfl rfl (sz rfl)
  subst e1
  cases e2
  repeat (first | refine Z0 ?_ | (refine ZR ?_; first | refine x1 ?_ | refine x2 ?_ | refine x8 ?_ | refine Z1 ?_ | refine Z2 ?_ | refine x3 fun _ => ?_ | refine x4 fun _ => ?_ | refine x5 fun _ => ?_ | refine Z3 fun _ => ?_ | refine Z4 fun _ => ?_) | refine ZC ?_)
  rw [show decide ((i : Int) < 0) = false from decide_eq_false (by omega)]
  repeat (first | refine Z0 ?_ | (refine ZR ?_; first | refine x1 ?_ | refine x2 ?_ | refine x8 ?_ | refine Z1 ?_ | refine Z2 ?_ | refine x3 fun _ => ?_ | refine x4 fun _ => ?_ | refine x5 fun _ => ?_ | refine Z3 fun _ => ?_ | refine Z4 fun _ => ?_) | refine ZC ?_)
  cases hz : x.fz
  rotate_left
  · repeat (first | refine Z0 ?_ | (refine ZR ?_; first | refine x1 ?_ | refine x2 ?_ | refine x8 ?_ | refine Z1 ?_ | refine Z2 ?_ | refine x3 fun _ => ?_ | refine x4 fun _ => ?_ | refine x5 fun _ => ?_ | refine Z3 fun _ => ?_ | refine Z4 fun _ => ?_) | refine ZC ?_)
    exact re_2 rfl rfl rfl (List.Sublist.refl _) (hfz x.seq hck (by rw [hcl, hz]))
  repeat (first | refine Z0 ?_ | (refine ZR ?_; first | refine x1 ?_ | refine x2 ?_ | refine x8 ?_ | refine Z1 ?_ | refine Z2 ?_ | refine x3 fun _ => ?_ | refine x4 fun _ => ?_ | refine x5 fun _ => ?_ | refine Z3 fun _ => ?_ | refine Z4 fun _ => ?_) | refine ZC ?_)
  obtain ⟨G2, oC2, bb, cb, eb, hst1⟩ := hC.set (C := cx B0 old) (t := 22) (f := 2) (a' := { x with seq := aft x.seq }) (u := .int .u32 (aft x.seq)) en57_len hx (sz rfl) rfl rfl
  cases eb
  have haf : (if x.seq = 4294967295 then x.seq else IntKind.u32.wrap (x.seq + 1)) = aft x.seq := rfl
  refine ct_draw (masks := [0, 1, 3, 7, 0, 0, 32, 96, 224, 0, 992, 2016, 4064, 8160, 16383, 32767, 65535]) (plan := [0, 1, 2, 3, 4, 5, 6, 7, 8, 9, 10, 11, 12, 13, 14, 15, 16]) (E := []) (by kernel_rfl) (by kernel_rfl) (by kernel_rfl) (by kernel_rfl) ?_
  repeat (first | refine Y0 ?_ | (refine YP ?_; first | refine y1 ?_ | refine y2 ?_ | refine Y1 ?_ | refine Y2 ?_))
  refine pl_S rfl rfl rfl rfl rfl rfl (st_call rfl rfl rfl rfl (after2_ct _ ⟨by exact rec_auto, ?_⟩))
  rw [haf]
  repeat (first | refine Y0 ?_ | (refine YP ?_; first | refine y1 ?_ | refine y2 ?_ | refine Y1 ?_ | refine Y2 ?_))
  refine pl_st rfl rfl rfl rfl rfl rfl rfl rfl (hst1 [_] _) (by exact rec_auto) ?_
  repeat (first | refine Y0 ?_ | (refine YP ?_; first | refine y1 ?_ | refine y2 ?_ | refine Y1 ?_ | refine Y2 ?_))
  repeat (first | refine Z0 ?_ | (refine ZR ?_; first | refine x1 ?_ | refine x2 ?_ | refine x8 ?_ | refine Z1 ?_ | refine Z2 ?_ | refine x3 fun _ => ?_ | refine x4 fun _ => ?_ | refine x5 fun _ => ?_ | refine Z3 fun _ => ?_ | refine Z4 fun _ => ?_) | refine ZC ?_)
  have hmem : ∀ z : C57, (Cl.set i z)[i]? = some z := fun z => List.getElem?_set_self hil
  have hrel : ∀ b, RelC (Cl.set i ⟨x.bd, x.mac, aft x.seq, b⟩) (updF cl K (some (aft x.seq, b))) := fun b => rel_set (z := ⟨x.bd, x.mac, aft x.seq, b⟩) hR hx hk hk
  have hxe : ({ x with seq := aft x.seq } : C57) = ⟨x.bd, x.mac, aft x.seq, false⟩ := by rw [← hz]
  rw [hxe] at oC2
  refine rt_step rfl rfl rfl (st_call rfl rfl rfl rfl (rmoves57_ct (K := K) hM hF hl hlf hnow hwn (fun hgt vM' GM' vF' GF' oM oF => ?_) (fun hgt vM' GM' oM => ?_)))
  · obtain ⟨G3, oC3, bb2, cb2, eb2, hst2⟩ := oC2.set (C := cx B0 old) (t := 4) (f := 3) (a' := ⟨x.bd, x.mac, aft x.seq, true⟩) (u := .bool true) en57_len (hmem _) (sz rfl) rfl rfl
    rw [List.length_set] at eb2
    cases eb2
    rw [List.set_set] at oC3
    obtain ⟨ad3, c3, e3, g3⟩ := oC3.arrW (C := cx B0 old) en57_len
    rw [List.length_set] at e3
    cases e3
    obtain ⟨b4, o4, e4, hL2⟩ := ((g3 [] (GM' ++ (GF' ++ H))).arr en57_len).ldF 4 3 (hmem _) rfl rfl rfl (sz rfl)
    cases e4
    have h := hQ x.seq true hck (by rw [hcl, hz]) (decide_eq_true hgt).symm _ _ G3 vM' GM' vF' GF' oC3 oM (by rw [if_pos rfl]; exact oF) (hrel true)
    repeat (first | refine Z0 ?_ | (refine ZR ?_; first | refine x1 ?_ | refine x2 ?_ | refine x8 ?_ | refine Z1 ?_ | refine Z2 ?_ | refine x3 fun _ => ?_ | refine x4 fun _ => ?_ | refine x5 fun _ => ?_ | refine Z3 fun _ => ?_ | refine Z4 fun _ => ?_) | refine ZC ?_)
    refine rt_st rfl rfl rfl rfl rfl (hst2 [_] _) ?_
    repeat (first | refine Z0 ?_ | (refine ZR ?_; first | refine x1 ?_ | refine x2 ?_ | refine x8 ?_ | refine Z1 ?_ | refine Z2 ?_ | refine x3 fun _ => ?_ | refine x4 fun _ => ?_ | refine x5 fun _ => ?_ | refine Z3 fun _ => ?_ | refine Z4 fun _ => ?_) | refine ZC ?_)
    exact re_2 rfl rfl rfl (List.Sublist.refl _) h
  · have h := hQ x.seq false hck (by rw [hcl, hz]) (decide_eq_false hgt).symm _ _ G2 vM' GM' _ GF oC2 oM (by rw [if_neg (by simp)]; exact hF) (hrel false)
    obtain ⟨ad3, c3, e3, g3⟩ := oC2.arrW (C := cx B0 old) en57_len
    rw [List.length_set] at e3
    cases e3
    obtain ⟨b4, o4, e4, hL2⟩ := ((g3 [] (GM' ++ (GF ++ H))).arr en57_len).ldF 4 3 (hmem _) rfl rfl rfl (sz rfl)
    cases e4
    repeat (first | refine Z0 ?_ | (refine ZR ?_; first | refine x1 ?_ | refine x2 ?_ | refine x8 ?_ | refine Z1 ?_ | refine Z2 ?_ | refine x3 fun _ => ?_ | refine x4 fun _ => ?_ | refine x5 fun _ => ?_ | refine Z3 fun _ => ?_ | refine Z4 fun _ => ?_) | refine ZC ?_)
    exact re_2 rfl rfl rfl (List.Sublist.refl _) h
end
end Go.Proofs.Ytoimfchhmocgeaa.Abs

/- The reference's Clear. -/
namespace Go.Proofs.Ytoimfchhmocgeaa.Abs
open Go
set_option linter.unusedVariables false
theorem flt_snoc {α : Type} (f : α → Bool) {A : List α} {i : Nat} {x : α} (hx : A[i]? = some x) : (A.take (i + 1)).filter f = (A.take i).filter f ++ if f x = true then [x] else [] := by
  have htk : A.take (i + 1) = A.take i ++ [x] := by rw [List.take_add_one, hx]; rfl
  rw [htk, List.filter_append]
  cases h : f x
  · rw [List.filter_cons_of_neg (by simp [h])]; rfl
  · rw [List.filter_cons_of_pos h]; rfl
theorem rk_e {q : Nat × AObj} {A B C M F H : Hp} : (q :: (C ++ (A ++ (B ++ (M ++ (F ++ H)))))).Perm (q :: (A ++ (B ++ (C ++ (M ++ (F ++ H)))))) :=
  pmF (fun i => match i with | 0 => [q] | 1 => A | 2 => B | _ => C) (a := [0, 3, 1, 2]) (b := [0, 1, 2, 3]) (by decide)
/-- The claim after Clear. -/
def clrC (cl : Option (Int × Bool)) : Option (Int × Bool) := match cl with
  | some (s, _) => some (s, false)
  | none => none
section
variable {B0 : Nat} {old : Nat → Option (List Value)} {n : Nat} {H HR GC GM GF : Hp} {Q : Value → Hp → Prop} {q : Nat} {lim win now : Int} {vC vM vF : Value} {Cl : List C57} {Ml : List M3} {Fl : List Kk} {cl : Kk → Option (Int × Bool)}
set_option maxRecDepth 10000
set_option maxHeartbeats 8000000
theorem clear32_ct (hC : Own en57 4 Cl vC GC) (hM : Own enM 3 Ml vM GM) (hF : Own enK 2 Fl vF GF) (hR : RelC Cl cl) (hlc : Cl.length ≤ 2000) (hl : Ml.length ≤ 2500) (hlf : Fl.length ≤ 2500) (K : Kk)
    (hno : K ∉ Fl → Q (.int .i64 8) ((q, AObj.row [.int .i64 lim, .int .i64 win, .int .i64 now, vC, vM, vF] 6 false) :: (GC ++ (GM ++ (GF ++ H)))))
    (hQ : K ∈ Fl → ∀ C' vC' GC' vM' GM' vF' GF', Own en57 4 C' vC' GC' → Own enM 3 (Ml.filter fun x => decide (kM x ≠ K)) vM' GM' → Own enK 2 (Fl.filter fun x => decide (x ≠ K)) vF' GF' → RelC C' (updF cl K (clrC (cl K))) →
      Q (.int .i64 0) ((q, AObj.row [.int .i64 lim, .int .i64 win, .int .i64 now, vC', vM', vF'] 6 false) :: (GC' ++ (GM' ++ (GF' ++ H))))) :
    CallT (cx B0 old) (acall (cx B0 old) ansP (n + 4)) 32 [.pointer (some ⟨q, 0, none⟩), .int .i64 K.bd, .int .u64 K.mac] ((q, AObj.row [.int .i64 lim, .int .i64 win, .int .i64 now, vC, vM, vF] 6 false) :: (GC ++ (GM ++ (GF ++ H)))) Q := by
  refine call_in3 109 rfl Try.func32 rfl rfl ?_
  obtain ⟨adC, cC, eC, gC⟩ := hC.arrW (C := cx B0 old) en57_len
  subst eC
  obtain ⟨adM, cM, eM, gM⟩ := hM.arrW (C := cx B0 old) enM_len
  subst eM
  obtain ⟨adF, cF, eF, gF⟩ := hF.arrW (C := cx B0 old) enK_len
  subst eF
  have hFz : Arr (cx B0 old) (GC ++ (GM ++ (GF ++ H))) adF 2 enK Fl := by
    have := (gF (GC ++ GM) H).arr enK_len
    rw [List.append_assoc] at this
    exact this
  have hMz : Arr (cx B0 old) (GC ++ (GM ++ (GF ++ H))) adM 3 enM Ml := (gM GC (GF ++ H)).arr enM_len
  have hA : Arr (cx B0 old) (GC ++ (GM ++ (GF ++ H))) adC 4 en57 Cl := (gC [] _).arr en57_len
  repeat (first | refine Z0 ?_ | (refine ZR ?_; first | refine x1 ?_ | refine x2 ?_ | refine x8 ?_ | refine Z1 ?_ | refine Z2 ?_ | refine x3 fun _ => ?_ | refine x4 fun _ => ?_ | refine x5 fun _ => ?_ | refine Z3 fun _ => ?_ | refine Z4 fun _ => ?_) | refine ZC ?_)
  refine rt_step rfl rfl rfl (st_call rfl rfl rfl rfl (rfrozen58_ct hFz (by omega) K ?_))
  by_cases hmem : K ∈ Fl
  rotate_left
  · rw [decide_eq_false hmem]
    repeat (first | refine Z0 ?_ | (refine ZR ?_; first | refine x1 ?_ | refine x2 ?_ | refine x8 ?_ | refine Z1 ?_ | refine Z2 ?_ | refine x3 fun _ => ?_ | refine x4 fun _ => ?_ | refine x5 fun _ => ?_ | refine Z3 fun _ => ?_ | refine Z4 fun _ => ?_) | refine ZC ?_)
    exact re_1 rfl rfl (List.Sublist.refl _) (hno hmem)
  rw [decide_eq_true hmem]
  replace hQ := hQ hmem
  clear hno hmem
  repeat (first | refine Z0 ?_ | (refine ZR ?_; first | refine x1 ?_ | refine x2 ?_ | refine x8 ?_ | refine Z1 ?_ | refine Z2 ?_ | refine x3 fun _ => ?_ | refine x4 fun _ => ?_ | refine x5 fun _ => ?_ | refine Z3 fun _ => ?_ | refine Z4 fun _ => ?_) | refine ZC ?_)
  refine loop_ind (ι := Nat × Value × Hp) (0, .slice none 0 0, []) (fun i => Fl.length - i.1) (fun i => i.1 ≤ Fl.length ∧ Own enK 2 ((Fl.take i.1).filter fun x => decide (x ≠ K)) i.2.1 i.2.2)
    (fun i => [(8, .int .i64 (i.1 : Int)), (7, i.2.1), (0, .pointer (some ⟨q, 0, none⟩)), (1, .int .i64 K.bd), (2, .int .u64 K.mac)])
    (fun i => (q, AObj.row [.int .i64 lim, .int .i64 win, .int .i64 now, .slice adC Cl.length cC, .slice adM Ml.length cM, .slice adF Fl.length cF] 6 false) :: (i.2.2 ++ (GC ++ (GM ++ (GF ++ H))))) ⟨Nat.zero_le _, Own.nil⟩ (by repeat (first | exact SubL.nil | refine SubL.cons rfl ?_)) (List.Sublist.refl _) ?_
  rintro ⟨i, v, G⟩ ⟨hi, ho⟩
  dsimp only at hi ho ⊢
  repeat (first | refine Z0 ?_ | (refine ZR ?_; first | refine x1 ?_ | refine x2 ?_ | refine x8 ?_ | refine Z1 ?_ | refine Z2 ?_ | refine x3 fun _ => ?_ | refine x4 fun _ => ?_ | refine x5 fun _ => ?_ | refine Z3 fun _ => ?_ | refine Z4 fun _ => ?_) | refine ZC ?_)
  refine ct_condT te_d rfl (fun hil => ?_) (fun hil => ?_)
  · obtain ⟨x, hx⟩ : ∃ x, Fl[i]? = some x := ⟨_, List.getElem?_eq_getElem (by omega)⟩
    have hst := flt_snoc (fun x : Kk => decide (x ≠ K)) hx
    have hlf2 : ((Fl.take i).filter fun x => decide (x ≠ K)).length ≤ 2500 := Nat.le_trans (List.length_filter_le _ _) (by rw [List.length_take]; omega)
    obtain ⟨b1, o1, e1, hL0⟩ := hFz.ldW 122 hx rfl (sz rfl)
    subst e1
    have hs := eqM x K
    unfold enK at hL0 hs
    obtain ⟨av, cv, ev, _⟩ := ho.arrW (C := cx B0 old) enK_len
    subst ev
    repeat (first | refine Z0 ?_ | (refine ZR ?_; first | refine x1 ?_ | refine x2 ?_ | refine x8 ?_ | refine Z1 ?_ | refine Z2 ?_ | refine x3 fun _ => ?_ | refine x4 fun _ => ?_ | refine x5 fun _ => ?_ | refine Z3 fun _ => ?_ | refine Z4 fun _ => ?_) | refine ZC ?_)
    refine ct_condT te_d ((rfl : _ = some (Value.bool (!leafsEq [.int .i64 x.bd, .int .u64 x.mac] [.int .i64 K.bd, .int .u64 K.mac]))).trans (by rw [hs, ← decide_not])) (fun hk => ?_) (fun hk => ?_)
    · rw [if_pos (decide_eq_true hk)] at hst
      repeat (first | refine Z0 ?_ | (refine ZR ?_; first | refine x1 ?_ | refine x2 ?_ | refine x8 ?_ | refine Z1 ?_ | refine Z2 ?_ | refine x3 fun _ => ?_ | refine x4 fun _ => ?_ | refine x5 fun _ => ?_ | refine Z3 fun _ => ?_ | refine Z4 fun _ => ?_) | refine ZC ?_)
      refine rt_step rfl rfl rfl (st_appP (M := [x]) (c := 1) (pre := [_, _]) ho enK_len enK_one rfl rfl (ap rfl) (arrW_one (a := x) enK_len hm0) (Nat.le_trans (Nat.mul_le_mul_right _ (show 2 * (((Fl.take i).filter fun x => decide (x ≠ K)).length + [x].length) + 192 ≤ 6000 by simp only [List.length_singleton]; omega)) (by decide)) fun v2 G2 o2 => ?_)
      repeat (first | refine Z0 ?_ | (refine ZR ?_; first | refine x1 ?_ | refine x2 ?_ | refine x8 ?_ | refine Z1 ?_ | refine Z2 ?_ | refine x3 fun _ => ?_ | refine x4 fun _ => ?_ | refine x5 fun _ => ?_ | refine Z3 fun _ => ?_ | refine Z4 fun _ => ?_) | refine ZC ?_)
      exact ⟨(i + 1, v2, G2), ⟨by omega, by dsimp only; rw [hst]; exact o2⟩, by dsimp only; omega, by repeat (first | exact SubL.nil | refine SubL.cons rfl ?_), by exact drop_auto⟩
    · rw [if_neg (by simpa using hk), List.append_nil] at hst
      repeat (first | refine Z0 ?_ | (refine ZR ?_; first | refine x1 ?_ | refine x2 ?_ | refine x8 ?_ | refine Z1 ?_ | refine Z2 ?_ | refine x3 fun _ => ?_ | refine x4 fun _ => ?_ | refine x5 fun _ => ?_ | refine Z3 fun _ => ?_ | refine Z4 fun _ => ?_) | refine ZC ?_)
      exact ⟨(i + 1, _, G), ⟨by omega, by dsimp only; rw [hst]; exact ho⟩, by dsimp only; omega, by repeat (first | exact SubL.nil | refine SubL.cons rfl ?_), List.Sublist.refl _⟩
  obtain rfl : i = Fl.length := by omega
  rw [List.take_length] at ho
  obtain ⟨avf, cvf, evf, _⟩ := ho.arrW (C := cx B0 old) enK_len
  subst evf
  have hof := ho
  clear hi hil ho
  repeat (first | refine Z0 ?_ | (refine ZR ?_; first | refine x1 ?_ | refine x2 ?_ | refine x8 ?_ | refine Z1 ?_ | refine Z2 ?_ | refine x3 fun _ => ?_ | refine x4 fun _ => ?_ | refine x5 fun _ => ?_ | refine Z3 fun _ => ?_ | refine Z4 fun _ => ?_) | refine ZC ?_)
  refine loop_ind (ι := Nat × Value × Hp) (0, .slice none 0 0, []) (fun i => Ml.length - i.1) (fun i => i.1 ≤ Ml.length ∧ Own enM 3 ((Ml.take i.1).filter fun x => decide (kM x ≠ K)) i.2.1 i.2.2)
    (fun i => [(10, .int .i64 (i.1 : Int)), (9, i.2.1), (7, .slice avf (Fl.filter fun x => decide (x ≠ K)).length cvf), (0, .pointer (some ⟨q, 0, none⟩)), (1, .int .i64 K.bd), (2, .int .u64 K.mac)])
    (fun i => (q, AObj.row [.int .i64 lim, .int .i64 win, .int .i64 now, .slice adC Cl.length cC, .slice adM Ml.length cM, .slice adF Fl.length cF] 6 false) :: (i.2.2 ++ (G ++ (GC ++ (GM ++ (GF ++ H)))))) ⟨Nat.zero_le _, Own.nil⟩ (by repeat (first | exact SubL.nil | refine SubL.cons rfl ?_)) (List.Sublist.refl _) ?_
  rintro ⟨i, v, Gm⟩ ⟨hi, ho⟩
  dsimp only at hi ho ⊢
  repeat (first | refine Z0 ?_ | (refine ZR ?_; first | refine x1 ?_ | refine x2 ?_ | refine x8 ?_ | refine Z1 ?_ | refine Z2 ?_ | refine x3 fun _ => ?_ | refine x4 fun _ => ?_ | refine x5 fun _ => ?_ | refine Z3 fun _ => ?_ | refine Z4 fun _ => ?_) | refine ZC ?_)
  refine ct_condT te_d rfl (fun hil => ?_) (fun hil => ?_)
  · obtain ⟨x, hx⟩ : ∃ x, Ml[i]? = some x := ⟨_, List.getElem?_eq_getElem (by omega)⟩
    have hst := flt_snoc (fun x : M3 => decide (kM x ≠ K)) hx
    have hlm2 : ((Ml.take i).filter fun x => decide (kM x ≠ K)).length ≤ 2500 := Nat.le_trans (List.length_filter_le _ _) (by rw [List.length_take]; omega)
    obtain ⟨b1, o1, e1, hL0⟩ := hMz.ldF 3 0 hx rfl rfl rfl (sz rfl)
    obtain ⟨b2, o2, e2, hL1⟩ := hMz.ldF 25 1 hx rfl rfl rfl (sz rfl)
    obtain ⟨b3, o3, e3, hL2⟩ := hMz.ldW 124 hx rfl (sz rfl)
    subst e1
    cases e2
    cases e3
    unfold enM at hL2
    obtain ⟨av, cv, ev, _⟩ := ho.arrW (C := cx B0 old) enM_len
    subst ev
    repeat (first | refine Z0 ?_ | (refine ZR ?_; first | refine x1 ?_ | refine x2 ?_ | refine x8 ?_ | refine Z1 ?_ | refine Z2 ?_ | refine x3 fun _ => ?_ | refine x4 fun _ => ?_ | refine x5 fun _ => ?_ | refine Z3 fun _ => ?_ | refine Z4 fun _ => ?_) | refine ZC ?_)
    refine rt_midE (ι := Bool) (fun b => b = decide (kM x ≠ K)) (fun b => [(77, .bool b), (10, .int .i64 (i : Int)), (9, .slice av ((Ml.take i).filter fun x => decide (kM x ≠ K)).length cv), (7, .slice avf (Fl.filter fun x => decide (x ≠ K)).length cvf), (0, .pointer (some ⟨q, 0, none⟩)), (1, .int .i64 K.bd), (2, .int .u64 K.mac)])
      (fun _ => (q, AObj.row [.int .i64 lim, .int .i64 win, .int .i64 now, .slice adC Cl.length cC, .slice (some ⟨b1, o1, none⟩) Ml.length cM, .slice adF Fl.length cF] 6 false) :: (Gm ++ (G ++ (GC ++ (GM ++ (GF ++ H)))))) ?_ ?_
    · by_cases h0 : x.bd = K.bd
      · rw [show (x.bd != K.bd) = false by simp [h0]]
        repeat (first | refine Z0 ?_ | (refine ZR ?_; first | refine x1 ?_ | refine x2 ?_ | refine x8 ?_ | refine Z1 ?_ | refine Z2 ?_ | refine x3 fun _ => ?_ | refine x4 fun _ => ?_ | refine x5 fun _ => ?_ | refine Z3 fun _ => ?_ | refine Z4 fun _ => ?_) | refine ZC ?_)
        refine ⟨x.mac != K.mac, ?_, by repeat (first | exact SubL.nil | refine SubL.cons rfl ?_), List.Sublist.refl _⟩
        by_cases h1 : x.mac = K.mac
        · have hne : ¬ kM x ≠ K := fun g => g (KkM.eta h0 h1)
          rw [decide_eq_false hne]; simp [h1]
        · have hne : kM x ≠ K := fun g => h1 (by rw [← g]; rfl)
          rw [decide_eq_true hne]; simp [h1]
      · rw [show (x.bd != K.bd) = true by simp [h0]]
        repeat (first | refine Z0 ?_ | (refine ZR ?_; first | refine x1 ?_ | refine x2 ?_ | refine x8 ?_ | refine Z1 ?_ | refine Z2 ?_ | refine x3 fun _ => ?_ | refine x4 fun _ => ?_ | refine x5 fun _ => ?_ | refine Z3 fun _ => ?_ | refine Z4 fun _ => ?_) | refine ZC ?_)
        have hne : kM x ≠ K := fun g => h0 (by rw [← g]; rfl)
        exact ⟨true, (decide_eq_true hne).symm, by repeat (first | exact SubL.nil | refine SubL.cons rfl ?_), List.Sublist.refl _⟩
    rintro (_ | _) hb
    · rw [if_neg (by rw [← hb]; simp), List.append_nil] at hst
      repeat (first | refine Z0 ?_ | (refine ZR ?_; first | refine x1 ?_ | refine x2 ?_ | refine x8 ?_ | refine Z1 ?_ | refine Z2 ?_ | refine x3 fun _ => ?_ | refine x4 fun _ => ?_ | refine x5 fun _ => ?_ | refine Z3 fun _ => ?_ | refine Z4 fun _ => ?_) | refine ZC ?_)
      exact ⟨(i + 1, _, Gm), ⟨by omega, by dsimp only; rw [hst]; exact ho⟩, by dsimp only; omega, by repeat (first | exact SubL.nil | refine SubL.cons rfl ?_), List.Sublist.refl _⟩
    · rw [if_pos hb.symm] at hst
      repeat (first | refine Z0 ?_ | (refine ZR ?_; first | refine x1 ?_ | refine x2 ?_ | refine x8 ?_ | refine Z1 ?_ | refine Z2 ?_ | refine x3 fun _ => ?_ | refine x4 fun _ => ?_ | refine x5 fun _ => ?_ | refine Z3 fun _ => ?_ | refine Z4 fun _ => ?_) | refine ZC ?_)
      refine rt_step rfl rfl rfl (st_appP (M := [x]) (c := 1) (pre := [_, _]) ho enM_len enM_one rfl rfl (ap rfl) (arrW_one (a := x) enM_len hm0) (Nat.le_trans (Nat.mul_le_mul_right _ (show 2 * (((Ml.take i).filter fun x => decide (kM x ≠ K)).length + [x].length) + 192 ≤ 6000 by simp only [List.length_singleton]; omega)) (by decide)) fun v2 G2 o2 => ?_)
      repeat (first | refine Z0 ?_ | (refine ZR ?_; first | refine x1 ?_ | refine x2 ?_ | refine x8 ?_ | refine Z1 ?_ | refine Z2 ?_ | refine x3 fun _ => ?_ | refine x4 fun _ => ?_ | refine x5 fun _ => ?_ | refine Z3 fun _ => ?_ | refine Z4 fun _ => ?_) | refine ZC ?_)
      exact ⟨(i + 1, v2, G2), ⟨by omega, by dsimp only; rw [hst]; exact o2⟩, by dsimp only; omega, by repeat (first | exact SubL.nil | refine SubL.cons rfl ?_), by exact drop_auto⟩
  obtain rfl : i = Ml.length := by omega
  rw [List.take_length] at ho
  obtain ⟨avm, cvm, evm, _⟩ := ho.arrW (C := cx B0 old) enM_len
  subst evm
  clear hi hil
  repeat (first | refine Z0 ?_ | (refine ZR ?_; first | refine x1 ?_ | refine x2 ?_ | refine x8 ?_ | refine Z1 ?_ | refine Z2 ?_ | refine x3 fun _ => ?_ | refine x4 fun _ => ?_ | refine x5 fun _ => ?_ | refine Z3 fun _ => ?_ | refine Z4 fun _ => ?_) | refine ZC ?_)
  have hA2 : Arr (cx B0 old) (Gm ++ (G ++ (GC ++ (GM ++ (GF ++ H))))) adC 4 en57 Cl := hA.weak ((List.sublist_append_right G _).trans (List.sublist_append_right Gm _))
  refine rt_step rfl rfl rfl (st_call rfl rfl rfl rfl (rclaim56_ct hA2 (by omega) K (fun i x hx hk => ?_) (fun hno => ?_)))
  · have hcl : cl K = some (x.seq, x.fz) := by rw [← hk]; exact (hR.2.1 x (List.mem_iff_getElem?.2 ⟨i, hx⟩)).2
    have hil : i < Cl.length := (List.getElem?_eq_some_iff.1 hx).1
    obtain ⟨G2, oC2, bb, cb, eb, hst1⟩ := hC.set (C := cx B0 old) (t := 4) (f := 3) (a' := ⟨x.bd, x.mac, x.seq, false⟩) (u := .bool false) en57_len hx (sz rfl) rfl rfl
    cases eb
    have hrel : RelC (Cl.set i ⟨x.bd, x.mac, x.seq, false⟩) (updF cl K (clrC (cl K))) := by
      rw [hcl]
      exact rel_set (z := ⟨x.bd, x.mac, x.seq, false⟩) hR hx hk hk
    repeat (first | refine Z0 ?_ | (refine ZR ?_; first | refine x1 ?_ | refine x2 ?_ | refine x8 ?_ | refine Z1 ?_ | refine Z2 ?_ | refine x3 fun _ => ?_ | refine x4 fun _ => ?_ | refine x5 fun _ => ?_ | refine Z3 fun _ => ?_ | refine Z4 fun _ => ?_) | refine ZC ?_)
    rw [show decide ((i : Int) ≥ 0) = true from decide_eq_true (by omega)]
    repeat (first | refine Z0 ?_ | (refine ZR ?_; first | refine x1 ?_ | refine x2 ?_ | refine x8 ?_ | refine Z1 ?_ | refine Z2 ?_ | refine x3 fun _ => ?_ | refine x4 fun _ => ?_ | refine x5 fun _ => ?_ | refine Z3 fun _ => ?_ | refine Z4 fun _ => ?_) | refine ZC ?_)
    refine RunT.perm ?_ (rk_e (A := Gm) (B := G) (C := GC))
    refine rt_st rfl rfl rfl rfl rfl (hst1 [_] _) ?_
    repeat (first | refine Z0 ?_ | (refine ZR ?_; first | refine x1 ?_ | refine x2 ?_ | refine x8 ?_ | refine Z1 ?_ | refine Z2 ?_ | refine x3 fun _ => ?_ | refine x4 fun _ => ?_ | refine x5 fun _ => ?_ | refine Z3 fun _ => ?_ | refine Z4 fun _ => ?_) | refine ZC ?_)
    exact re_1 rfl rfl (by exact drop_auto) (hQ _ _ G2 _ Gm _ G oC2 ho hof hrel)
  · have hcl := rel_no hR hno
    have hrel : RelC Cl (updF cl K (clrC (cl K))) := by
      have h1 := updF_self cl K
      rw [hcl] at h1 ⊢
      rw [show clrC none = none from rfl, h1]
      exact hR
    refine RunT.perm ?_ (rk_e (A := Gm) (B := G) (C := GC))
    repeat (first | refine Z0 ?_ | (refine ZR ?_; first | refine x1 ?_ | refine x2 ?_ | refine x8 ?_ | refine Z1 ?_ | refine Z2 ?_ | refine x3 fun _ => ?_ | refine x4 fun _ => ?_ | refine x5 fun _ => ?_ | refine Z3 fun _ => ?_ | refine Z4 fun _ => ?_) | refine ZC ?_)
    exact re_1 rfl rfl (by exact drop_auto) (hQ _ _ GC _ Gm _ G hC ho hof hrel)
end
end Go.Proofs.Ytoimfchhmocgeaa.Abs

/- The reference's Copy; copies of slices. -/
namespace Go.Proofs.Ytoimfchhmocgeaa.Abs
open Go
set_option linter.unusedVariables false
theorem rk_f {q : Nat × AObj} {A B C H : Hp} : (q :: (C ++ (B ++ (A ++ H)))).Perm (A ++ (B ++ (C ++ (q :: H)))) :=
  pmF (fun i => match i with | 0 => [q] | 1 => A | 2 => B | _ => C) (a := [0, 3, 2, 1]) (b := [1, 2, 3, 0]) (by decide)
theorem late_2 {C : Ctx} {nt : Nat} {ops : Array Oper} {l : Sl} {E masks r : List Nat} (x y : Nat) (hE : E = [x, y]) (h1 : Made C ops l x) (h2 : Made C ops l y) : LateT C nt ops E masks r l := by
  subst hE
  exact late_all fun z hz => .inr (by
    rcases List.mem_cons.1 hz with rfl | hz
    · exact h1
    · rw [List.mem_singleton.1 hz]; exact h2)
section
variable {B0 : Nat} {old : Nat → Option (List Value)} {n : Nat} {H HR GC GM GF : Hp} {Q : Value → Hp → Prop} {q : Nat} {lim win now : Int} {vC vM vF : Value} {Cl : List C57} {Ml : List M3} {Fl : List Kk} {cl : Kk → Option (Int × Bool)}
set_option maxRecDepth 10000
set_option maxHeartbeats 8000000
theorem own35_ct {ad : Option Addr} {c : Nat} {A : List N59} (hA : ArrW (cx B0 old) H ad 6 en59 A) (hl : A.length ≤ 1000) (hQ : ∀ v G, Own en59 6 A v G → Q v (G ++ H)) : CallT (cx B0 old) (acall (cx B0 old) ansP (n + 1)) 35 [.slice ad A.length c] H Q := by
  refine call_in1 6 rfl Try.func35 rfl rfl ?_
  repeat (first | refine Z0 ?_ | (refine ZR ?_; first | refine x1 ?_ | refine x2 ?_ | refine x8 ?_ | refine Z1 ?_ | refine Z2 ?_ | refine x3 fun _ => ?_ | refine x4 fun _ => ?_ | refine x5 fun _ => ?_ | refine Z3 fun _ => ?_ | refine Z4 fun _ => ?_) | refine ZC ?_)
  refine rt_step rfl rfl rfl (st_appO (M := A) (c := c) (pre := []) (Hs := [_]) (Own.emp _ _) en59_len en59_one rfl rfl (ap rfl) (hA.weak (List.sublist_cons_self _ _)) (Nat.le_trans (Nat.mul_le_mul_right _ (show 2 * (([] : List N59).length + A.length) + 192 ≤ 6000 by rw [List.length_nil]; omega)) (by decide)) fun v3 H3 ho3 => ?_)
  repeat (first | refine Z0 ?_ | (refine ZR ?_; first | refine x1 ?_ | refine x2 ?_ | refine x8 ?_ | refine Z1 ?_ | refine Z2 ?_ | refine x3 fun _ => ?_ | refine x4 fun _ => ?_ | refine x5 fun _ => ?_ | refine Z3 fun _ => ?_ | refine Z4 fun _ => ?_) | refine ZC ?_)
  exact re_1 rfl rfl (List.Sublist.refl _) (hQ _ _ ho3)
theorem own36_ct {ad : Option Addr} {c : Nat} {A : List S27} (hA : ArrW (cx B0 old) H ad 5 en27 A) (hl : A.length ≤ 1000) (hQ : ∀ v G, Own en27 5 A v G → Q v (G ++ H)) : CallT (cx B0 old) (acall (cx B0 old) ansP (n + 1)) 36 [.slice ad A.length c] H Q := by
  refine call_in1 6 rfl Try.func36 rfl rfl ?_
  repeat (first | refine Z0 ?_ | (refine ZR ?_; first | refine x1 ?_ | refine x2 ?_ | refine x8 ?_ | refine Z1 ?_ | refine Z2 ?_ | refine x3 fun _ => ?_ | refine x4 fun _ => ?_ | refine x5 fun _ => ?_ | refine Z3 fun _ => ?_ | refine Z4 fun _ => ?_) | refine ZC ?_)
  refine rt_step rfl rfl rfl (st_appO (M := A) (c := c) (pre := []) (Hs := [_]) (Own.emp _ _) en27_len en27_one rfl rfl (ap rfl) (hA.weak (List.sublist_cons_self _ _)) (Nat.le_trans (Nat.mul_le_mul_right _ (show 2 * (([] : List S27).length + A.length) + 192 ≤ 6000 by rw [List.length_nil]; omega)) (by decide)) fun v3 H3 ho3 => ?_)
  repeat (first | refine Z0 ?_ | (refine ZR ?_; first | refine x1 ?_ | refine x2 ?_ | refine x8 ?_ | refine Z1 ?_ | refine Z2 ?_ | refine x3 fun _ => ?_ | refine x4 fun _ => ?_ | refine x5 fun _ => ?_ | refine Z3 fun _ => ?_ | refine Z4 fun _ => ?_) | refine ZC ?_)
  exact re_1 rfl rfl (List.Sublist.refl _) (hQ _ _ ho3)
theorem copy34_ct (hC : Own en57 4 Cl vC GC) (hM : Own enM 3 Ml vM GM) (hF : Own enK 2 Fl vF GF) (hlc : Cl.length ≤ 2000) (hl : Ml.length ≤ 2500) (hlf : Fl.length ≤ 2500)
    (hQ : ∀ q' vC' GC' vM' GM' vF' GF', Own en57 4 Cl vC' GC' → Own enM 3 Ml vM' GM' → Own enK 2 Fl vF' GF' → Q (.pointer (some ⟨q', 0, none⟩))
      ((q', AObj.row [.int .i64 lim, .int .i64 win, .int .i64 now, vC', vM', vF'] 6 false) :: (GC' ++ (GM' ++ (GF' ++ H))))) :
    CallT (cx B0 old) (acall (cx B0 old) ansP (n + 1)) 34 [.pointer (some ⟨q, 0, none⟩)] ((q, AObj.row [.int .i64 lim, .int .i64 win, .int .i64 now, vC, vM, vF] 6 false) :: (GC ++ (GM ++ (GF ++ H)))) Q := by
  refine call_in1 28 rfl Try.func34 rfl rfl ?_
  obtain ⟨adC, cC, eC, gC⟩ := hC.arrW (C := cx B0 old) en57_len
  subst eC
  obtain ⟨adM, cM, eM, gM⟩ := hM.arrW (C := cx B0 old) enM_len
  subst eM
  obtain ⟨adF, cF, eF, gF⟩ := hF.arrW (C := cx B0 old) enK_len
  subst eF
  repeat (first | refine Z0 ?_ | (refine ZR ?_; first | refine x1 ?_ | refine x2 ?_ | refine x8 ?_ | refine Z1 ?_ | refine Z2 ?_ | refine x3 fun _ => ?_ | refine x4 fun _ => ?_ | refine x5 fun _ => ?_ | refine Z3 fun _ => ?_ | refine Z4 fun _ => ?_) | refine ZC ?_)
  refine ct_draw (masks := [0, 0, 2, 6, 14, 31, 0, 0, 128, 384, 896, 2047, 0, 0, 8192, 24576, 57344, 131071, 262143, 524287, 1048575, 2097151, 4194303, 8388607]) (plan := [1, 2, 3, 4, 7, 8, 9, 10, 13, 14, 15, 16, 0, 5, 6, 11, 12, 17, 18, 19, 20, 21, 22, 23]) (E := [6, 12]) (by kernel_rfl) (by kernel_rfl) (by kernel_rfl) (by kernel_rfl) ?_
  repeat (first | refine Y0 ?_ | (refine YP ?_; first | refine y1 ?_ | refine y2 ?_ | refine Y1 ?_ | refine Y2 ?_))
  rename_i q2
  have hCs := fun (G : Hp) (X : Nat × AObj) => (gC (X :: G) (GM ++ (GF ++ H)))
  have hwC : ∀ X, (GC ++ (GM ++ (GF ++ H))).Sublist X → ArrW (cx B0 old) X adC 4 en57 Cl := fun X h => (gC [] (GM ++ (GF ++ H))).weak h
  have hwM : ∀ X, (GC ++ (GM ++ (GF ++ H))).Sublist X → ArrW (cx B0 old) X adM 3 enM Ml := fun X h => (gM GC (GF ++ H)).weak h
  have hwF : ∀ X, (GC ++ (GM ++ (GF ++ H))).Sublist X → ArrW (cx B0 old) X adF 2 enK Fl := fun X h => by
    have := gF (GC ++ GM) H
    rw [List.append_assoc] at this
    exact this.weak h
  clear hCs
  refine pl_S' (late_2 6 12 rfl (made_slice rfl rfl rfl (zr rfl) rfl rfl rfl rfl rfl rfl) (made_slice rfl rfl rfl (zr rfl) rfl rfl rfl rfl rfl rfl)) rfl rfl rfl rfl rfl rfl (st_buildSlice rfl (zr rfl) rfl rfl rfl rfl rfl rfl fun b0 => ⟨by exact rec_auto, ?_⟩)
  refine pl_S' (late_2 6 12 rfl (made_slice rfl rfl rfl (zr rfl) rfl rfl rfl rfl rfl rfl) (made_slice rfl rfl rfl (zr rfl) rfl rfl rfl rfl rfl rfl)) rfl rfl rfl rfl rfl rfl (st_appO (M := Cl) (c := cC) (pre := []) (Hs := [_]) (Own.emp _ _) en57_len en57_one rfl rfl (ap rfl) (hwC _ (by exact drop_auto)) (Nat.le_trans (Nat.mul_le_mul_right _ (show 2 * (([] : List C57).length + Cl.length) + 192 ≤ 6000 by rw [List.length_nil]; omega)) (by decide)) fun v3 H3 ho3 => ⟨by exact rec_auto, ?_⟩)
  refine pl_S' (late_2 6 12 rfl (made_slice rfl rfl rfl (zr rfl) rfl rfl rfl rfl rfl rfl) (made_slice rfl rfl rfl (zr rfl) rfl rfl rfl rfl rfl rfl)) rfl rfl rfl rfl rfl rfl (st_buildSlice rfl (zr rfl) rfl rfl rfl rfl rfl rfl fun b1 => ⟨by exact rec_auto, ?_⟩)
  refine pl_S' (late_2 6 12 rfl (made_slice rfl rfl rfl (zr rfl) rfl rfl rfl rfl rfl rfl) (made_slice rfl rfl rfl (zr rfl) rfl rfl rfl rfl rfl rfl)) rfl rfl rfl rfl rfl rfl (st_appO (M := Ml) (c := cM) (pre := []) (Hs := [_]) (Own.emp _ _) enM_len enM_one rfl rfl (ap rfl) (hwM _ (by exact drop_auto)) (Nat.le_trans (Nat.mul_le_mul_right _ (show 2 * (([] : List M3).length + Ml.length) + 192 ≤ 6000 by rw [List.length_nil]; omega)) (by decide)) fun v4 H4 ho4 => ⟨by exact rec_auto, ?_⟩)
  refine pl_S' (late_2 6 12 rfl (made_slice rfl rfl rfl (zr rfl) rfl rfl rfl rfl rfl rfl) (made_slice rfl rfl rfl (zr rfl) rfl rfl rfl rfl rfl rfl)) rfl rfl rfl rfl rfl rfl (st_buildSlice rfl (zr rfl) rfl rfl rfl rfl rfl rfl fun b2 => ⟨by exact rec_auto, ?_⟩)
  refine pl_S' (late_2 6 12 rfl (made_slice rfl rfl rfl (zr rfl) rfl rfl rfl rfl rfl rfl) (made_slice rfl rfl rfl (zr rfl) rfl rfl rfl rfl rfl rfl)) rfl rfl rfl rfl rfl rfl (st_appO (M := Fl) (c := cF) (pre := []) (Hs := [_]) (Own.emp _ _) enK_len enK_one rfl rfl (ap rfl) (hwF _ (by exact drop_auto)) (Nat.le_trans (Nat.mul_le_mul_right _ (show 2 * (([] : List Kk).length + Fl.length) + 192 ≤ 6000 by rw [List.length_nil]; omega)) (by decide)) fun v5 H5 ho5 => ⟨by exact rec_auto, ?_⟩)
  have ho3' := ho3
  have ho4' := ho4
  have ho5' := ho5
  obtain ⟨ad3, c3, rfl, _⟩ := ho3.arrW (C := cx B0 old) en57_len
  obtain ⟨ad4, c4, rfl, _⟩ := ho4.arrW (C := cx B0 old) enM_len
  obtain ⟨ad5, c5, rfl, _⟩ := ho5.arrW (C := cx B0 old) enK_len
  refine PlanT.perm ?_ (rk_f (A := H5) (B := H4) (C := H3))
  repeat (first | refine Y0 ?_ | (refine YP ?_; first | refine y1 ?_ | refine y2 ?_ | refine Y1 ?_ | refine Y2 ?_))
  refine pl_st' (late_no rfl) rfl rfl rfl rfl rfl rfl rfl rfl (by repeat (first | exact sV (sz rfl) rfl rfl | exact sW (sz rfl) rfl rfl rfl | exact sF (sz rfl) rfl rfl rfl | exact sG (sz rfl) rfl rfl | exact sM (f := vV) (sz rfl) rfl rfl (by omega) | exact sM (sz rfl) rfl rfl (by omega) | apply sS | apply sA)) (by exact rec_auto) ?_
  repeat (first | refine Y0 ?_ | (refine YP ?_; first | refine y1 ?_ | refine y2 ?_ | refine Y1 ?_ | refine Y2 ?_))
  refine pl_st' (late_no rfl) rfl rfl rfl rfl rfl rfl rfl rfl (by repeat (first | exact sV (sz rfl) rfl rfl | exact sW (sz rfl) rfl rfl rfl | exact sF (sz rfl) rfl rfl rfl | exact sG (sz rfl) rfl rfl | exact sM (f := vV) (sz rfl) rfl rfl (by omega) | exact sM (sz rfl) rfl rfl (by omega) | apply sS | apply sA)) (by exact rec_auto) ?_
  repeat (first | refine Y0 ?_ | (refine YP ?_; first | refine y1 ?_ | refine y2 ?_ | refine Y1 ?_ | refine Y2 ?_))
  refine pl_st' (late_no rfl) rfl rfl rfl rfl rfl rfl rfl rfl (by repeat (first | exact sV (sz rfl) rfl rfl | exact sW (sz rfl) rfl rfl rfl | exact sF (sz rfl) rfl rfl rfl | exact sG (sz rfl) rfl rfl | exact sM (f := vV) (sz rfl) rfl rfl (by omega) | exact sM (sz rfl) rfl rfl (by omega) | apply sS | apply sA)) (by exact rec_auto) ?_
  repeat (first | refine Y0 ?_ | (refine YP ?_; first | refine y1 ?_ | refine y2 ?_ | refine Y1 ?_ | refine Y2 ?_))
  repeat (first | refine Z0 ?_ | (refine ZR ?_; first | refine x1 ?_ | refine x2 ?_ | refine x8 ?_ | refine Z1 ?_ | refine Z2 ?_ | refine x3 fun _ => ?_ | refine x4 fun _ => ?_ | refine x5 fun _ => ?_ | refine Z3 fun _ => ?_ | refine Z4 fun _ => ?_) | refine ZC ?_)
  exact re_1 rfl rfl (by exact drop_auto) (hQ q2 _ H3 _ H4 _ H5 ho3' ho4' ho5')
end
end Go.Proofs.Ytoimfchhmocgeaa.Abs

/- The book and the reference's book agree: plain. -/
namespace Go.Proofs.Ytoimfchhmocgeaa.Abs
open Go
set_option linter.unusedVariables false
def ofK (k : Kk) (M : List M3) : List M3 := M.filter fun x => decide (kM x = k)
theorem ofK_eq (k : Kk) (M : List M3) (t : Int) : ofK k (M ++ [⟨k.bd, k.mac, t⟩]) = ofK k M ++ [⟨k.bd, k.mac, t⟩] := by
  unfold ofK
  rw [List.filter_append, List.filter_cons_of_pos (by exact decide_eq_true rfl)]
  rfl
theorem ofK_ne {k j : Kk} (h : j ≠ k) (M : List M3) (t : Int) : ofK j (M ++ [⟨k.bd, k.mac, t⟩]) = ofK j M := by
  have hne : ¬ kM ⟨k.bd, k.mac, t⟩ = j := fun e => h e.symm
  unfold ofK
  rw [List.filter_append, List.filter_cons_of_neg (by simpa using hne)]
  simp
theorem cnt_of (win now : Int) (K : Kk) (M : List M3) : cntM win now K M = ((ofK K M).map (·.at')).countP (keepT (now - win)) := by
  unfold cntM ofK
  rw [List.countP_map, List.countP_filter, List.countP_eq_length_filter]
  congr 1
  refine List.filter_congr fun x _ => ?_
  unfold keepT
  by_cases h1 : kM x = K
  · simp only [h1, true_and, decide_true, Bool.and_true]
    show decide (x.at' > now - win) = !decide (x.at' ≤ now - win)
    rw [← decide_not]
    exact decide_eq_decide.2 ⟨fun _ => by omega, fun _ => by omega⟩
  · simp [h1]
/-- What the reference does with one address, seen by that address alone. -/
def refP (lim win now : Int) (cl : Option (Int × Bool)) (Mk : List M3) (f : Bool) (K : Kk) (self : Int) (r : S27) : Option (Int × Bool) × List M3 × Bool × Bool :=
  if clF cl = true then (cl, Mk, f, false)
  else if contB cl r = true ∧ f = true then (cl, Mk, f, true)
  else if contB cl r = true ∧ (cntM win now K (Mk ++ [⟨K.bd, K.mac, now⟩]) : Int) > lim then (cl, Mk ++ [⟨K.bd, K.mac, now⟩], true, true)
  else (decC (nextM (seqO cl) cl.isSome self r), if contB cl r = true then Mk ++ [⟨K.bd, K.mac, now⟩] else Mk, f, !(nextM (seqO cl) cl.isSome self r).2)
theorem ofK_of (k : Kk) (M : List M3) : ofK k (ofK k M) = ofK k M := by
  unfold ofK
  rw [List.filter_filter]
  simp
theorem cnt_ofK (win now : Int) (K : Kk) (M : List M3) : cntM win now K (ofK K M ++ [⟨K.bd, K.mac, now⟩]) = cntM win now K (M ++ [⟨K.bd, K.mac, now⟩]) := by
  rw [cnt_of, cnt_of, ofK_eq, ofK_eq, ofK_of]
theorem refK_P (lim win now : Int) (cl : Option (Int × Bool)) (M : List M3) (F : List Kk) (K : Kk) (self : Int) (r : S27) :
    (refK lim win now cl M F K self r).1 = (refP lim win now cl (ofK K M) (decide (K ∈ F)) K self r).1 ∧ ofK K (refK lim win now cl M F K self r).2.1 = (refP lim win now cl (ofK K M) (decide (K ∈ F)) K self r).2.1 ∧
    decide (K ∈ (refK lim win now cl M F K self r).2.2.1) = (refP lim win now cl (ofK K M) (decide (K ∈ F)) K self r).2.2.1 ∧ (refK lim win now cl M F K self r).2.2.2 = (refP lim win now cl (ofK K M) (decide (K ∈ F)) K self r).2.2.2 := by
  unfold refK refP
  rw [cnt_ofK]
  by_cases h1 : clF cl = true
  · rw [if_pos h1, if_pos h1]; exact ⟨rfl, rfl, rfl, rfl⟩
  rw [if_neg h1, if_neg h1]
  by_cases h2 : contB cl r = true ∧ K ∈ F
  · rw [if_pos h2, if_pos ⟨h2.1, decide_eq_true h2.2⟩]; exact ⟨rfl, rfl, rfl, rfl⟩
  have e2 : ¬ (contB cl r = true ∧ decide (K ∈ F) = true) := fun g => h2 ⟨g.1, of_decide_eq_true g.2⟩
  rw [if_neg h2, if_neg e2]
  by_cases h3 : contB cl r = true ∧ (cntM win now K (M ++ [⟨K.bd, K.mac, now⟩]) : Int) > lim
  · rw [if_pos h3, if_pos h3]
    exact ⟨rfl, ofK_eq _ _ _, decide_eq_true (by simp), rfl⟩
  rw [if_neg h3, if_neg h3]
  refine ⟨rfl, ?_, rfl, rfl⟩
  dsimp only
  by_cases h4 : contB cl r = true
  · rw [if_pos h4, if_pos h4]; exact ofK_eq _ _ _
  · rw [if_neg h4, if_neg h4]
theorem refK_ne (lim win now : Int) (cl : Option (Int × Bool)) (M : List M3) (F : List Kk) {K j : Kk} (h : j ≠ K) (self : Int) (r : S27) :
    ofK j (refK lim win now cl M F K self r).2.1 = ofK j M ∧ (j ∈ (refK lim win now cl M F K self r).2.2.1 ↔ j ∈ F) := by
  unfold refK
  split
  · exact ⟨rfl, Iff.rfl⟩
  · split
    · exact ⟨rfl, Iff.rfl⟩
    · split
      · exact ⟨ofK_ne h _ _, by simp [h]⟩
      · dsimp only
        split
        · exact ⟨ofK_ne h _ _, Iff.rfl⟩
        · exact ⟨rfl, Iff.rfl⟩
/-- The settled entries, each by its address alone. -/
theorem refL_P (lim win now self : Int) (B : List S27) : ∀ (A : List N59) (s : RfS), (A.map kN).Nodup →
    (∀ k, k ∉ A.map kN → (refL lim win now self B A s).cl k = s.cl k ∧ ofK k (refL lim win now self B A s).M = ofK k s.M ∧ (k ∈ (refL lim win now self B A s).F ↔ k ∈ s.F)) ∧
    (∀ k, k ∈ A.map kN → (refL lim win now self B A s).cl k = (refP lim win now (s.cl k) (ofK k s.M) (decide (k ∈ s.F)) k self (rvOf B k)).1 ∧ ofK k (refL lim win now self B A s).M = (refP lim win now (s.cl k) (ofK k s.M) (decide (k ∈ s.F)) k self (rvOf B k)).2.1 ∧
      decide (k ∈ (refL lim win now self B A s).F) = (refP lim win now (s.cl k) (ofK k s.M) (decide (k ∈ s.F)) k self (rvOf B k)).2.2.1) ∧
    (refL lim win now self B A s).g = s.g ++ A.filter fun x => (refP lim win now (s.cl (kN x)) (ofK (kN x) s.M) (decide (kN x ∈ s.F)) (kN x) self (rvOf B (kN x))).2.2.2
  | [], s, _ => ⟨fun k _ => ⟨rfl, rfl, Iff.rfl⟩, fun k h => (by cases h), by simp [refL]⟩
  | x :: A, s, hn => by
    rw [List.map_cons, List.nodup_cons] at hn
    rw [refL_cons]
    obtain ⟨p1, p2, p3, p4⟩ := refK_P lim win now (s.cl (kN x)) s.M s.F (kN x) self (rvOf B (kN x))
    have hne := fun (j : Kk) (h : j ≠ kN x) => refK_ne lim win now (s.cl (kN x)) s.M s.F h self (rvOf B (kN x))
    generalize refK lim win now (s.cl (kN x)) s.M s.F (kN x) self (rvOf B (kN x)) = R at *
    obtain ⟨i1, i2, i3⟩ := refL_P lim win now self B A ⟨updF s.cl (kN x) R.1, R.2.1, R.2.2.1, if R.2.2.2 = true then s.g ++ [x] else s.g⟩ hn.2
    generalize refL lim win now self B A ⟨updF s.cl (kN x) R.1, R.2.1, R.2.2.1, if R.2.2.2 = true then s.g ++ [x] else s.g⟩ = S at *
    dsimp only at i1 i2 i3
    have hP : ∀ k, k ≠ kN x → refP lim win now (updF s.cl (kN x) R.1 k) (ofK k R.2.1) (decide (k ∈ R.2.2.1)) k self (rvOf B k) = refP lim win now (s.cl k) (ofK k s.M) (decide (k ∈ s.F)) k self (rvOf B k) := fun k h => by
      rw [updF_ne _ _ h, (hne k h).1, decide_eq_decide.2 (hne k h).2]
    refine ⟨fun k hk => ?_, fun k hk => ?_, ?_⟩
    · rw [List.map_cons, List.mem_cons, not_or] at hk
      obtain ⟨a1, a2, a3⟩ := i1 k hk.2
      rw [a1, a2, a3, updF_ne _ _ hk.1]
      exact ⟨rfl, (hne k hk.1).1, (hne k hk.1).2⟩
    · by_cases e : k = kN x
      · subst e
        obtain ⟨a1, a2, a3⟩ := i1 (kN x) hn.1
        rw [a1, a2, decide_eq_decide.2 a3, updF_eq]
        exact ⟨p1, p2, p3⟩
      · rw [List.map_cons, List.mem_cons] at hk
        have hk := hk.resolve_left e
        obtain ⟨a1, a2, a3⟩ := i2 k hk
        rw [a1, a2, a3, hP k e]
        exact ⟨rfl, rfl, rfl⟩
    · rw [i3]
      have hf : (A.filter fun x_1 => (refP lim win now (updF s.cl (kN x) R.1 (kN x_1)) (ofK (kN x_1) R.2.1) (decide (kN x_1 ∈ R.2.2.1)) (kN x_1) self (rvOf B (kN x_1))).2.2.2) = A.filter fun x => (refP lim win now (s.cl (kN x)) (ofK (kN x) s.M) (decide (kN x ∈ s.F)) (kN x) self (rvOf B (kN x))).2.2.2 :=
        List.filter_congr fun y hy => by rw [hP (kN y) fun e => hn.1 (by rw [← e]; exact List.mem_map_of_mem hy)]
      rw [hf, p4]
      cases h : (refP lim win now (s.cl (kN x)) (ofK (kN x) s.M) (decide (kN x ∈ s.F)) (kN x) self (rvOf B (kN x))).2.2.2
      · rw [List.filter_cons, if_neg (by simp), if_neg (by rw [h]; simp)]
      · rw [List.filter_cons, if_pos rfl, if_pos h, List.append_assoc]
        rfl
end Go.Proofs.Ytoimfchhmocgeaa.Abs

/- The book and the reference's book agree: one step. -/
namespace Go.Proofs.Ytoimfchhmocgeaa.Abs
open Go
set_option linter.unusedVariables false
/-- One address's moves, in both books. -/
def RelT (win last : Int) (mv : Option (List Int × Bool)) (Mk : List M3) (f : Bool) : Prop := moveF mv = f ∧ ∀ u, last - win ≤ u → (timesM mv).filter (keepT u) = (Mk.map (·.at')).filter (keepT u)
theorem moveL_T (win now : Int) (mv : Option (List Int × Bool)) : moveL win now mv = (timesM mv).filter (keepT (now - win)) := by
  cases mv with
  | none => rfl
  | some q => rfl
theorem RelT.mono {win last now : Int} {mv : Option (List Int × Bool)} {Mk : List M3} {f : Bool} (h : RelT win last mv Mk f) (hn : last ≤ now) : RelT win now mv Mk f := ⟨h.1, fun u hu => h.2 u (by omega)⟩
theorem RelT.cl {win last now : Int} {mv : Option (List Int × Bool)} {Mk : List M3} {f : Bool} (h : RelT win last mv Mk f) (hn : last ≤ now) : RelT win now (clM win now mv) Mk f := by
  cases mv with
  | none => exact h.mono hn
  | some q =>
    obtain ⟨L, g⟩ := q
    have h2 : ∀ u, now - win ≤ u → (L.filter (keepT (now - win))).filter (keepT u) = (Mk.map (·.at')).filter (keepT u) := fun u hu => by
      rw [keep_keep hu]
      exact h.2 u (by omega)
    show RelT win now (if (L.filter (keepT (now - win))).length = 0 ∧ g = false then none else some (L.filter (keepT (now - win)), g)) Mk f
    by_cases c : (L.filter (keepT (now - win))).length = 0 ∧ g = false
    · rw [if_pos c]
      refine ⟨by rw [← h.1]; exact c.2.symm, fun u hu => ?_⟩
      rw [← h2 u hu, List.length_eq_zero_iff.1 c.1]
      rfl
    · rw [if_neg c]
      exact ⟨h.1, h2⟩
theorem RelT.cnt {win last now : Int} {mv : Option (List Int × Bool)} {Mk : List M3} {f : Bool} (h : RelT win last mv Mk f) (hn : last ≤ now) (hw : 1 ≤ win) (K : Kk) (hMk : ofK K Mk = Mk) (lim : Int) :
    tooM lim win now mv = decide ((cntM win now K (Mk ++ [⟨K.bd, K.mac, now⟩]) : Int) > lim) := by
  unfold tooM
  rw [cnt_of, ofK_eq, hMk, List.map_append, List.countP_append, moveL_T, h.2 _ (by omega), List.countP_eq_length_filter]
  have : ([(⟨K.bd, K.mac, now⟩ : M3)].map (·.at')).countP (keepT (now - win)) = 1 := by
    rw [List.map_singleton, List.countP_singleton, if_pos (by unfold keepT; rw [Bool.not_eq_true', decide_eq_false_iff_not]; dsimp only; omega)]
  rw [this]
  rfl
theorem RelT.add {win last now : Int} {mv : Option (List Int × Bool)} {Mk : List M3} {f : Bool} (h : RelT win last mv Mk f) (hn : last ≤ now) (K : Kk) (b : Bool) : RelT win now (some (moveL win now mv ++ [now], moveF mv || b)) (Mk ++ [⟨K.bd, K.mac, now⟩]) (f || b) := by
  refine ⟨by rw [← h.1]; rfl, fun u hu => ?_⟩
  show (moveL win now mv ++ [now]).filter (keepT u) = _
  rw [List.map_append, List.filter_append, List.filter_append, moveL_T, keep_keep hu, h.2 u (by omega)]
  rfl
theorem RelT.rule {win last now : Int} {mv : Option (List Int × Bool)} {Mk : List M3} {f : Bool} (h : RelT win last mv Mk f) (hn : last ≤ now) (hw : 1 ≤ win) (K : Kk) (hMk : ofK K Mk = Mk) (lim self : Int) (cl : Option (Int × Bool)) (r : S27) :
    (rule0 lim win self now cl (clM win now mv) r).1 = (refP lim win now cl Mk f K self r).1 ∧ (rule0 lim win self now cl (clM win now mv) r).2.2 = (refP lim win now cl Mk f K self r).2.2.2 ∧
    RelT win now (rule0 lim win self now cl (clM win now mv) r).2.1 (refP lim win now cl Mk f K self r).2.1 (refP lim win now cl Mk f K self r).2.2.1 := by
  have hc := h.cl hn
  have hcnt := hc.cnt (Int.le_refl _) hw K hMk lim
  have hadd := hc.add (Int.le_refl _) K (tooM lim win now (clM win now mv))
  generalize clM win now mv = m at *
  unfold rule0 refP
  by_cases h1 : clF cl = true
  · rw [if_pos h1, if_pos h1]; exact ⟨rfl, rfl, hc⟩
  rw [if_neg h1, if_neg h1]
  unfold rule1
  by_cases h2 : contB cl r = true ∧ f = true
  · have e2 : (contB cl r && moveF m) = true := by rw [h2.1, hc.1, h2.2]; rfl
    rw [if_pos h2, if_pos e2]; exact ⟨rfl, rfl, hc⟩
  have e2 : ¬ (contB cl r && moveF m) = true := by rw [hc.1, Bool.and_eq_true]; exact h2
  rw [if_neg h2, if_neg e2]
  unfold rule2
  by_cases h3 : contB cl r = true
  · have hf : f = false := by cases g : f <;> simp_all
    rw [if_pos h3]
    by_cases h4 : (cntM win now K (Mk ++ [⟨K.bd, K.mac, now⟩]) : Int) > lim
    · have e4 : tooM lim win now m = true := by rw [hcnt]; exact decide_eq_true h4
      have e5 : contB cl r = true ∧ (cntM win now K (Mk ++ [⟨K.bd, K.mac, now⟩]) : Int) > lim := ⟨h3, h4⟩
      rw [if_pos e4, if_pos e5]
      refine ⟨rfl, rfl, ?_⟩
      rw [hf, e4] at hadd
      unfold mv2
      rw [e4]
      exact hadd
    · have e4 : ¬ tooM lim win now m = true := by rw [hcnt]; simpa using h4
      have e5 : ¬ (contB cl r = true ∧ (cntM win now K (Mk ++ [⟨K.bd, K.mac, now⟩]) : Int) > lim) := fun g => h4 g.2
      rw [if_neg e4, if_neg e5, if_pos h3]
      refine ⟨rfl, rfl, ?_⟩
      rw [Bool.not_eq_true] at e4
      rw [hf, e4] at hadd
      unfold rule3 mv2
      rw [e4, hf]
      exact hadd
  · have e5 : ¬ (contB cl r = true ∧ (cntM win now K (Mk ++ [⟨K.bd, K.mac, now⟩]) : Int) > lim) := fun g => h3 g.1
    rw [if_neg h3, if_neg e5, if_neg h3]
    exact ⟨rfl, rfl, hc⟩
/-- Both books agree. -/
structure BothA (win last : Int) (mv : Kk → Option (List Int × Bool)) (M : List M3) (F : List Kk) : Prop where
  at_ : ∀ k, RelT win last (mv k) (ofK k M) (decide (k ∈ F))
theorem BothA.zero (win : Int) : BothA win 0 (fun _ => none) [] [] := ⟨fun k => ⟨rfl, fun u _ => rfl⟩⟩
theorem BothA.moved {lim win last now : Int} {mv : Kk → Option (List Int × Bool)} {M : List M3} {F : List Kk} (h : BothA win last mv M F) (hn : last ≤ now) (hw : 1 ≤ win) (K : Kk) :
    tooM lim win now (mv K) = decide ((cntM win now K (M ++ [⟨K.bd, K.mac, now⟩]) : Int) > lim) ∧
    BothA win now (updF mv K (some (moveL win now (mv K) ++ [now], moveF (mv K) || tooM lim win now (mv K)))) (M ++ [⟨K.bd, K.mac, now⟩]) (if tooM lim win now (mv K) = true then F ++ [K] else F) := by
  have hc := (h.at_ K).cnt hn hw K (ofK_of K M) lim
  rw [cnt_ofK] at hc
  refine ⟨hc, ⟨fun k => ?_⟩⟩
  by_cases e : k = K
  · subst e
    rw [updF_eq, ofK_eq]
    have := (h.at_ k).add hn k (tooM lim win now (mv k))
    cases ht : tooM lim win now (mv k)
    · rw [ht, Bool.or_false] at this
      rw [if_neg (by simp), Bool.or_false]
      rw [Bool.or_false] at this
      exact this
    · rw [ht] at this
      rw [if_pos rfl]
      have hm : decide (k ∈ F ++ [k]) = (decide (k ∈ F) || true) := by simp
      rw [hm]
      exact this
  · rw [updF_ne _ _ e, ofK_ne e]
    have hm : decide (k ∈ (if tooM lim win now (mv K) = true then F ++ [K] else F)) = decide (k ∈ F) := by
      split
      · simp [e]
      · rfl
    rw [hm]
    exact (h.at_ k).mono hn
theorem BothA.clear {win last : Int} {mv : Kk → Option (List Int × Bool)} {M : List M3} {F : List Kk} (h : BothA win last mv M F) (K : Kk) :
    BothA win last (updF mv K none) (M.filter fun x => decide (kM x ≠ K)) (F.filter fun x => decide (x ≠ K)) := by
  refine ⟨fun k => ?_⟩
  by_cases e : k = K
  · subst e
    rw [updF_eq]
    have h1 : ofK k (M.filter fun x => decide (kM x ≠ k)) = [] := by
      unfold ofK
      rw [List.filter_filter, List.filter_eq_nil_iff]
      intro x _
      simp
    have h2 : decide (k ∈ F.filter fun x => decide (x ≠ k)) = false := decide_eq_false (by simp)
    rw [h1, h2]
    exact ⟨rfl, fun u _ => rfl⟩
  · rw [updF_ne _ _ e]
    have h1 : ofK k (M.filter fun x => decide (kM x ≠ K)) = ofK k M := by
      unfold ofK
      rw [List.filter_filter]
      refine List.filter_congr fun x _ => ?_
      by_cases g : kM x = k
      · simp [g, e]
      · simp [g]
    have h2 : decide (k ∈ F.filter fun x => decide (x ≠ K)) = decide (k ∈ F) := decide_eq_decide.2 (by simp [e])
    rw [h1, h2]
    exact h.at_ k
theorem BothA.settle {lim win last now self : Int} {cl : Kk → Option (Int × Bool)} {mv : Kk → Option (List Int × Bool)} {M : List M3} {F : List Kk} (h : BothA win last mv M F) (hn : last ≤ now) (hw : 1 ≤ win) {A : List N59} (B : List S27) (hA : (A.map kN).Nodup) {S : RfS}
    (hS : S = refL lim win now self B A ⟨fun k => if k ∈ A.map kN then cl k else none, M, F, []⟩) :
    (fun k => if k ∈ A.map kN then (resK lim win self now cl mv B k).1 else none) = S.cl ∧ (A.filter fun x => (resK lim win self now cl mv B (kN x)).2.2) = S.g ∧
    BothA win now (fun k => if k ∈ A.map kN then (resK lim win self now cl mv B k).2.1 else clM win now (mv k)) S.M S.F := by
  obtain ⟨i1, i2, i3⟩ := refL_P lim win now self B A ⟨fun k => if k ∈ A.map kN then cl k else none, M, F, []⟩ hA
  rw [← hS] at i1 i2 i3
  dsimp only at i1 i2 i3
  have hr := fun k => (h.at_ k).rule hn hw k (ofK_of k M) lim self (cl k) (rvOf B k)
  refine ⟨funext fun k => ?_, ?_, ⟨fun k => ?_⟩⟩
  · by_cases e : k ∈ A.map kN
    · rw [if_pos e, (i2 k e).1, if_pos e]
      exact (hr k).1
    · rw [if_neg e, (i1 k e).1, if_neg e]
  · rw [i3, List.nil_append]
    refine List.filter_congr fun x hx => ?_
    have e : kN x ∈ A.map kN := List.mem_map_of_mem hx
    rw [if_pos e]
    exact (hr (kN x)).2.1
  · by_cases e : k ∈ A.map kN
    · obtain ⟨_, a2, a3⟩ := i2 k e
      rw [if_pos e] at a2 a3
      rw [if_pos e, a2, a3]
      exact (hr k).2.2
    · obtain ⟨_, a2, a3⟩ := i1 k e
      rw [if_neg e, a2, decide_eq_decide.2 a3]
      exact (h.at_ k).cl hn
end Go.Proofs.Ytoimfchhmocgeaa.Abs

/- The calls of both books, in the law's memory. -/
namespace Go.Proofs.Ytoimfchhmocgeaa.Abs
open Go
set_option linter.unusedVariables false
theorem call_at {C : Ctx} {hc : Abs.H Prop} {g : FuncId} {args : List Value} {H H' : Hp} {Q : Value → Hp → Prop} (h : CallT C hc g args H' fun v Z => ∃ Z2, Z2.Perm Z ∧ Q v Z2) (p : H'.Perm H) : CallT C hc g args H Q := (CallT.permPost h fun v Z e => e).perm p
def RfB (lim win : Int) (q : Nat) (now : Int) (cl : Kk → Option (Int × Bool)) (M : List M3) (F : List Kk) (R : Hp) : Prop := ∃ C, RfI lim win q now C M F R ∧ RelC C cl
theorem rw_a {q : Nat × AObj} {C M F G X : Hp} : (q :: (C ++ (M ++ (F ++ (G ++ X))))).Perm (G ++ ((q :: (C ++ (M ++ F))) ++ X)) := by
  have h : ((q :: (C ++ (M ++ F))) ++ X) = q :: (C ++ (M ++ (F ++ X))) := by simp
  rw [h]
  exact pmF (fun i => match i with | 0 => [q] | 1 => C | 2 => M | 3 => F | _ => G) (a := [0, 1, 2, 3, 4]) (b := [4, 0, 1, 2, 3]) (by decide)
theorem rw_g {q : Nat × AObj} {C M F V G X : Hp} : (V ++ (G ++ ((q :: (C ++ (M ++ F))) ++ X))).Perm (q :: (C ++ (M ++ (F ++ (V ++ (G ++ X)))))) := by
  have h : ((q :: (C ++ (M ++ F))) ++ X) = q :: (C ++ (M ++ (F ++ X))) := by simp
  rw [h]
  exact pmF (fun i => match i with | 0 => [q] | 1 => C | 2 => M | 3 => F | 4 => G | _ => V) (a := [5, 4, 0, 1, 2, 3]) (b := [0, 1, 2, 3, 5, 4]) (by decide)
section
variable {B0 : Nat} {old : Nat → Option (List Value)} {n : Nat} {H X G R : Hp} {Q : Value → Hp → Prop} {p q : Nat} {lim win last : Int} {cl : Kk → Option (Int × Bool)} {mv : Kk → Option (List Int × Bool)} {M : List M3} {F : List Kk}
set_option maxRecDepth 10000
set_option maxHeartbeats 8000000
theorem frozenGW (hB : BkG lim win p last cl mv G) (K : Kk) (h : Q (.bool (moveF (mv K))) (G ++ H)) : CallT (cx B0 old) (acall (cx B0 old) ansP (n + 2)) 20 [.pointer (some ⟨p, 0, none⟩), .int .i64 K.bd, .int .u64 K.mac] (G ++ H) Q := by
  obtain ⟨cb, mb, cs, cc, ms, mc, CG, MG, hC, hM, rfl⟩ := hB
  rw [bk_as] at h ⊢
  exact frozen20G_ct hM h
theorem movedGW (hB : BkG lim win p last cl mv G) (hl : ∀ k, lenM (mv k) ≤ 2000) (K : Kk) (now : Int) (hwn : 0 ≤ win ∧ win ≤ 100000)
    (herr : chkT last now ≠ 0 → Q (.tuple #[.bool false, .int .i64 (chkT last now)]) (G ++ H))
    (hun : chkT last now = 0 → cl K = none → Q (.tuple #[.bool false, .int .i64 8]) (G ++ H))
    (hfz : ∀ s, chkT last now = 0 → cl K = some (s, true) → Q (.tuple #[.bool false, .int .i64 9]) (G ++ H))
    (hQ : ∀ s G', chkT last now = 0 → cl K = some (s, false) → BkG lim win p now (updF cl K (some (aft s, tooM lim win now (mv K)))) (updF mv K (some (moveL win now (mv K) ++ [now], moveF (mv K) || tooM lim win now (mv K)))) G' → Q (.tuple #[.bool (tooM lim win now (mv K)), .int .i64 0]) (G' ++ H)) :
    CallT (cx B0 old) (acall (cx B0 old) ansP (n + 6)) 18 [.pointer (some ⟨p, 0, none⟩), .int .i64 K.bd, .int .u64 K.mac, .int .i64 now] (G ++ H) Q := by
  obtain ⟨cb, mb, cs, cc, ms, mc, CG, MG, hC, hM, rfl⟩ := hB
  rw [bk_as] at herr hun hfz ⊢
  refine moved18G_ct hC hM (hl K) now hwn herr hun hfz fun s cs' cc' CG' ms' mc' MG' h1 h2 hC' hM' => ?_
  have h := hQ s _ h1 h2 ⟨cb, mb, cs', cc', ms', mc', CG', MG', hC', hM', rfl⟩
  rw [bk_as] at h
  exact h
theorem clearGW (hB : BkG lim win p last cl mv G) (K : Kk) (hun : moveF (mv K) = false → Q (.int .i64 8) (G ++ H))
    (hQ : ∀ G', moveF (mv K) = true → BkG lim win p last (updF cl K (clrC (cl K))) (updF mv K none) G' → Q (.int .i64 0) (G' ++ H)) :
    CallT (cx B0 old) (acall (cx B0 old) ansP (n + 2)) 22 [.pointer (some ⟨p, 0, none⟩), .int .i64 K.bd, .int .u64 K.mac] (G ++ H) Q := by
  obtain ⟨cb, mb, cs, cc, ms, mc, CG, MG, hC, hM, rfl⟩ := hB
  rw [bk_as] at hun ⊢
  refine clear22G_ct hC hM hun fun CG' ms' MG' h1 hC' hM' => ?_
  have e : ((cl K).map fun q => (q.1, false)) = clrC (cl K) := by cases cl K <;> rfl
  rw [e] at hC'
  have h := hQ _ h1 ⟨cb, mb, cs, cc, ms', mc, CG', MG', hC', hM', rfl⟩
  rw [bk_as] at h
  exact h
theorem copyGW (hB : BkG lim win p last cl mv G) (hl : ∀ k, lenM (mv k) ≤ 2000) (hQ : ∀ p2 G2, BkG lim win p2 last cl mv G2 → Q (.pointer (some ⟨p2, 0, none⟩)) (G2 ++ (G ++ H))) :
    CallT (cx B0 old) (acall (cx B0 old) ansP (n + 2)) 33 [.pointer (some ⟨p, 0, none⟩)] (G ++ H) Q := by
  obtain ⟨cb, mb, cs, cc, ms, mc, CG, MG, hC, hM, rfl⟩ := hB
  rw [bk_as] at hQ ⊢
  refine copy33G_ct hC hM hl fun p2 cb2 mb2 cs2 cc2 CG2 ms2 mc2 MG2 hC' hM' => ?_
  have h := hQ p2 _ ⟨cb2, mb2, cs2, cc2, ms2, mc2, CG2, MG2, hC', hM', rfl⟩
  rw [bk_as] at h
  exact h
theorem settleEW (hB : BkG lim win p last cl mv G) (self now : Int) (hck : chkT last now ≠ 0) {va vb : Value} (hQ : Q (.tuple #[.slice none 0 0, .int .i64 (chkT last now)]) (G ++ H)) :
    CallT (cx B0 old) (acall (cx B0 old) ansP (n + 8)) 21 [.pointer (some ⟨p, 0, none⟩), .int .u32 self, va, vb, .int .i64 now] (G ++ H) Q := by
  obtain ⟨cb, mb, cs, cc, ms, mc, CG, MG, hC, hM, rfl⟩ := hB
  rw [bk_as] at hQ ⊢
  refine call_in 122 rfl Try.func21 rfl rfl ?_
  repeat (first | refine Z0 ?_ | (refine ZR ?_; first | refine x1 ?_ | refine x2 ?_ | refine x8 ?_ | refine Z1 ?_ | refine Z2 ?_ | refine x3 fun _ => ?_ | refine x4 fun _ => ?_ | refine x5 fun _ => ?_ | refine Z3 fun _ => ?_ | refine Z4 fun _ => ?_) | refine ZC ?_)
  refine rt_step rfl rfl rfl (st_call rfl rfl rfl rfl (check43_ct now ?_))
  repeat (first | refine Z0 ?_ | (refine ZR ?_; first | refine x1 ?_ | refine x2 ?_ | refine x8 ?_ | refine Z1 ?_ | refine Z2 ?_ | refine x3 fun _ => ?_ | refine x4 fun _ => ?_ | refine x5 fun _ => ?_ | refine Z3 fun _ => ?_ | refine Z4 fun _ => ?_) | refine ZC ?_)
  rw [show (chkT last now != 0) = true from bne_iff_ne.2 hck]
  repeat (first | refine Z0 ?_ | (refine ZR ?_; first | refine x1 ?_ | refine x2 ?_ | refine x8 ?_ | refine Z1 ?_ | refine Z2 ?_ | refine x3 fun _ => ?_ | refine x4 fun _ => ?_ | refine x5 fun _ => ?_ | refine Z3 fun _ => ?_ | refine Z4 fun _ => ?_) | refine ZC ?_)
  exact re_2 rfl rfl rfl (by exact drop_auto) hQ
theorem rfrozenW (hB : RfB lim win q last cl M F R) (hlf : F.length ≤ 2500) (K : Kk) (h : Q (.bool (decide (K ∈ F))) (G ++ (R ++ X))) :
    CallT (cx B0 old) (acall (cx B0 old) ansP (n + 1)) 58 [.pointer (some ⟨q, 0, none⟩), .int .i64 K.bd, .int .u64 K.mac] (G ++ (R ++ X)) Q := by
  obtain ⟨C, ⟨vC, GC, vM, GM, vF, GF, hC, hM, hF, rfl⟩, hR⟩ := hB
  obtain ⟨adF, cF, eF, gF⟩ := hF.arrW (C := cx B0 old) enK_len
  subst eF
  have hFz : Arr (cx B0 old) (GC ++ (GM ++ (GF ++ (G ++ X)))) adF 2 enK F := by
    have := (gF (GC ++ GM) (G ++ X)).arr enK_len
    rw [List.append_assoc] at this
    exact this
  exact call_at (rfrozen58_ct hFz (by omega) K ⟨_, rw_a.symm, h⟩) rw_a
theorem rmovedW (hB : RfB lim win q last cl M F R) (hcl : ∀ C, RelC C cl → C.length ≤ 2000) (hl : M.length ≤ 2500) (hlf : F.length ≤ 2500) (hwn : 0 ≤ win ∧ win ≤ 100000) (K : Kk) (now : Int)
    (htime : chkT last now ≠ 0 → Q (.tuple #[.bool false, .int .i64 (chkT last now)]) (G ++ (R ++ X)))
    (hun : chkT last now = 0 → cl K = none → Q (.tuple #[.bool false, .int .i64 8]) (G ++ (R ++ X)))
    (hfz : ∀ s, chkT last now = 0 → cl K = some (s, true) → Q (.tuple #[.bool false, .int .i64 9]) (G ++ (R ++ X)))
    (hQ : ∀ s b R', chkT last now = 0 → cl K = some (s, false) → b = decide ((cntM win now K (M ++ [⟨K.bd, K.mac, now⟩]) : Int) > lim) → RfB lim win q now (updF cl K (some (aft s, b))) (M ++ [⟨K.bd, K.mac, now⟩]) (if b = true then F ++ [K] else F) R' → Q (.tuple #[.bool b, .int .i64 0]) (G ++ (R' ++ X))) :
    CallT (cx B0 old) (acall (cx B0 old) ansP (n + 4)) 31 [.pointer (some ⟨q, 0, none⟩), .int .i64 K.bd, .int .u64 K.mac, .int .i64 now] (G ++ (R ++ X)) Q := by
  obtain ⟨C, ⟨vC, GC, vM, GM, vF, GF, hC, hM, hF, rfl⟩, hR⟩ := hB
  exact call_at (moved31_ct hC hM hF hR (hcl C hR) hl hlf hwn K now (fun h => ⟨_, rw_a.symm, htime h⟩) (fun h1 h2 => ⟨_, rw_a.symm, hun h1 h2⟩) (fun s h1 h2 => ⟨_, rw_a.symm, hfz s h1 h2⟩)
    fun s b h1 h2 h3 C' vC' GC' vM' GM' vF' GF' oC oM oF oR => ⟨_, rw_a.symm, hQ s b _ h1 h2 h3 ⟨C', ⟨vC', GC', vM', GM', vF', GF', oC, oM, oF, rfl⟩, oR⟩⟩) rw_a
theorem rclearW (hB : RfB lim win q last cl M F R) (hcl : ∀ C, RelC C cl → C.length ≤ 2000) (hl : M.length ≤ 2500) (hlf : F.length ≤ 2500) (K : Kk) (hno : K ∉ F → Q (.int .i64 8) (G ++ (R ++ X)))
    (hQ : ∀ R', K ∈ F → RfB lim win q last (updF cl K (clrC (cl K))) (M.filter fun x => decide (kM x ≠ K)) (F.filter fun x => decide (x ≠ K)) R' → Q (.int .i64 0) (G ++ (R' ++ X))) :
    CallT (cx B0 old) (acall (cx B0 old) ansP (n + 4)) 32 [.pointer (some ⟨q, 0, none⟩), .int .i64 K.bd, .int .u64 K.mac] (G ++ (R ++ X)) Q := by
  obtain ⟨C, ⟨vC, GC, vM, GM, vF, GF, hC, hM, hF, rfl⟩, hR⟩ := hB
  exact call_at (clear32_ct hC hM hF hR (hcl C hR) hl hlf K (fun h => ⟨_, rw_a.symm, hno h⟩)
    fun h1 C' vC' GC' vM' GM' vF' GF' oC oM oF oR => ⟨_, rw_a.symm, hQ _ h1 ⟨C', ⟨vC', GC', vM', GM', vF', GF', oC, oM, oF, rfl⟩, oR⟩⟩) rw_a
theorem rcopyW (hB : RfB lim win q last cl M F R) (hcl : ∀ C, RelC C cl → C.length ≤ 2000) (hl : M.length ≤ 2500) (hlf : F.length ≤ 2500) (hQ : ∀ q' R', RfB lim win q' last cl M F R' → Q (.pointer (some ⟨q', 0, none⟩)) (G ++ (R' ++ X))) :
    CallT (cx B0 old) (acall (cx B0 old) ansP (n + 1)) 34 [.pointer (some ⟨q, 0, none⟩)] (G ++ (R ++ X)) Q := by
  obtain ⟨C, ⟨vC, GC, vM, GM, vF, GF, hC, hM, hF, rfl⟩, hR⟩ := hB
  exact call_at (copy34_ct hC hM hF (hcl C hR) hl hlf fun q' vC' GC' vM' GM' vF' GF' oC oM oF => ⟨_, rw_a.symm, hQ q' _ ⟨C, ⟨vC', GC', vM', GM', vF', GF', oC, oM, oF, rfl⟩, hR⟩⟩) rw_a
theorem rsettleW (hB : RfB lim win q last cl M F R) (hcl : ∀ C, RelC C cl → C.length ≤ 2000) (hwn : 0 ≤ win ∧ win ≤ 100000) (self now : Int) {A : List N59} {B : List S27} (hA1 : A.length ≤ 1000) (hB1 : B.length ≤ 1000) (hl : M.length + A.length ≤ 2500) (hlf : F.length + A.length ≤ 2500)
    (hwA : ∀ x ∈ A, okK (kN x)) (hwB : ∀ x ∈ B, okK (kR x)) {adn adr : Option Addr} {cn cr : Nat} (hn : Arr (cx B0 old) X adn 6 en59 A) (hrv : Arr (cx B0 old) X adr 5 en27 B)
    (htime : chkT last now ≠ 0 → Q (.tuple #[.slice none 0 0, .int .i64 (chkT last now)]) (G ++ (R ++ X)))
    (hbad : chkT last now = 0 → ¬ (SrtR (A.map kN) ∧ SrtR (B.map kR)) → Q (.tuple #[.slice none 0 0, .int .i64 10]) (G ++ (R ++ X)))
    (hQ : chkT last now = 0 → SrtR (A.map kN) → SrtR (B.map kR) → ∀ S, S = refL lim win now self B A ⟨fun k => if k ∈ A.map kN then cl k else none, M, F, []⟩ → ∀ R' vg Gg, RfB lim win q now S.cl S.M S.F R' → Own en59 6 S.g vg Gg → Q (.tuple #[vg, .int .i64 0]) (Gg ++ (G ++ (R' ++ X)))) :
    CallT (cx B0 old) (acall (cx B0 old) ansP (n + 4)) 37 [.pointer (some ⟨q, 0, none⟩), .int .u32 self, .slice adn A.length cn, .slice adr B.length cr, .int .i64 now] (G ++ (R ++ X)) Q := by
  obtain ⟨C, ⟨vC, GC, vM, GM, vF, GF, hC, hM, hF, rfl⟩, hR⟩ := hB
  exact call_at (settle37_ct (H := G ++ X) hC hM hF hR (hcl C hR) hwn self now hA1 hB1 hl hlf hwA hwB (hn.weak (List.sublist_append_right G X)) (hrv.weak (List.sublist_append_right G X)) (fun h => ⟨_, rw_a.symm, htime h⟩) (fun h1 h2 => ⟨_, rw_a.symm, hbad h1 h2⟩)
    fun h1 h2 h3 S hS C' vC' GC' vM' GM' vF' GF' vg Gg oC oM oF oR og => ⟨_, rw_g, hQ h1 h2 h3 S hS _ vg Gg ⟨C', ⟨vC', GC', vM', GM', vF', GF', oC, oM, oF, rfl⟩, oR⟩ og⟩) rw_a
end
end Go.Proofs.Ytoimfchhmocgeaa.Abs

/- The law's comparison of both books. -/
namespace Go.Proofs.Ytoimfchhmocgeaa.Abs
open Go
set_option linter.unusedVariables false
theorem rel_eq {C : List C57} {cl : Kk → Option (Int × Bool)} {ks : List Kk} (h : RelC C cl) (hk : ∀ k, k ∈ ks ↔ cl k ≠ none) (hs : SrtR ks) : C = ks.map (clmO (clG' cl)) := by
  have e : C.map kC = ks := srt_eq h.1 hs fun k => by
    rw [hk k]
    constructor
    · intro hm
      obtain ⟨x, hx, rfl⟩ := List.mem_map.1 hm
      rw [(h.2.1 x hx).2]; simp
    · intro hn
      obtain ⟨x, hx, e⟩ := h.2.2 k hn
      exact List.mem_map.2 ⟨x, hx, e⟩
  rw [← e, List.map_map]
  have : C.map (clmO (clG' cl) ∘ kC) = C.map id := List.map_congr_left fun x hx => by
    show clmO (clG' cl) (kC x) = x
    unfold clmO clG'
    rw [(h.2.1 x hx).2]
    rfl
  rw [this, List.map_id]
theorem sk_a {t q : Nat × AObj} {C M F V G X : Hp} : (G ++ (q :: (C ++ (M ++ (F ++ (V ++ (t :: X))))))).Perm (V ++ (G ++ (t :: ((q :: (C ++ (M ++ F))) ++ X)))) := by
  have h : ((q :: (C ++ (M ++ F))) ++ X) = q :: (C ++ (M ++ (F ++ X))) := by simp
  rw [h]
  exact pmF (fun i => match i with | 0 => G | 1 => [q] | 2 => C | 3 => M | 4 => F | 5 => V | _ => [t]) (a := [0, 1, 2, 3, 4, 5, 6]) (b := [5, 0, 6, 1, 2, 3, 4]) (by decide)
theorem sk_b {t q : Nat × AObj} {C M F V G X : Hp} : (G ++ ((q :: (C ++ (M ++ F))) ++ (V ++ (t :: X)))).Perm (G ++ (q :: (C ++ (M ++ (F ++ (V ++ (t :: X))))))) := by
  rw [show ((q :: (C ++ (M ++ F))) ++ (V ++ (t :: X))) = q :: (C ++ (M ++ (F ++ (V ++ (t :: X))))) by simp]
theorem sk_d {R V G X : Hp} : (V ++ (G ++ (R ++ X))).Perm (G ++ (R ++ (V ++ X))) :=
  pmF (fun i => match i with | 0 => V | 1 => G | _ => R) (a := [0, 1, 2]) (b := [1, 2, 0]) (by decide)
section
variable {B0 : Nat} {old : Nat → Option (List Value)} {n : Nat} {H X G R : Hp} {Q : Value → Hp → Prop} {p q : Nat} {lim win last : Int} {cl : Kk → Option (Int × Bool)} {mv : Kk → Option (List Int × Bool)} {M : List M3} {F Kl : List Kk}
set_option maxRecDepth 10000
set_option maxHeartbeats 16000000
theorem same40_ct (hB : BkG lim win p last cl mv G) (hRf : RfB lim win q last cl M F R) (hAg : BothA win last mv M F) (hcov : CovK Kl cl) (hlf : F.length ≤ 2500) {A : List N59} {adn : Option Addr} {cn : Nat} (hA : Arr (cx B0 old) X adn 6 en59 A) (hA1 : A.length ≤ 1000) (kd sp self : Int) (vr : Option Addr × Nat × Nat) (K : Kk)
    (hQ : Q (.bool true) (G ++ (R ++ X))) :
    CallT (cx B0 old) (acall (cx B0 old) ansP (n + 2017)) 40 [.pointer (some ⟨p, 0, none⟩), .pointer (some ⟨q, 0, none⟩), .agg ⟨[.int .i64 kd, .int .i64 sp, .int .u32 self, .slice adn A.length cn, .slice vr.1 vr.2.1 vr.2.2, .int .i64 K.bd, .int .u64 K.mac]⟩] (G ++ (R ++ X)) Q := by
  refine call_in3 80 rfl Try.func40 rfl rfl ?_
  repeat (first | refine Z0 ?_ | (refine ZR ?_; first | refine x1 ?_ | refine x2 ?_ | refine x8 ?_ | refine Z1 ?_ | refine Z2 ?_ | refine x3 fun _ => ?_ | refine x4 fun _ => ?_ | refine x5 fun _ => ?_ | refine Z3 fun _ => ?_ | refine Z4 fun _ => ?_) | refine ZC ?_)
  rename_i t5
  obtain ⟨C, ⟨vC, GC, vM, GM, vF, GF, hC, hM, hF, rfl⟩, hR⟩ := hRf
  refine rt_step rfl rfl rfl (st_call rfl rfl rfl rfl (CallT.perm (claimsGW hB hcov fun ks v Gv hks hs ho => ?_) List.perm_middle))
  have hCe := rel_eq hR hks hs
  subst hCe
  have hlk : (ks.map (clmO (clG' cl))).length ≤ 1000 := Nat.le_trans (rel_len hR fun k hk => by
    cases e : cl k with
    | none => exact absurd e hk
    | some a => exact hcov.2.2 k a e) hcov.1
  refine RunT.perm ?_ (sk_a (G := G) (C := GC) (M := GM) (F := GF) (V := Gv) (X := X))
  have ho2 := ho
  obtain ⟨av, cv, ev, gv⟩ := ho.arrW (C := cx B0 old) en57_len
  subst ev
  obtain ⟨adC, cC, eC, gC⟩ := hC.arrW (C := cx B0 old) en57_len
  subst eC
  repeat (first | refine Z0 ?_ | (refine ZR ?_; first | refine x1 ?_ | refine x2 ?_ | refine x8 ?_ | refine Z1 ?_ | refine Z2 ?_ | refine x3 fun _ => ?_ | refine x4 fun _ => ?_ | refine x5 fun _ => ?_ | refine Z3 fun _ => ?_ | refine Z4 fun _ => ?_) | refine ZC ?_)
  refine ct_draw (masks := [0, 0, 2, 6, 14, 31, 63, 127, 255, 255, 767, 255, 2303, 8191, 255, 255, 33023, 255, 131327, 524287, 1048575, 2097151]) (plan := [0, 1, 2, 3, 4, 5, 6, 7, 8, 9, 10, 11, 12, 14, 15, 16, 17, 18, 13, 19, 20, 21]) (E := []) (by kernel_rfl) (by kernel_rfl) (by kernel_rfl) (by kernel_rfl) ?_
  repeat (first | refine Y0 ?_ | (refine YP ?_; first | refine y1 ?_ | refine y2 ?_ | refine Y1 ?_ | refine Y2 ?_))
  obtain ⟨ROW, hROW⟩ : ∃ ROW, AObj.row [.int .i64 kd, .int .i64 sp, .int .u32 self, .slice adn A.length cn, .slice vr.1 vr.2.1 vr.2.2, .int .i64 K.bd, .int .u64 K.mac] 7 false = ROW := ⟨_, rfl⟩
  refine pl_S rfl rfl rfl rfl rfl rfl (st_call rfl rfl rfl rfl (same26_ct (((gv [] ((t5, AObj.row [.int .i64 kd, .int .i64 sp, .int .u32 self, .slice adn A.length cn, .slice vr.1 vr.2.1 vr.2.2, .int .i64 K.bd, .int .u64 K.mac] 7 false) :: X)).arr en57_len).weak (by exact drop_auto)) (((gC [] (GM ++ (GF ++ (Gv ++ ((t5, AObj.row [.int .i64 kd, .int .i64 sp, .int .u32 self, .slice adn A.length cn, .slice vr.1 vr.2.1 vr.2.2, .int .i64 K.bd, .int .u64 K.mac] 7 false) :: X))))).arr en57_len).weak (by exact drop_auto)) (by omega) ⟨by exact rec_auto, ?_⟩))
  repeat (first | refine Y0 ?_ | (refine YP ?_; first | refine y1 ?_ | refine y2 ?_ | refine Y1 ?_ | refine Y2 ?_))
  have hRf : RfB lim win q last cl M F ((q, AObj.row [.int .i64 lim, .int .i64 win, .int .i64 last, .slice adC (ks.map (clmO (clG' cl))).length cC, vM, vF] 6 false) :: (GC ++ (GM ++ GF))) := ⟨_, ⟨_, GC, _, GM, _, GF, hC, hM, hF, rfl⟩, hR⟩
  refine PlanT.perm ?_ sk_b
  refine pl_S rfl rfl rfl rfl rfl rfl (st_call rfl rfl rfl rfl (frozenGW hB K ⟨by exact rec_auto, ?_⟩))
  repeat (first | refine Y0 ?_ | (refine YP ?_; first | refine y1 ?_ | refine y2 ?_ | refine Y1 ?_ | refine Y2 ?_))
  refine pl_S rfl rfl rfl rfl rfl rfl (st_call rfl rfl rfl rfl (rfrozenW hRf hlf K ⟨by exact rec_auto, ?_⟩))
  rw [(hAg.at_ K).1]
  repeat (first | refine Y0 ?_ | (refine YP ?_; first | refine y1 ?_ | refine y2 ?_ | refine Y1 ?_ | refine Y2 ?_))
  rw [beq_self_eq_true, Bool.not_true]
  generalize (q, AObj.row [.int .i64 lim, .int .i64 win, .int .i64 last, .slice adC (ks.map (clmO (clG' cl))).length cC, vM, vF] 6 false) :: (GC ++ (GM ++ GF)) = R at *
  clear hC hM hF hR gC
  repeat (first | refine Z0 ?_ | (refine ZR ?_; first | refine x1 ?_ | refine x2 ?_ | refine x8 ?_ | refine Z1 ?_ | refine Z2 ?_ | refine x3 fun _ => ?_ | refine x4 fun _ => ?_ | refine x5 fun _ => ?_ | refine Z3 fun _ => ?_ | refine Z4 fun _ => ?_) | refine ZC ?_)
  refine loop_ind (ι := Nat) 0 (fun i => A.length - i) (fun i => i ≤ A.length) (fun i => [(8, .int .i64 (i : Int)), (7, .slice av (ks.map (clmO (clG' cl))).length cv), (0, .pointer (some ⟨p, 0, none⟩)), (1, .pointer (some ⟨q, 0, none⟩)), (5, .pointer (some ⟨t5, 0, none⟩))])
    (fun _ => G ++ (R ++ (Gv ++ ((t5, AObj.row [.int .i64 kd, .int .i64 sp, .int .u32 self, .slice adn A.length cn, .slice vr.1 vr.2.1 vr.2.2, .int .i64 K.bd, .int .u64 K.mac] 7 false) :: X)))) (Nat.zero_le _) (by repeat (first | exact SubL.nil | refine SubL.cons rfl ?_)) (List.Sublist.refl _) ?_
  intro i hi
  repeat (first | refine Z0 ?_ | (refine ZR ?_; first | refine x1 ?_ | refine x2 ?_ | refine x8 ?_ | refine Z1 ?_ | refine Z2 ?_ | refine x3 fun _ => ?_ | refine x4 fun _ => ?_ | refine x5 fun _ => ?_ | refine Z3 fun _ => ?_ | refine Z4 fun _ => ?_) | refine ZC ?_)
  refine ct_condT te_d rfl (fun hil => ?_) (fun hil => ?_)
  · obtain ⟨x, hx⟩ : ∃ x, A[i]? = some x := ⟨_, List.getElem?_eq_getElem (by omega)⟩
    obtain ⟨b1, o1, e1, hL0⟩ := hA.ldF 3 0 hx rfl rfl rfl (sz rfl)
    obtain ⟨b2, o2, e2, hL1⟩ := hA.ldF 25 2 hx rfl rfl rfl (sz rfl)
    subst e1
    cases e2
    repeat (first | refine Z0 ?_ | (refine ZR ?_; first | refine x1 ?_ | refine x2 ?_ | refine x8 ?_ | refine Z1 ?_ | refine Z2 ?_ | refine x3 fun _ => ?_ | refine x4 fun _ => ?_ | refine x5 fun _ => ?_ | refine Z3 fun _ => ?_ | refine Z4 fun _ => ?_) | refine ZC ?_)
    refine ct_draw (masks := [0, 0, 2, 0, 14, 30, 62, 0, 128, 0, 896, 1920, 3968, 8191, 0, 0, 32768, 0, 229376, 491520, 1015808, 0, 2097152, 0, 14680064, 31457280, 65011712, 134217727, 268435455]) (plan := [0, 1, 2, 3, 4, 5, 6, 7, 8, 9, 10, 11, 12, 14, 15, 16, 17, 18, 19, 20, 21, 22, 23, 24, 25, 26, 13, 27, 28]) (E := []) (by kernel_rfl) (by kernel_rfl) (by kernel_rfl) (by kernel_rfl) ?_
    repeat (first | refine Y0 ?_ | (refine YP ?_; first | refine y1 ?_ | refine y2 ?_ | refine Y1 ?_ | refine Y2 ?_))
    refine pl_S rfl rfl rfl rfl rfl rfl (st_call rfl rfl rfl rfl (frozenGW hB (kN x) ⟨by exact rec_auto, ?_⟩))
    repeat (first | refine Y0 ?_ | (refine YP ?_; first | refine y1 ?_ | refine y2 ?_ | refine Y1 ?_ | refine Y2 ?_))
    refine pl_S rfl rfl rfl rfl rfl rfl (st_call rfl rfl rfl rfl (rfrozenW hRf hlf (kN x) ⟨by exact rec_auto, ?_⟩))
    rw [(hAg.at_ (kN x)).1]
    repeat (first | refine Y0 ?_ | (refine YP ?_; first | refine y1 ?_ | refine y2 ?_ | refine Y1 ?_ | refine Y2 ?_))
    rw [beq_self_eq_true, Bool.not_true]
    repeat (first | refine Z0 ?_ | (refine ZR ?_; first | refine x1 ?_ | refine x2 ?_ | refine x8 ?_ | refine Z1 ?_ | refine Z2 ?_ | refine x3 fun _ => ?_ | refine x4 fun _ => ?_ | refine x5 fun _ => ?_ | refine Z3 fun _ => ?_ | refine Z4 fun _ => ?_) | refine ZC ?_)
    exact ⟨i + 1, by omega, by omega, by repeat (first | exact SubL.nil | refine SubL.cons rfl ?_), List.Sublist.refl _⟩
  repeat (first | refine Z0 ?_ | (refine ZR ?_; first | refine x1 ?_ | refine x2 ?_ | refine x8 ?_ | refine Z1 ?_ | refine Z2 ?_ | refine x3 fun _ => ?_ | refine x4 fun _ => ?_ | refine x5 fun _ => ?_ | refine Z3 fun _ => ?_ | refine Z4 fun _ => ?_) | refine ZC ?_)
  obtain ⟨L, hL⟩ : ∃ L, ks.map (clmO (clG' cl)) = L := ⟨_, rfl⟩
  rw [hL] at ho hlk
  rw [hL]
  refine loop_ind (ι := Nat × List C57 × Hp) (0, L, Gv) (fun i => L.length - i.1) (fun i => i.1 ≤ L.length ∧ i.2.1.length = L.length ∧ Own en57 4 i.2.1 (.slice av L.length cv) i.2.2) (fun i => [(9, .int .i64 (i.1 : Int)), (7, .slice av L.length cv)])
    (fun i => G ++ (R ++ (i.2.2 ++ X))) ⟨Nat.zero_le _, rfl, ho⟩ (by repeat (first | exact SubL.nil | refine SubL.cons rfl ?_)) (by exact drop_auto) ?_
  clear ho hi hil
  rintro ⟨i, L2, G2⟩ ⟨hi, hl2, ho⟩
  dsimp only at hi hl2 ho ⊢
  repeat (first | refine Z0 ?_ | (refine ZR ?_; first | refine x1 ?_ | refine x2 ?_ | refine x8 ?_ | refine Z1 ?_ | refine Z2 ?_ | refine x3 fun _ => ?_ | refine x4 fun _ => ?_ | refine x5 fun _ => ?_ | refine Z3 fun _ => ?_ | refine Z4 fun _ => ?_) | refine ZC ?_)
  refine ct_condT te_d rfl (fun hil => ?_) (fun hil => ?_)
  · obtain ⟨x, hx⟩ : ∃ x, L2[i]? = some x := ⟨_, List.getElem?_eq_getElem (by omega)⟩
    obtain ⟨G3, o3, bb, cb, eb, hst1⟩ := ho.set (C := cx B0 old) (t := 57) (f := 0) (a' := ⟨0, 0, 0, false⟩) (u := .agg ⟨[.int .i64 0, .int .u64 0, .int .u32 0, .bool false]⟩) en57_len hx (sz rfl) rfl rfl
    rw [hl2] at eb
    cases eb
    repeat (first | refine Z0 ?_ | (refine ZR ?_; first | refine x1 ?_ | refine x2 ?_ | refine x8 ?_ | refine Z1 ?_ | refine Z2 ?_ | refine x3 fun _ => ?_ | refine x4 fun _ => ?_ | refine x5 fun _ => ?_ | refine Z3 fun _ => ?_ | refine Z4 fun _ => ?_) | refine ZC ?_)
    refine RunT.perm ?_ (sk_d (G := G) (R := R) (V := G2))
    refine rt_st rfl rfl rfl rfl rfl (hst1 [] _) ?_
    refine RunT.perm ?_ (sk_d (G := G) (R := R) (V := G3)).symm
    repeat (first | refine Z0 ?_ | (refine ZR ?_; first | refine x1 ?_ | refine x2 ?_ | refine x8 ?_ | refine Z1 ?_ | refine Z2 ?_ | refine x3 fun _ => ?_ | refine x4 fun _ => ?_ | refine x5 fun _ => ?_ | refine Z3 fun _ => ?_ | refine Z4 fun _ => ?_) | refine ZC ?_)
    exact ⟨(i + 1, _, G3), ⟨by omega, by dsimp only; rw [List.length_set]; exact hl2, o3⟩, by dsimp only; omega, by repeat (first | exact SubL.nil | refine SubL.cons rfl ?_), List.Sublist.refl _⟩
  repeat (first | refine Z0 ?_ | (refine ZR ?_; first | refine x1 ?_ | refine x2 ?_ | refine x8 ?_ | refine Z1 ?_ | refine Z2 ?_ | refine x3 fun _ => ?_ | refine x4 fun _ => ?_ | refine x5 fun _ => ?_ | refine Z3 fun _ => ?_ | refine Z4 fun _ => ?_) | refine ZC ?_)
  exact re_1 rfl rfl (by exact drop_auto) hQ
end
end Go.Proofs.Ytoimfchhmocgeaa.Abs

/- For the law: New of what it bars, Rivals compared, Settle's outcomes. -/
namespace Go.Proofs.Ytoimfchhmocgeaa.Abs
open Go
set_option linter.unusedVariables false
theorem arrW_of {α : Type} {B0 : Nat} {old : Nat → Option (List Value)} {ad : Option Addr} {k : Nat} {en : α → List Value} {L : List α} (hl : ∀ x, (en x).length = k) (h : Arr (cx B0 old) [] ad k en L) : ArrW (cx B0 old) [] ad k en L := ⟨fun hne => by
  obtain ⟨x, L1, rfl⟩ : ∃ x L1, L = x :: L1 := by cases L with | nil => exact absurd rfl hne | cons x L1 => exact ⟨_, _, rfl⟩
  obtain ⟨b, o, cs, rfl, h2, h3⟩ := h.els 0 x rfl
  have hfun : ∀ cs', RowIs (cx B0 old) [] b cs' → cs' = cs := fun cs' h' => by
    cases h' with
    | own es el hm => cases hm
    | old hb h4 =>
      cases h2 with
      | own es el hm => cases hm
      | old hb2 h5 => exact Option.some.inj (h4.symm.trans h5)
  exact ⟨b, o, cs, rfl, h2, cut_flatMap _ o fun i r hi => by
    obtain ⟨b', o', cs', e, h4, h5⟩ := h.els i r hi
    cases e
    rw [hfun cs' h4] at h5
    exact h5⟩⟩
section
variable {B0 : Nat} {old : Nat → Option (List Value)} {n : Nat} {H X G R : Hp} {Q : Value → Hp → Prop} {p q : Nat} {lim win last : Int} {cl : Kk → Option (Int × Bool)} {mv : Kk → Option (List Int × Bool)} {M : List M3} {F : List Kk}
set_option maxRecDepth 10000
set_option maxHeartbeats 8000000
theorem newBad15_ct (a b : Int) (hbad : ¬ ((1 ≤ a ∧ a ≤ 100) ∧ 1 ≤ b ∧ b ≤ 10000)) (hQ : Q (.tuple #[.pointer none, .int .i64 2]) H) : CallT (cx B0 old) (acall (cx B0 old) ansP (n + 1)) 15 [.int .i64 a, .int .i64 b] H Q := by
  refine call_in2 26 rfl Try.func15 rfl rfl ?_
  repeat (first | refine Z0 ?_ | (refine ZR ?_; first | refine x1 ?_ | refine x2 ?_ | refine x8 ?_ | refine Z1 ?_ | refine Z2 ?_ | refine x3 fun _ => ?_ | refine x4 fun _ => ?_ | refine x5 fun _ => ?_ | refine Z3 fun _ => ?_ | refine Z4 fun _ => ?_) | refine ZC ?_)
  by_cases h1 : a < 1
  · rw [show decide (a < 1) = true from decide_eq_true h1]
    repeat (first | refine Z0 ?_ | (refine ZR ?_; first | refine x1 ?_ | refine x2 ?_ | refine x8 ?_ | refine Z1 ?_ | refine Z2 ?_ | refine x3 fun _ => ?_ | refine x4 fun _ => ?_ | refine x5 fun _ => ?_ | refine Z3 fun _ => ?_ | refine Z4 fun _ => ?_) | refine ZC ?_)
    exact re_2 rfl rfl rfl (List.Sublist.refl _) hQ
  rw [show decide (a < 1) = false from decide_eq_false h1]
  repeat (first | refine Z0 ?_ | (refine ZR ?_; first | refine x1 ?_ | refine x2 ?_ | refine x8 ?_ | refine Z1 ?_ | refine Z2 ?_ | refine x3 fun _ => ?_ | refine x4 fun _ => ?_ | refine x5 fun _ => ?_ | refine Z3 fun _ => ?_ | refine Z4 fun _ => ?_) | refine ZC ?_)
  by_cases h2 : a > 100
  · rw [show decide (a > 100) = true from decide_eq_true h2]
    repeat (first | refine Z0 ?_ | (refine ZR ?_; first | refine x1 ?_ | refine x2 ?_ | refine x8 ?_ | refine Z1 ?_ | refine Z2 ?_ | refine x3 fun _ => ?_ | refine x4 fun _ => ?_ | refine x5 fun _ => ?_ | refine Z3 fun _ => ?_ | refine Z4 fun _ => ?_) | refine ZC ?_)
    exact re_2 rfl rfl rfl (List.Sublist.refl _) hQ
  rw [show decide (a > 100) = false from decide_eq_false h2]
  repeat (first | refine Z0 ?_ | (refine ZR ?_; first | refine x1 ?_ | refine x2 ?_ | refine x8 ?_ | refine Z1 ?_ | refine Z2 ?_ | refine x3 fun _ => ?_ | refine x4 fun _ => ?_ | refine x5 fun _ => ?_ | refine Z3 fun _ => ?_ | refine Z4 fun _ => ?_) | refine ZC ?_)
  by_cases h3 : b < 1
  · rw [show decide (b < 1) = true from decide_eq_true h3]
    repeat (first | refine Z0 ?_ | (refine ZR ?_; first | refine x1 ?_ | refine x2 ?_ | refine x8 ?_ | refine Z1 ?_ | refine Z2 ?_ | refine x3 fun _ => ?_ | refine x4 fun _ => ?_ | refine x5 fun _ => ?_ | refine Z3 fun _ => ?_ | refine Z4 fun _ => ?_) | refine ZC ?_)
    exact re_2 rfl rfl rfl (List.Sublist.refl _) hQ
  rw [show decide (b < 1) = false from decide_eq_false h3]
  repeat (first | refine Z0 ?_ | (refine ZR ?_; first | refine x1 ?_ | refine x2 ?_ | refine x8 ?_ | refine Z1 ?_ | refine Z2 ?_ | refine x3 fun _ => ?_ | refine x4 fun _ => ?_ | refine x5 fun _ => ?_ | refine Z3 fun _ => ?_ | refine Z4 fun _ => ?_) | refine ZC ?_)
  rw [show decide (b > 10000) = true from decide_eq_true (by omega)]
  repeat (first | refine Z0 ?_ | (refine ZR ?_; first | refine x1 ?_ | refine x2 ?_ | refine x8 ?_ | refine Z1 ?_ | refine Z2 ?_ | refine x3 fun _ => ?_ | refine x4 fun _ => ?_ | refine x5 fun _ => ?_ | refine Z3 fun _ => ?_ | refine Z4 fun _ => ?_) | refine ZC ?_)
  exact re_2 rfl rfl rfl (List.Sublist.refl _) hQ
theorem leaf27 (x : S27) : leafsEq (en27 x) (en27 x) = true := by simp [leafsEq, leafEq, en27]
theorem same39_ct {ad ad2 : Option Addr} {c c2 : Nat} {A : List S27} (h1 : Arr (cx B0 old) H ad 5 en27 A) (h2 : Arr (cx B0 old) H ad2 5 en27 A) (hl : A.length ≤ 100000) (hQ : Q (.bool true) H) : CallT (cx B0 old) (acall (cx B0 old) ansP (n + 1)) 39 [.slice ad A.length c, .slice ad2 A.length c2] H Q := by
  refine call_in2 26 rfl Try.func39 rfl rfl ?_
  repeat (first | refine Z0 ?_ | (refine ZR ?_; first | refine x1 ?_ | refine x2 ?_ | refine x8 ?_ | refine Z1 ?_ | refine Z2 ?_ | refine x3 fun _ => ?_ | refine x4 fun _ => ?_ | refine x5 fun _ => ?_ | refine Z3 fun _ => ?_ | refine Z4 fun _ => ?_) | refine ZC ?_)
  refine ct_condT te_ne rfl (fun hc => absurd rfl hc) (fun _ => ?_)
  repeat (first | refine Z0 ?_ | (refine ZR ?_; first | refine x1 ?_ | refine x2 ?_ | refine x8 ?_ | refine Z1 ?_ | refine Z2 ?_ | refine x3 fun _ => ?_ | refine x4 fun _ => ?_ | refine x5 fun _ => ?_ | refine Z3 fun _ => ?_ | refine Z4 fun _ => ?_) | refine ZC ?_)
  refine loop_ind (ι := Nat) 0 (fun i => A.length - i) (fun i => i ≤ A.length) (fun i => [(5, .int .i64 (i : Int)), (0, .slice ad A.length c), (1, .slice ad2 A.length c2)]) (fun _ => H) (Nat.zero_le _) (by repeat (first | exact SubL.nil | refine SubL.cons rfl ?_)) (by exact drop_auto) ?_
  intro i hi
  repeat (first | refine Z0 ?_ | (refine ZR ?_; first | refine x1 ?_ | refine x2 ?_ | refine x8 ?_ | refine Z1 ?_ | refine Z2 ?_ | refine x3 fun _ => ?_ | refine x4 fun _ => ?_ | refine x5 fun _ => ?_ | refine Z3 fun _ => ?_ | refine Z4 fun _ => ?_) | refine ZC ?_)
  refine ct_condT te_d rfl (fun hc => ?_) (fun hc => ?_)
  · obtain ⟨a, ha⟩ : ∃ x, A[i]? = some x := ⟨_, List.getElem?_eq_getElem (by omega)⟩
    obtain ⟨b1, o1, e1, hL0⟩ := h1.ldW 27 ha rfl (sz rfl)
    obtain ⟨b2, o2, e2, hL1⟩ := h2.ldW 27 ha rfl (sz rfl)
    subst e1
    subst e2
    have hs := leaf27 a
    unfold en27 at hL0 hL1 hs
    repeat (first | refine Z0 ?_ | (refine ZR ?_; first | refine x1 ?_ | refine x2 ?_ | refine x8 ?_ | refine Z1 ?_ | refine Z2 ?_ | refine x3 fun _ => ?_ | refine x4 fun _ => ?_ | refine x5 fun _ => ?_ | refine Z3 fun _ => ?_ | refine Z4 fun _ => ?_) | refine ZC ?_)
    refine ct_draw (masks := [0, 0, 3, 7, 0, 0, 48, 112, 255]) (plan := [0, 1, 2, 3, 4, 5, 6, 7, 8]) (E := []) (by kernel_rfl) (by kernel_rfl) (by kernel_rfl) (by kernel_rfl) ?_
    repeat (first | refine Y0 ?_ | (refine YP ?_; first | refine y1 ?_ | refine y2 ?_ | refine Y1 ?_ | refine Y2 ?_))
    rw [hs]
    repeat (first | refine Y0 ?_ | (refine YP ?_; first | refine y1 ?_ | refine y2 ?_ | refine Y1 ?_ | refine Y2 ?_))
    repeat (first | refine Z0 ?_ | (refine ZR ?_; first | refine x1 ?_ | refine x2 ?_ | refine x8 ?_ | refine Z1 ?_ | refine Z2 ?_ | refine x3 fun _ => ?_ | refine x4 fun _ => ?_ | refine x5 fun _ => ?_ | refine Z3 fun _ => ?_ | refine Z4 fun _ => ?_) | refine ZC ?_)
    exact ⟨i + 1, by omega, by omega, by repeat (first | exact SubL.nil | refine SubL.cons rfl ?_), by exact drop_auto⟩
  · repeat (first | refine Z0 ?_ | (refine ZR ?_; first | refine x1 ?_ | refine x2 ?_ | refine x8 ?_ | refine Z1 ?_ | refine Z2 ?_ | refine x3 fun _ => ?_ | refine x4 fun _ => ?_ | refine x5 fun _ => ?_ | refine Z3 fun _ => ?_ | refine Z4 fun _ => ?_) | refine ZC ?_)
    exact re_1 rfl rfl (by exact drop_auto) hQ
/-- What the book's Settle comes to. -/
def StP' (lim win self : Int) (cl : Kk → Option (Int × Bool)) (mv : Kk → Option (List Int × Bool)) (last now : Int) (A : List N59) (B : List S27) (e : Int) (l : List N59) (cl' : Kk → Option (Int × Bool)) (mv' : Kk → Option (List Int × Bool)) (last' : Int) : Prop :=
  (chkT last now ≠ 0 ∧ e = chkT last now ∧ l = [] ∧ cl' = cl ∧ mv' = mv ∧ last' = last) ∨
  (chkT last now = 0 ∧ ¬ (SrtR (A.map kN) ∧ SrtR (B.map kR)) ∧ e = 10 ∧ l = [] ∧ cl' = cl ∧ mv' = mv ∧ last' = last) ∨
  (chkT last now = 0 ∧ (SrtR (A.map kN) ∧ SrtR (B.map kR)) ∧ e = 0 ∧ l = (A.filter fun x => (resK lim win self now cl mv B (kN x)).2.2) ∧ cl' = (fun k => if k ∈ A.map kN then (resK lim win self now cl mv B k).1 else none) ∧
    mv' = (fun k => if k ∈ A.map kN then (resK lim win self now cl mv B k).2.1 else clM win now (mv k)) ∧ last' = now)
theorem settleUW (hB : BkG lim win p last cl mv G) (hl : ∀ k, lenM (mv k) ≤ 2000) (self now : Int) (hwn : 0 ≤ win ∧ win ≤ 100000) {A : List N59} {B : List S27} (hA1 : A.length ≤ 1000) (hB1 : B.length ≤ 1000)
    (hwA : ∀ x ∈ A, okK (kN x)) (hwB : ∀ x ∈ B, okK (kR x)) {adn adr : Option Addr} {cn cr : Nat} (hn : Arr (cx B0 old) H adn 6 en59 A) (hrv : Arr (cx B0 old) H adr 5 en27 B)
    (hQ : ∀ e l cl' mv' last', StP' lim win self cl mv last now A B e l cl' mv' last' → ∀ v Gv G', Own en59 6 l v Gv → BkG lim win p last' cl' mv' G' → Q (.tuple #[v, .int .i64 e]) (Gv ++ (G' ++ H))) :
    CallT (cx B0 old) (acall (cx B0 old) ansP (n + 8)) 21 [.pointer (some ⟨p, 0, none⟩), .int .u32 self, .slice adn A.length cn, .slice adr B.length cr, .int .i64 now] (G ++ H) Q := by
  by_cases hck : chkT last now = 0
  · exact settleGW hB hl self now hck hwn hA1 hB1 hwA hwB hn hrv (fun h => hQ 10 [] cl mv last (.inr (.inl ⟨hck, h, rfl, rfl, rfl, rfl, rfl⟩)) _ [] G .nil hB)
      fun h1 h2 v Gv G' ho hB' => hQ 0 _ _ _ now (.inr (.inr ⟨hck, ⟨h1, h2⟩, rfl, rfl, rfl, rfl, rfl⟩)) v Gv G' ho hB'
  · exact settleEW hB self now hck (hQ _ [] cl mv last (.inl ⟨hck, rfl, rfl, rfl, rfl, rfl⟩) _ [] G .nil hB)
def StR' (lim win self : Int) (cl : Kk → Option (Int × Bool)) (M : List M3) (F : List Kk) (last now : Int) (A : List N59) (B : List S27) (e : Int) (l : List N59) (cl' : Kk → Option (Int × Bool)) (M' : List M3) (F' : List Kk) (last' : Int) : Prop :=
  (chkT last now ≠ 0 ∧ e = chkT last now ∧ l = [] ∧ cl' = cl ∧ M' = M ∧ F' = F ∧ last' = last) ∨
  (chkT last now = 0 ∧ ¬ (SrtR (A.map kN) ∧ SrtR (B.map kR)) ∧ e = 10 ∧ l = [] ∧ cl' = cl ∧ M' = M ∧ F' = F ∧ last' = last) ∨
  (chkT last now = 0 ∧ (SrtR (A.map kN) ∧ SrtR (B.map kR)) ∧ e = 0 ∧ ∃ S, S = refL lim win now self B A ⟨fun k => if k ∈ A.map kN then cl k else none, M, F, []⟩ ∧ l = S.g ∧ cl' = S.cl ∧ M' = S.M ∧ F' = S.F ∧ last' = now)
theorem rsettleUW (hB : RfB lim win q last cl M F R) (hcl : ∀ C, RelC C cl → C.length ≤ 2000) (hwn : 0 ≤ win ∧ win ≤ 100000) (self now : Int) {A : List N59} {B : List S27} (hA1 : A.length ≤ 1000) (hB1 : B.length ≤ 1000) (hl : M.length + A.length ≤ 2500) (hlf : F.length + A.length ≤ 2500)
    (hwA : ∀ x ∈ A, okK (kN x)) (hwB : ∀ x ∈ B, okK (kR x)) {adn adr : Option Addr} {cn cr : Nat} (hn : Arr (cx B0 old) X adn 6 en59 A) (hrv : Arr (cx B0 old) X adr 5 en27 B)
    (hQ : ∀ e l cl' M' F' last', StR' lim win self cl M F last now A B e l cl' M' F' last' → ∀ vg Gg R', Own en59 6 l vg Gg → RfB lim win q last' cl' M' F' R' → Q (.tuple #[vg, .int .i64 e]) (Gg ++ (G ++ (R' ++ X)))) :
    CallT (cx B0 old) (acall (cx B0 old) ansP (n + 4)) 37 [.pointer (some ⟨q, 0, none⟩), .int .u32 self, .slice adn A.length cn, .slice adr B.length cr, .int .i64 now] (G ++ (R ++ X)) Q :=
  rsettleW hB hcl hwn self now hA1 hB1 hl hlf hwA hwB hn hrv (fun h => hQ _ [] cl M F last (.inl ⟨h, rfl, rfl, rfl, rfl, rfl, rfl⟩) _ [] R .nil hB) (fun h1 h2 => hQ 10 [] cl M F last (.inr (.inl ⟨h1, h2, rfl, rfl, rfl, rfl, rfl, rfl⟩)) _ [] R .nil hB)
    fun h1 h2 h3 S hS R' vg Gg hR' og => hQ 0 _ _ _ _ now (.inr (.inr ⟨h1, ⟨h2, h3⟩, rfl, S, hS, rfl, rfl, rfl, rfl, rfl⟩)) vg Gg R' og hR'
end
theorem chk_le {last now : Int} (h : chkT last now = 0) : last ≤ now := by
  unfold chkT at h
  by_cases h1 : now < 0 ∨ now > 1099511627776
  · rw [if_pos h1] at h; cases h
  · rw [if_neg h1] at h
    by_cases h2 : now < last
    · rw [if_pos h2] at h; cases h
    · omega
/-- Both outcomes agree. -/
theorem st_both {lim win self last now : Int} {cl : Kk → Option (Int × Bool)} {mv : Kk → Option (List Int × Bool)} {M : List M3} {F : List Kk} (h : BothA win last mv M F) (hw : 1 ≤ win) {A : List N59} {B : List S27} {e e2 : Int} {l l2 : List N59} {cl1 cl2 : Kk → Option (Int × Bool)} {mv1 : Kk → Option (List Int × Bool)} {la1 la2 : Int} {M' : List M3} {F' : List Kk}
    (hP : StP' lim win self cl mv last now A B e l cl1 mv1 la1) (hR : StR' lim win self cl M F last now A B e2 l2 cl2 M' F' la2) :
    e2 = e ∧ l2 = l ∧ cl2 = cl1 ∧ la2 = la1 ∧ BothA win la1 mv1 M' F' ∧ M'.length ≤ M.length + A.length ∧ F'.length ≤ F.length + A.length ∧ (∀ k, lenM (mv1 k) ≤ lenM (mv k) + 1) ∧ ((cl1 = cl) ∨ ∀ k, cl1 k ≠ none → k ∈ A.map kN) ∧ l.length ≤ A.length := by
  rcases hP with ⟨c, rfl, rfl, rfl, rfl, rfl⟩ | ⟨c, c2, rfl, rfl, rfl, rfl, rfl⟩ | ⟨c, c2, rfl, rfl, rfl, rfl, hla⟩
  · rcases hR with ⟨d, rfl, rfl, rfl, rfl, rfl, rfl⟩ | ⟨d, _⟩ | ⟨d, _⟩
    · exact ⟨rfl, rfl, rfl, rfl, h, by omega, by omega, fun k => Nat.le_succ _, .inl rfl, Nat.zero_le _⟩
    · exact absurd d c
    · exact absurd d c
  · rcases hR with ⟨d, _⟩ | ⟨d, d2, rfl, rfl, rfl, rfl, rfl, rfl⟩ | ⟨d, d2, _⟩
    · exact absurd c d
    · exact ⟨rfl, rfl, rfl, rfl, h, by omega, by omega, fun k => Nat.le_succ _, .inl rfl, Nat.zero_le _⟩
    · exact absurd d2 c2
  · rcases hR with ⟨d, _⟩ | ⟨d, d2, _⟩ | ⟨d, d2, rfl, S, hS, rfl, rfl, rfl, rfl, hlb⟩
    · exact absurd c d
    · exact absurd c2 d2
    · subst la1
      subst la2
      obtain ⟨a1, a2, a3⟩ := h.settle (cl := cl) (chk_le c) hw B (srtR_nodup c2.1) hS
      have hlen := refL_len lim win now self B A ⟨fun k => if k ∈ A.map kN then cl k else none, M, F, []⟩
      rw [← hS] at hlen
      refine ⟨rfl, a2.symm, a1.symm, rfl, a3, hlen.1, hlen.2, fun k => ?_, .inr fun k hk => ?_, List.length_filter_le _ _⟩
      · dsimp only
        split
        · exact rule0_len lim win self now (cl k) (mv k) (rvOf B k)
        · exact Nat.le_succ_of_le (clM_len win now (mv k))
      · by_cases g : k ∈ A.map kN
        · exact g
        · dsimp only at hk
          rw [if_neg g] at hk
          exact absurd rfl hk
end Go.Proofs.Ytoimfchhmocgeaa.Abs

/- The contract of the statement MobilityScript, the walk. -/
namespace Go.Proofs.Ytoimfchhmocgeaa.Abs
open Go
set_option linter.unusedVariables false
theorem sc_a {t : Nat × AObj} {G R H : Hp} : (G ++ (R ++ (t :: H))).Perm (t :: (G ++ (R ++ H))) :=
  pmF (fun i => match i with | 0 => [t] | 1 => G | _ => R) (a := [1, 2, 0]) (b := [0, 1, 2]) (by decide)
structure ScS where
  i : Nat
  cl : Kk → Option (Int × Bool)
  mv : Kk → Option (List Int × Bool)
  last : Int
  now : Int
  p : Nat
  q : Nat
  G : Hp
  R : Hp
  M : List M3
  F : List Kk
  Kl : List Kk
structure ScI (lim win : Int) (s : ScS) : Prop where
  bk : BkG lim win s.p s.last s.cl s.mv s.G
  rf : RfB lim win s.q s.last s.cl s.M s.F s.R
  ag : BothA win s.last s.mv s.M s.F
  cov : CovK s.Kl s.cl
  lm : ∀ k, lenM (s.mv k) ≤ s.i
  ml : s.M.length ≤ 31 * s.i
  fl : s.F.length ≤ 31 * s.i
theorem ScI.len {lim win : Int} {s : ScS} (h : ScI lim win s) : ∀ C, RelC C s.cl → C.length ≤ 2000 := fun C hC => by
  have h1 := rel_len hC (L := s.Kl) fun k hk => by
    cases e : s.cl k with
    | none => exact absurd e hk
    | some a => exact h.cov.2.2 k a e
  have h2 := h.cov.1
  omega
theorem ScI.next {lim win : Int} {i : Nat} {cl : Kk → Option (Int × Bool)} {mv : Kk → Option (List Int × Bool)} {last now now2 : Int} {p q : Nat} {G R : Hp} {M : List M3} {F Kl : List Kk} (h : ScI lim win ⟨i, cl, mv, last, now, p, q, G, R, M, F, Kl⟩) : ScI lim win ⟨i + 1, cl, mv, last, now2, p, q, G, R, M, F, Kl⟩ :=
  ⟨h.bk, h.rf, h.ag, h.cov, fun k => Nat.le_succ_of_le (h.lm k), by have := h.ml; dsimp only at this ⊢; omega, by have := h.fl; dsimp only at this ⊢; omega⟩
theorem cov_upd {L : List Kk} {cl : Kk → Option (Int × Bool)} {K : Kk} (h : CovK L cl) (v : Option (Int × Bool)) (hv : v ≠ none → cl K ≠ none) : CovK L (updF cl K v) := ⟨h.1, h.2.1, fun k a e => by
  by_cases g : k = K
  · subst g
    rw [updF_eq] at e
    cases hc : cl k with
    | none => exact absurd hc (hv (by rw [e]; simp))
    | some a' => exact h.2.2 k a' hc
  · rw [updF_ne _ _ g] at e
    exact h.2.2 k a e⟩
theorem sc_b {V G R X : Hp} : (G ++ (V ++ (R ++ X))).Perm (V ++ (R ++ (G ++ X))) :=
  pmF (fun i => match i with | 0 => V | 1 => G | _ => R) (a := [1, 0, 2]) (b := [0, 2, 1]) (by decide)
theorem sc_c {A B G R X : Hp} : (G ++ (R ++ (A ++ (B ++ X)))).Perm (A ++ (B ++ (G ++ (R ++ X)))) :=
  pmF (fun i => match i with | 0 => A | 1 => B | 2 => G | _ => R) (a := [2, 3, 0, 1]) (b := [0, 1, 2, 3]) (by decide)
theorem sc_d {V G R X : Hp} : (G ++ (R ++ (V ++ X))).Perm (V ++ (G ++ (R ++ X))) :=
  pmF (fun i => match i with | 0 => V | 1 => G | _ => R) (a := [1, 2, 0]) (b := [0, 1, 2]) (by decide)
theorem sc_e {U V A B G R X : Hp} : (U ++ (V ++ (A ++ (B ++ (G ++ (R ++ X)))))).Perm (U ++ (G ++ (R ++ (V ++ (A ++ (B ++ X)))))) :=
  pmF (fun i => match i with | 0 => U | 1 => V | 2 => A | 3 => B | 4 => G | _ => R) (a := [0, 1, 2, 3, 4, 5]) (b := [0, 4, 5, 1, 2, 3]) (by decide)
section
variable {B0 : Nat} {old : Nat → Option (List Value)} {n : Nat} {H : Hp} {Q : Value → Hp → Prop}
set_option maxRecDepth 10000
set_option maxHeartbeats 32000000
theorem awake13_ct (hQ : Q (.bool true) H) : CallT (cx B0 old) (acall (cx B0 old) ansP (n + 1)) 13 [] H Q := call_ext rfl hQ
theorem script9_ct {ad : Option Addr} {c : Nat} {L : List S52} (hL : Arr (cx B0 old) [] ad 7 en52 L) (hact : ∀ x ∈ L, ActI (cx B0 old) [] x) (a b : Int) (hQ : ∀ H', Q (.bool true) H') :
    CallT (cx B0 old) (acall (cx B0 old) ansP (n + 2018)) 9 [.int .i64 a, .int .i64 b, .slice ad L.length c] [] Q := by
  refine call_in3 223 rfl Try.func9 rfl rfl ?_
  repeat (first | refine Z0 ?_ | (refine ZR ?_; first | refine x1 ?_ | refine x2 ?_ | refine x8 ?_ | refine Z1 ?_ | refine Z2 ?_ | refine x3 fun _ => ?_ | refine x4 fun _ => ?_ | refine x5 fun _ => ?_ | refine Z3 fun _ => ?_ | refine Z4 fun _ => ?_) | refine ZC ?_)
  by_cases h60 : L.length > 60
  · rw [show decide ((L.length : Int) > 60) = true from decide_eq_true (by omega)]
    repeat (first | refine Z0 ?_ | (refine ZR ?_; first | refine x1 ?_ | refine x2 ?_ | refine x8 ?_ | refine Z1 ?_ | refine Z2 ?_ | refine x3 fun _ => ?_ | refine x4 fun _ => ?_ | refine x5 fun _ => ?_ | refine Z3 fun _ => ?_ | refine Z4 fun _ => ?_) | refine ZC ?_)
    refine rt_step rfl rfl rfl (st_call rfl rfl rfl rfl (awake13_ct ?_))
    repeat (first | refine Z0 ?_ | (refine ZR ?_; first | refine x1 ?_ | refine x2 ?_ | refine x8 ?_ | refine Z1 ?_ | refine Z2 ?_ | refine x3 fun _ => ?_ | refine x4 fun _ => ?_ | refine x5 fun _ => ?_ | refine Z3 fun _ => ?_ | refine Z4 fun _ => ?_) | refine ZC ?_)
    exact re_1 rfl rfl (List.Sublist.refl _) (hQ _)
  rw [show decide ((L.length : Int) > 60) = false from decide_eq_false (by omega)]
  repeat (first | refine Z0 ?_ | (refine ZR ?_; first | refine x1 ?_ | refine x2 ?_ | refine x8 ?_ | refine Z1 ?_ | refine Z2 ?_ | refine x3 fun _ => ?_ | refine x4 fun _ => ?_ | refine x5 fun _ => ?_ | refine Z3 fun _ => ?_ | refine Z4 fun _ => ?_) | refine ZC ?_)
  by_cases hok : (1 ≤ a ∧ a ≤ 100) ∧ 1 ≤ b ∧ b ≤ 10000
  rotate_left
  · refine rt_step rfl rfl rfl (st_call rfl rfl rfl rfl (newBad15_ct a b hok ?_))
    repeat (first | refine Z0 ?_ | (refine ZR ?_; first | refine x1 ?_ | refine x2 ?_ | refine x8 ?_ | refine Z1 ?_ | refine Z2 ?_ | refine x3 fun _ => ?_ | refine x4 fun _ => ?_ | refine x5 fun _ => ?_ | refine Z3 fun _ => ?_ | refine Z4 fun _ => ?_) | refine ZC ?_)
    refine rt_step rfl rfl rfl (st_call rfl rfl rfl rfl (rnew30_ct a b (fun _ => ?_) (fun h => absurd h hok)))
    repeat (first | refine Z0 ?_ | (refine ZR ?_; first | refine x1 ?_ | refine x2 ?_ | refine x8 ?_ | refine Z1 ?_ | refine Z2 ?_ | refine x3 fun _ => ?_ | refine x4 fun _ => ?_ | refine x5 fun _ => ?_ | refine Z3 fun _ => ?_ | refine Z4 fun _ => ?_) | refine ZC ?_)
    refine loop_ind (ι := Unit) () (fun _ => 0) (fun _ => True) (fun _ => [(9, .pointer none)]) (fun _ => []) trivial (by repeat (first | exact SubL.nil | refine SubL.cons rfl ?_)) (by exact drop_auto) ?_
    rintro _ _
    repeat (first | refine Z0 ?_ | (refine ZR ?_; first | refine x1 ?_ | refine x2 ?_ | refine x8 ?_ | refine Z1 ?_ | refine Z2 ?_ | refine x3 fun _ => ?_ | refine x4 fun _ => ?_ | refine x5 fun _ => ?_ | refine Z3 fun _ => ?_ | refine Z4 fun _ => ?_) | refine ZC ?_)
    refine rt_step rfl rfl rfl (st_call rfl rfl rfl rfl (awake13_ct ?_))
    repeat (first | refine Z0 ?_ | (refine ZR ?_; first | refine x1 ?_ | refine x2 ?_ | refine x8 ?_ | refine Z1 ?_ | refine Z2 ?_ | refine x3 fun _ => ?_ | refine x4 fun _ => ?_ | refine x5 fun _ => ?_ | refine Z3 fun _ => ?_ | refine Z4 fun _ => ?_) | refine ZC ?_)
    exact re_1 rfl rfl (List.Sublist.refl _) (hQ _)
  obtain ⟨⟨ha1, ha2⟩, hb1, hb2⟩ := hok
  refine rt_step rfl rfl rfl (st_call rfl rfl rfl rfl (newGW a b ⟨ha1, ha2⟩ ⟨hb1, hb2⟩ fun p G hB => ?_))
  repeat (first | refine Z0 ?_ | (refine ZR ?_; first | refine x1 ?_ | refine x2 ?_ | refine x8 ?_ | refine Z1 ?_ | refine Z2 ?_ | refine x3 fun _ => ?_ | refine x4 fun _ => ?_ | refine x5 fun _ => ?_ | refine Z3 fun _ => ?_ | refine Z4 fun _ => ?_) | refine ZC ?_)
  refine rt_step rfl rfl rfl (st_call rfl rfl rfl rfl (rnew30_ct a b (fun h => absurd ⟨⟨ha1, ha2⟩, hb1, hb2⟩ h) (fun _ q R hR => ?_)))
  refine RunT.perm ?_ (show (G ++ (R ++ [])).Perm (R ++ (G ++ [])) from List.perm_append_comm_assoc G R [])
  repeat (first | refine Z0 ?_ | (refine ZR ?_; first | refine x1 ?_ | refine x2 ?_ | refine x8 ?_ | refine Z1 ?_ | refine Z2 ?_ | refine x3 fun _ => ?_ | refine x4 fun _ => ?_ | refine x5 fun _ => ?_ | refine Z3 fun _ => ?_ | refine Z4 fun _ => ?_) | refine ZC ?_)
  refine loop_ind (ι := ScS) ⟨0, fun _ => none, fun _ => none, 0, 0, p, q, G, R, [], [], []⟩ (fun s => L.length - s.i) (fun s => s.i ≤ L.length ∧ ScI a b s)
    (fun s => [(12, .int .i64 (s.i : Int)), (11, .int .i64 s.now), (9, .pointer (some ⟨s.q, 0, none⟩)), (7, .pointer (some ⟨s.p, 0, none⟩)), (2, .slice ad L.length c)]) (fun s => s.G ++ (s.R ++ []))
    ⟨Nat.zero_le _, ⟨hB, ⟨[], hR, List.Pairwise.nil, fun x h => (by cases h), fun k h => absurd rfl h⟩, BothA.zero b, ⟨Nat.zero_le _, fun k h => (by cases h), fun k a h => (by cases h)⟩, fun k => Nat.le_refl _, Nat.le_refl _, Nat.le_refl _⟩⟩ (by repeat (first | exact SubL.nil | refine SubL.cons rfl ?_)) (List.Sublist.refl _) ?_
  clear hB hR
  rintro ⟨i, cl, mv, last, now, p, q, G, R, M, F, Kl⟩ ⟨hi, hI⟩
  dsimp only at hi ⊢
  repeat (first | refine Z0 ?_ | (refine ZR ?_; first | refine x1 ?_ | refine x2 ?_ | refine x8 ?_ | refine Z1 ?_ | refine Z2 ?_ | refine x3 fun _ => ?_ | refine x4 fun _ => ?_ | refine x5 fun _ => ?_ | refine Z3 fun _ => ?_ | refine Z4 fun _ => ?_) | refine ZC ?_)
  refine ct_condT te_d rfl (fun hlt => ?_) (fun hlt => ?_)
  rotate_left
  · repeat (first | refine Z0 ?_ | (refine ZR ?_; first | refine x1 ?_ | refine x2 ?_ | refine x8 ?_ | refine Z1 ?_ | refine Z2 ?_ | refine x3 fun _ => ?_ | refine x4 fun _ => ?_ | refine x5 fun _ => ?_ | refine Z3 fun _ => ?_ | refine Z4 fun _ => ?_) | refine ZC ?_)
    refine rt_step rfl rfl rfl (st_call rfl rfl rfl rfl (awake13_ct ?_))
    repeat (first | refine Z0 ?_ | (refine ZR ?_; first | refine x1 ?_ | refine x2 ?_ | refine x8 ?_ | refine Z1 ?_ | refine Z2 ?_ | refine x3 fun _ => ?_ | refine x4 fun _ => ?_ | refine x5 fun _ => ?_ | refine Z3 fun _ => ?_ | refine Z4 fun _ => ?_) | refine ZC ?_)
    exact re_1 rfl rfl (List.Sublist.refl _) (hQ _)
  obtain ⟨x, hx⟩ : ∃ x, L[i]? = some x := ⟨_, List.getElem?_eq_getElem (by omega)⟩
  obtain ⟨A, B, adn, adr, cn, cr, e3, e4, hA, hBr, hwA, hwB⟩ := hact x (List.mem_iff_getElem?.2 ⟨i, hx⟩)
  obtain ⟨b1, o1, e1, hL0⟩ := hL.ldW 52 hx rfl (sz rfl)
  subst e1
  obtain ⟨kd, sp, self, s3, s4, bd, mac⟩ := x
  dsimp only at e3 e4
  subst e3
  subst e4
  unfold en52 at hL0
  dsimp only at hL0
  repeat (first | refine Z0 ?_ | (refine ZR ?_; first | refine x1 ?_ | refine x2 ?_ | refine x8 ?_ | refine Z1 ?_ | refine Z2 ?_ | refine x3 fun _ => ?_ | refine x4 fun _ => ?_ | refine x5 fun _ => ?_ | refine Z3 fun _ => ?_ | refine Z4 fun _ => ?_) | refine ZC ?_)
  rename_i t13
  by_cases hA30 : A.length > 30
  · rw [show decide ((A.length : Int) > 30) = true from decide_eq_true (by omega)]
    repeat (first | refine Z0 ?_ | (refine ZR ?_; first | refine x1 ?_ | refine x2 ?_ | refine x8 ?_ | refine Z1 ?_ | refine Z2 ?_ | refine x3 fun _ => ?_ | refine x4 fun _ => ?_ | refine x5 fun _ => ?_ | refine Z3 fun _ => ?_ | refine Z4 fun _ => ?_) | refine ZC ?_)
    refine rt_step rfl rfl rfl (st_call rfl rfl rfl rfl (awake13_ct ?_))
    repeat (first | refine Z0 ?_ | (refine ZR ?_; first | refine x1 ?_ | refine x2 ?_ | refine x8 ?_ | refine Z1 ?_ | refine Z2 ?_ | refine x3 fun _ => ?_ | refine x4 fun _ => ?_ | refine x5 fun _ => ?_ | refine Z3 fun _ => ?_ | refine Z4 fun _ => ?_) | refine ZC ?_)
    exact re_1 rfl rfl (List.Sublist.refl _) (hQ _)
  rw [show decide ((A.length : Int) > 30) = false from decide_eq_false (by omega)]
  repeat (first | refine Z0 ?_ | (refine ZR ?_; first | refine x1 ?_ | refine x2 ?_ | refine x8 ?_ | refine Z1 ?_ | refine Z2 ?_ | refine x3 fun _ => ?_ | refine x4 fun _ => ?_ | refine x5 fun _ => ?_ | refine Z3 fun _ => ?_ | refine Z4 fun _ => ?_) | refine ZC ?_)
  by_cases hB30 : B.length > 30
  · rw [show decide ((B.length : Int) > 30) = true from decide_eq_true (by omega)]
    repeat (first | refine Z0 ?_ | (refine ZR ?_; first | refine x1 ?_ | refine x2 ?_ | refine x8 ?_ | refine Z1 ?_ | refine Z2 ?_ | refine x3 fun _ => ?_ | refine x4 fun _ => ?_ | refine x5 fun _ => ?_ | refine Z3 fun _ => ?_ | refine Z4 fun _ => ?_) | refine ZC ?_)
    refine rt_step rfl rfl rfl (st_call rfl rfl rfl rfl (awake13_ct ?_))
    repeat (first | refine Z0 ?_ | (refine ZR ?_; first | refine x1 ?_ | refine x2 ?_ | refine x8 ?_ | refine Z1 ?_ | refine Z2 ?_ | refine x3 fun _ => ?_ | refine x4 fun _ => ?_ | refine x5 fun _ => ?_ | refine Z3 fun _ => ?_ | refine Z4 fun _ => ?_) | refine ZC ?_)
    exact re_1 rfl rfl (List.Sublist.refl _) (hQ _)
  rw [show decide ((B.length : Int) > 30) = false from decide_eq_false (by omega)]
  repeat (first | refine Z0 ?_ | (refine ZR ?_; first | refine x1 ?_ | refine x2 ?_ | refine x8 ?_ | refine Z1 ?_ | refine Z2 ?_ | refine x3 fun _ => ?_ | refine x4 fun _ => ?_ | refine x5 fun _ => ?_ | refine Z3 fun _ => ?_ | refine Z4 fun _ => ?_) | refine ZC ?_)
  refine rt_step rfl rfl rfl (st_call rfl rfl rfl rfl (pick24_ct kd 7 (by decide) (by decide) fun k hk0 hk1 => ?_))
  refine RunT.perm ?_ (sc_a (G := G) (R := R) (H := []))
  repeat (first | refine Z0 ?_ | (refine ZR ?_; first | refine x1 ?_ | refine x2 ?_ | refine x8 ?_ | refine Z1 ?_ | refine Z2 ?_ | refine x3 fun _ => ?_ | refine x4 fun _ => ?_ | refine x5 fun _ => ?_ | refine Z3 fun _ => ?_ | refine Z4 fun _ => ?_) | refine ZC ?_)
  have hI' := hI
  obtain ⟨hB, hRf, hAg, hcov, hmv, hml, hfl⟩ := hI
  have hclen := hI'.len
  dsimp only at hB hRf hAg hcov hmv hml hfl hclen
  have hi60 : i < 60 := by omega
  have hmv2 : ∀ k, lenM (mv k) ≤ 2000 := fun k => by have := hmv k; omega
  have hwn : 0 ≤ b ∧ b ≤ 100000 := ⟨by omega, by omega⟩
  refine ct_midB (ι := ScS) (fun s => s.i = i + 1 ∧ ScI a b s) (fun s => [(12, .int .i64 (i : Int)), (11, .int .i64 s.now), (9, .pointer (some ⟨s.q, 0, none⟩)), (7, .pointer (some ⟨s.p, 0, none⟩)), (13, .pointer (some ⟨t13, 0, none⟩)), (2, .slice (some ⟨b1, o1, none⟩) L.length c)])
    (fun s => s.G ++ (s.R ++ ((t13, AObj.row [.int .i64 kd, .int .i64 sp, .int .u32 self, .slice adn A.length cn, .slice adr B.length cr, .int .i64 bd, .int .u64 mac] 7 false) :: []))) ?_ ?_
  rotate_left
  · rintro s ⟨hs, hI2⟩
    have hfl2 := hI2.fl
    repeat (first | refine Z0 ?_ | (refine ZR ?_; first | refine x1 ?_ | refine x2 ?_ | refine x8 ?_ | refine Z1 ?_ | refine Z2 ?_ | refine x3 fun _ => ?_ | refine x4 fun _ => ?_ | refine x5 fun _ => ?_ | refine Z3 fun _ => ?_ | refine Z4 fun _ => ?_) | refine ZC ?_)
    refine rt_step rfl rfl rfl (st_call rfl rfl rfl rfl (same40_ct (n := n) hI2.bk hI2.rf hI2.ag hI2.cov (by omega) (hA.weak (List.nil_sublist _)) (by omega) kd sp self (adr, B.length, cr) ⟨bd, mac⟩ ?_))
    repeat (first | refine Z0 ?_ | (refine ZR ?_; first | refine x1 ?_ | refine x2 ?_ | refine x8 ?_ | refine Z1 ?_ | refine Z2 ?_ | refine x3 fun _ => ?_ | refine x4 fun _ => ?_ | refine x5 fun _ => ?_ | refine Z3 fun _ => ?_ | refine Z4 fun _ => ?_) | refine ZC ?_)
    exact ⟨s, ⟨by omega, hI2⟩, by omega, .cons (by rw [hs]; rfl) (by repeat (first | exact SubL.nil | refine SubL.cons rfl ?_)), by exact drop_auto⟩
  by_cases h3 : k = 3
  · rw [show (k == 3) = true from beq_iff_eq.2 h3]
    repeat (first | refine Z0 ?_ | (refine ZR ?_; first | refine x1 ?_ | refine x2 ?_ | refine x8 ?_ | refine Z1 ?_ | refine Z2 ?_ | refine x3 fun _ => ?_ | refine x4 fun _ => ?_ | refine x5 fun _ => ?_ | refine Z3 fun _ => ?_ | refine Z4 fun _ => ?_) | refine ZC ?_)
    generalize IntKind.i64.wrap (now + sp) = now2
    refine rt_step rfl rfl rfl (st_call rfl rfl rfl rfl (movedGW (n := n + 2011) hB hmv2 ⟨bd, mac⟩ now2 hwn (fun hc => ?_) (fun hc hn => ?_) (fun s hc hf => ?_) fun s G' hc hs hB' => ?_))
    · repeat (first | refine Z0 ?_ | (refine ZR ?_; first | refine x1 ?_ | refine x2 ?_ | refine x8 ?_ | refine Z1 ?_ | refine Z2 ?_ | refine x3 fun _ => ?_ | refine x4 fun _ => ?_ | refine x5 fun _ => ?_ | refine Z3 fun _ => ?_ | refine Z4 fun _ => ?_) | refine ZC ?_)
      refine rt_step rfl rfl rfl (st_call rfl rfl rfl rfl (rmovedW (n := n + 2013) hRf hclen (by omega) (by omega) hwn ⟨bd, mac⟩ now2 (fun _ => ?_) (fun c0 => absurd c0 hc) (fun s c0 => absurd c0 hc) (fun s b2 R' c0 => absurd c0 hc)))
      generalize chkT last now2 = ce at *
      repeat (first | refine Z0 ?_ | (refine ZR ?_; first | refine x1 ?_ | refine x2 ?_ | refine x8 ?_ | refine Z1 ?_ | refine Z2 ?_ | refine x3 fun _ => ?_ | refine x4 fun _ => ?_ | refine x5 fun _ => ?_ | refine Z3 fun _ => ?_ | refine Z4 fun _ => ?_) | refine ZC ?_)
      rw [show (ce != ce) = false from bne_self_eq_false ce]
      repeat (first | refine Z0 ?_ | (refine ZR ?_; first | refine x1 ?_ | refine x2 ?_ | refine x8 ?_ | refine Z1 ?_ | refine Z2 ?_ | refine x3 fun _ => ?_ | refine x4 fun _ => ?_ | refine x5 fun _ => ?_ | refine Z3 fun _ => ?_ | refine Z4 fun _ => ?_) | refine ZC ?_)
      exact ⟨⟨i + 1, cl, mv, last, now2, p, q, G, R, M, F, Kl⟩, ⟨rfl, hI'.next⟩, by repeat (first | exact SubL.nil | refine SubL.cons rfl ?_), List.Sublist.refl _⟩
    · repeat (first | refine Z0 ?_ | (refine ZR ?_; first | refine x1 ?_ | refine x2 ?_ | refine x8 ?_ | refine Z1 ?_ | refine Z2 ?_ | refine x3 fun _ => ?_ | refine x4 fun _ => ?_ | refine x5 fun _ => ?_ | refine Z3 fun _ => ?_ | refine Z4 fun _ => ?_) | refine ZC ?_)
      refine rt_step rfl rfl rfl (st_call rfl rfl rfl rfl (rmovedW (n := n + 2013) hRf hclen (by omega) (by omega) hwn ⟨bd, mac⟩ now2 (fun c0 => absurd hc c0) (fun _ _ => ?_) (fun s _ h0 => absurd (hn.symm.trans h0) (by simp)) (fun s b2 R' _ h0 => absurd (hn.symm.trans h0) (by simp))))
      repeat (first | refine Z0 ?_ | (refine ZR ?_; first | refine x1 ?_ | refine x2 ?_ | refine x8 ?_ | refine Z1 ?_ | refine Z2 ?_ | refine x3 fun _ => ?_ | refine x4 fun _ => ?_ | refine x5 fun _ => ?_ | refine Z3 fun _ => ?_ | refine Z4 fun _ => ?_) | refine ZC ?_)
      exact ⟨⟨i + 1, cl, mv, last, now2, p, q, G, R, M, F, Kl⟩, ⟨rfl, hI'.next⟩, by repeat (first | exact SubL.nil | refine SubL.cons rfl ?_), List.Sublist.refl _⟩
    · repeat (first | refine Z0 ?_ | (refine ZR ?_; first | refine x1 ?_ | refine x2 ?_ | refine x8 ?_ | refine Z1 ?_ | refine Z2 ?_ | refine x3 fun _ => ?_ | refine x4 fun _ => ?_ | refine x5 fun _ => ?_ | refine Z3 fun _ => ?_ | refine Z4 fun _ => ?_) | refine ZC ?_)
      refine rt_step rfl rfl rfl (st_call rfl rfl rfl rfl (rmovedW (n := n + 2013) hRf hclen (by omega) (by omega) hwn ⟨bd, mac⟩ now2 (fun c0 => absurd hc c0) (fun _ h0 => absurd (hf.symm.trans h0) (by simp)) (fun s2 _ _ => ?_) (fun s2 b2 R' _ h0 => absurd (hf.symm.trans h0) (by simp))))
      repeat (first | refine Z0 ?_ | (refine ZR ?_; first | refine x1 ?_ | refine x2 ?_ | refine x8 ?_ | refine Z1 ?_ | refine Z2 ?_ | refine x3 fun _ => ?_ | refine x4 fun _ => ?_ | refine x5 fun _ => ?_ | refine Z3 fun _ => ?_ | refine Z4 fun _ => ?_) | refine ZC ?_)
      exact ⟨⟨i + 1, cl, mv, last, now2, p, q, G, R, M, F, Kl⟩, ⟨rfl, hI'.next⟩, by repeat (first | exact SubL.nil | refine SubL.cons rfl ?_), List.Sublist.refl _⟩
    · repeat (first | refine Z0 ?_ | (refine ZR ?_; first | refine x1 ?_ | refine x2 ?_ | refine x8 ?_ | refine Z1 ?_ | refine Z2 ?_ | refine x3 fun _ => ?_ | refine x4 fun _ => ?_ | refine x5 fun _ => ?_ | refine Z3 fun _ => ?_ | refine Z4 fun _ => ?_) | refine ZC ?_)
      refine rt_step rfl rfl rfl (st_call rfl rfl rfl rfl (rmovedW (n := n + 2013) hRf hclen (by omega) (by omega) hwn ⟨bd, mac⟩ now2 (fun c0 => absurd hc c0) (fun _ h0 => absurd (hs.symm.trans h0) (by simp)) (fun s2 _ h0 => absurd (hs.symm.trans h0) (by simp)) (fun s2 b2 R' _ hs2 hb2 hR' => ?_)))
      obtain rfl : s2 = s := by have := hs.symm.trans hs2; simp only [Option.some.injEq, Prod.mk.injEq] at this; exact this.1.symm
      obtain ⟨hm1, hm2⟩ := hAg.moved (lim := a) (chk_le hc) hb1 ⟨bd, mac⟩
      have hb3 : b2 = tooM a b now2 (mv ⟨bd, mac⟩) := hb2.trans hm1.symm
      subst hb3
      have hI2 : ScI a b ⟨i + 1, updF cl ⟨bd, mac⟩ (some (aft s2, tooM a b now2 (mv ⟨bd, mac⟩))), updF mv ⟨bd, mac⟩ (some (moveL b now2 (mv ⟨bd, mac⟩) ++ [now2], moveF (mv ⟨bd, mac⟩) || tooM a b now2 (mv ⟨bd, mac⟩))), now2, now2, p, q, G', R', M ++ [⟨bd, mac, now2⟩], if tooM a b now2 (mv ⟨bd, mac⟩) = true then F ++ [⟨bd, mac⟩] else F, Kl⟩ := by
        refine ⟨hB', hR', hm2, cov_upd hcov _ (fun _ => by rw [hs]; simp), fun k => ?_, ?_, ?_⟩
        · dsimp only
          by_cases g : k = ⟨bd, mac⟩
          · rw [g, updF_eq]
            show (moveL b now2 (mv ⟨bd, mac⟩) ++ [now2]).length ≤ i + 1
            rw [List.length_append, List.length_singleton]
            have := moveL_len b now2 (mv ⟨bd, mac⟩)
            have := hmv ⟨bd, mac⟩
            omega
          · rw [updF_ne _ _ g]
            exact Nat.le_succ_of_le (hmv k)
        · dsimp only
          rw [List.length_append, List.length_singleton]
          omega
        · dsimp only
          split
          · rw [List.length_append, List.length_singleton]; omega
          · omega
      generalize tooM a b now2 (mv ⟨bd, mac⟩) = tb at *
      repeat (first | refine Z0 ?_ | (refine ZR ?_; first | refine x1 ?_ | refine x2 ?_ | refine x8 ?_ | refine Z1 ?_ | refine Z2 ?_ | refine x3 fun _ => ?_ | refine x4 fun _ => ?_ | refine x5 fun _ => ?_ | refine Z3 fun _ => ?_ | refine Z4 fun _ => ?_) | refine ZC ?_)
      rw [beq_self_eq_true, Bool.not_true]
      repeat (first | refine Z0 ?_ | (refine ZR ?_; first | refine x1 ?_ | refine x2 ?_ | refine x8 ?_ | refine Z1 ?_ | refine Z2 ?_ | refine x3 fun _ => ?_ | refine x4 fun _ => ?_ | refine x5 fun _ => ?_ | refine Z3 fun _ => ?_ | refine Z4 fun _ => ?_) | refine ZC ?_)
      exact ⟨_, ⟨rfl, hI2⟩, by repeat (first | exact SubL.nil | refine SubL.cons rfl ?_), List.Sublist.refl _⟩
  rw [show (k == 3) = false from beq_eq_false_iff_ne.2 h3]
  repeat (first | refine Z0 ?_ | (refine ZR ?_; first | refine x1 ?_ | refine x2 ?_ | refine x8 ?_ | refine Z1 ?_ | refine Z2 ?_ | refine x3 fun _ => ?_ | refine x4 fun _ => ?_ | refine x5 fun _ => ?_ | refine Z3 fun _ => ?_ | refine Z4 fun _ => ?_) | refine ZC ?_)
  by_cases h4 : k = 4
  · rw [show (k == 4) = true from beq_iff_eq.2 h4]
    repeat (first | refine Z0 ?_ | (refine ZR ?_; first | refine x1 ?_ | refine x2 ?_ | refine x8 ?_ | refine Z1 ?_ | refine Z2 ?_ | refine x3 fun _ => ?_ | refine x4 fun _ => ?_ | refine x5 fun _ => ?_ | refine Z3 fun _ => ?_ | refine Z4 fun _ => ?_) | refine ZC ?_)
    have hmF := (hAg.at_ ⟨bd, mac⟩).1
    refine ct_draw (masks := [0, 0, 2, 0, 8, 31, 0, 0, 128, 0, 512, 2047, 4095]) (plan := [0, 1, 2, 3, 4, 6, 7, 8, 9, 10, 5, 11, 12]) (E := []) (by kernel_rfl) (by kernel_rfl) (by kernel_rfl) (by kernel_rfl) ?_
    repeat (first | refine Y0 ?_ | (refine YP ?_; first | refine y1 ?_ | refine y2 ?_ | refine Y1 ?_ | refine Y2 ?_))
    refine pl_S rfl rfl rfl rfl rfl rfl (st_call rfl rfl rfl rfl (clearGW (n := n + 2015) hB ⟨bd, mac⟩ (fun hun => ⟨by exact rec_auto, ?_⟩) (fun G' hmf hB' => ⟨by exact rec_auto, ?_⟩)))
    · rw [hmF] at hun
      repeat (first | refine Y0 ?_ | (refine YP ?_; first | refine y1 ?_ | refine y2 ?_ | refine Y1 ?_ | refine Y2 ?_))
      refine pl_S rfl rfl rfl rfl rfl rfl (st_call rfl rfl rfl rfl (rclearW (n := n + 2013) hRf hclen (by omega) (by omega) ⟨bd, mac⟩ (fun _ => ⟨by exact rec_auto, ?_⟩) (fun R' hin => absurd hin (of_decide_eq_false hun))))
      repeat (first | refine Y0 ?_ | (refine YP ?_; first | refine y1 ?_ | refine y2 ?_ | refine Y1 ?_ | refine Y2 ?_))
      repeat (first | refine Z0 ?_ | (refine ZR ?_; first | refine x1 ?_ | refine x2 ?_ | refine x8 ?_ | refine Z1 ?_ | refine Z2 ?_ | refine x3 fun _ => ?_ | refine x4 fun _ => ?_ | refine x5 fun _ => ?_ | refine Z3 fun _ => ?_ | refine Z4 fun _ => ?_) | refine ZC ?_)
      exact ⟨⟨i + 1, cl, mv, last, now, p, q, G, R, M, F, Kl⟩, ⟨rfl, hI'.next⟩, by repeat (first | exact SubL.nil | refine SubL.cons rfl ?_), List.Sublist.refl _⟩
    · rw [hmF] at hmf
      repeat (first | refine Y0 ?_ | (refine YP ?_; first | refine y1 ?_ | refine y2 ?_ | refine Y1 ?_ | refine Y2 ?_))
      refine pl_S rfl rfl rfl rfl rfl rfl (st_call rfl rfl rfl rfl (rclearW (n := n + 2013) hRf hclen (by omega) (by omega) ⟨bd, mac⟩ (fun h0 => absurd (of_decide_eq_true hmf) h0) (fun R' _ hR' => ⟨by exact rec_auto, ?_⟩)))
      have hI2 : ScI a b ⟨i + 1, updF cl ⟨bd, mac⟩ (clrC (cl ⟨bd, mac⟩)), updF mv ⟨bd, mac⟩ none, last, now, p, q, G', R', M.filter fun x => decide (kM x ≠ ⟨bd, mac⟩), F.filter fun x => decide (x ≠ ⟨bd, mac⟩), Kl⟩ := by
        refine ⟨hB', hR', hAg.clear _, cov_upd hcov _ (fun h0 h1 => h0 (by rw [h1]; rfl)), fun k => ?_, ?_, ?_⟩
        · dsimp only
          by_cases g : k = ⟨bd, mac⟩
          · rw [g, updF_eq]; exact Nat.zero_le _
          · rw [updF_ne _ _ g]; exact Nat.le_succ_of_le (hmv k)
        · exact Nat.le_trans (List.length_filter_le _ _) (show M.length ≤ 31 * (i + 1) by omega)
        · exact Nat.le_trans (List.length_filter_le _ _) (show F.length ≤ 31 * (i + 1) by omega)
      repeat (first | refine Y0 ?_ | (refine YP ?_; first | refine y1 ?_ | refine y2 ?_ | refine Y1 ?_ | refine Y2 ?_))
      repeat (first | refine Z0 ?_ | (refine ZR ?_; first | refine x1 ?_ | refine x2 ?_ | refine x8 ?_ | refine Z1 ?_ | refine Z2 ?_ | refine x3 fun _ => ?_ | refine x4 fun _ => ?_ | refine x5 fun _ => ?_ | refine Z3 fun _ => ?_ | refine Z4 fun _ => ?_) | refine ZC ?_)
      exact ⟨_, ⟨rfl, hI2⟩, by repeat (first | exact SubL.nil | refine SubL.cons rfl ?_), List.Sublist.refl _⟩
  rw [show (k == 4) = false from beq_eq_false_iff_ne.2 h4]
  repeat (first | refine Z0 ?_ | (refine ZR ?_; first | refine x1 ?_ | refine x2 ?_ | refine x8 ?_ | refine Z1 ?_ | refine Z2 ?_ | refine x3 fun _ => ?_ | refine x4 fun _ => ?_ | refine x5 fun _ => ?_ | refine Z3 fun _ => ?_ | refine Z4 fun _ => ?_) | refine ZC ?_)
  by_cases h5 : k = 5
  · rw [show (k == 5) = true from beq_iff_eq.2 h5]
    repeat (first | refine Z0 ?_ | (refine ZR ?_; first | refine x1 ?_ | refine x2 ?_ | refine x8 ?_ | refine Z1 ?_ | refine Z2 ?_ | refine x3 fun _ => ?_ | refine x4 fun _ => ?_ | refine x5 fun _ => ?_ | refine Z3 fun _ => ?_ | refine Z4 fun _ => ?_) | refine ZC ?_)
    refine rt_step rfl rfl rfl (st_call rfl rfl rfl rfl (copyGW (n := n + 2015) hB hmv2 fun p2 G2 hB2 => ?_))
    repeat (first | refine Z0 ?_ | (refine ZR ?_; first | refine x1 ?_ | refine x2 ?_ | refine x8 ?_ | refine Z1 ?_ | refine Z2 ?_ | refine x3 fun _ => ?_ | refine x4 fun _ => ?_ | refine x5 fun _ => ?_ | refine Z3 fun _ => ?_ | refine Z4 fun _ => ?_) | refine ZC ?_)
    refine rt_step rfl rfl rfl (st_call rfl rfl rfl rfl (CallT.perm (rcopyW (n := n + 2016) (G := G2) (X := G ++ ((t13, AObj.row [.int .i64 kd, .int .i64 sp, .int .u32 self, .slice adn A.length cn, .slice adr B.length cr, .int .i64 bd, .int .u64 mac] 7 false) :: [])) hRf hclen (by omega) (by omega) fun q2 R2 hR2 => ?_) (List.Perm.append_left G2 (List.perm_append_comm_assoc R G _))))
    repeat (first | refine Z0 ?_ | (refine ZR ?_; first | refine x1 ?_ | refine x2 ?_ | refine x8 ?_ | refine Z1 ?_ | refine Z2 ?_ | refine x3 fun _ => ?_ | refine x4 fun _ => ?_ | refine x5 fun _ => ?_ | refine Z3 fun _ => ?_ | refine Z4 fun _ => ?_) | refine ZC ?_)
    generalize IntKind.i64.wrap (now + 1) = now3
    refine rt_step rfl rfl rfl (st_call rfl rfl rfl rfl (CallT.perm (settleUW (n := n + 2009) (H := G2 ++ (R2 ++ ((t13, AObj.row [.int .i64 kd, .int .i64 sp, .int .u32 self, .slice adn A.length cn, .slice adr B.length cr, .int .i64 bd, .int .u64 mac] 7 false) :: []))) hB hmv2 1 now3 hwn (A := []) (B := []) (Nat.zero_le _) (Nat.zero_le _) (fun x h => (by cases h)) (fun x h => (by cases h)) (adn := none) (adr := none) (cn := 0) (cr := 0) (arr_nil en59_len) (arr_nil en27_len) fun e l cl' mv' last' hst v Gv G' ho hB' => ?_) sc_b))
    repeat (first | refine Z0 ?_ | (refine ZR ?_; first | refine x1 ?_ | refine x2 ?_ | refine x8 ?_ | refine Z1 ?_ | refine Z2 ?_ | refine x3 fun _ => ?_ | refine x4 fun _ => ?_ | refine x5 fun _ => ?_ | refine Z3 fun _ => ?_ | refine Z4 fun _ => ?_) | refine ZC ?_)
    refine rt_step rfl rfl rfl (st_call rfl rfl rfl rfl (CallT.weak (clearGW (n := n + 2015) hB' ⟨bd, mac⟩ (fun _ => ?_) (fun G'' _ _ => ?_)) (List.sublist_append_right Gv _)))
    all_goals repeat (first | refine Z0 ?_ | (refine ZR ?_; first | refine x1 ?_ | refine x2 ?_ | refine x8 ?_ | refine Z1 ?_ | refine Z2 ?_ | refine x3 fun _ => ?_ | refine x4 fun _ => ?_ | refine x5 fun _ => ?_ | refine Z3 fun _ => ?_ | refine Z4 fun _ => ?_) | refine ZC ?_)
    all_goals exact ⟨⟨i + 1, cl, mv, last, now, p2, q2, G2, R2, M, F, Kl⟩, ⟨rfl, hB2, hR2, hAg, hcov, fun k => Nat.le_succ_of_le (hmv k), by dsimp only; omega, by dsimp only; omega⟩, by repeat (first | exact SubL.nil | refine SubL.cons rfl ?_), List.sublist_append_right _ _⟩
  rw [show (k == 5) = false from beq_eq_false_iff_ne.2 h5]
  repeat (first | refine Z0 ?_ | (refine ZR ?_; first | refine x1 ?_ | refine x2 ?_ | refine x8 ?_ | refine Z1 ?_ | refine Z2 ?_ | refine x3 fun _ => ?_ | refine x4 fun _ => ?_ | refine x5 fun _ => ?_ | refine Z3 fun _ => ?_ | refine Z4 fun _ => ?_) | refine ZC ?_)
  refine ct_midE (ι := Int) (fun _ => True) (fun n2 => [(11, .int .i64 n2), (12, .int .i64 (i : Int)), (9, .pointer (some ⟨q, 0, none⟩)), (7, .pointer (some ⟨p, 0, none⟩)), (13, .pointer (some ⟨t13, 0, none⟩)), (2, .slice (some ⟨b1, o1, none⟩) L.length c)])
    (fun _ => G ++ (R ++ ((t13, AObj.row [.int .i64 kd, .int .i64 sp, .int .u32 self, .slice adn A.length cn, .slice adr B.length cr, .int .i64 bd, .int .u64 mac] 7 false) :: []))) ?_ ?_
  · by_cases h6 : k = 6
    · rw [show (k == 6) = true from beq_iff_eq.2 h6]
      repeat (first | refine Z0 ?_ | (refine ZR ?_; first | refine x1 ?_ | refine x2 ?_ | refine x8 ?_ | refine Z1 ?_ | refine Z2 ?_ | refine x3 fun _ => ?_ | refine x4 fun _ => ?_ | refine x5 fun _ => ?_ | refine Z3 fun _ => ?_ | refine Z4 fun _ => ?_) | refine ZC ?_)
      exact ⟨sp, trivial, by repeat (first | exact SubL.nil | refine SubL.cons rfl ?_), List.Sublist.refl _⟩
    · rw [show (k == 6) = false from beq_eq_false_iff_ne.2 h6]
      repeat (first | refine Z0 ?_ | (refine ZR ?_; first | refine x1 ?_ | refine x2 ?_ | refine x8 ?_ | refine Z1 ?_ | refine Z2 ?_ | refine x3 fun _ => ?_ | refine x4 fun _ => ?_ | refine x5 fun _ => ?_ | refine Z3 fun _ => ?_ | refine Z4 fun _ => ?_) | refine ZC ?_)
      exact ⟨_, trivial, by repeat (first | exact SubL.nil | refine SubL.cons rfl ?_), List.Sublist.refl _⟩
  rintro now2 _
  repeat (first | refine Z0 ?_ | (refine ZR ?_; first | refine x1 ?_ | refine x2 ?_ | refine x8 ?_ | refine Z1 ?_ | refine Z2 ?_ | refine x3 fun _ => ?_ | refine x4 fun _ => ?_ | refine x5 fun _ => ?_ | refine Z3 fun _ => ?_ | refine Z4 fun _ => ?_) | refine ZC ?_)
  refine ct_draw (masks := [0, 1, 3, 0, 8, 31, 63, 127]) (plan := [0, 1, 3, 4, 2, 5, 6, 7]) (E := []) (by kernel_rfl) (by kernel_rfl) (by kernel_rfl) (by kernel_rfl) ?_
  repeat (first | refine Y0 ?_ | (refine YP ?_; first | refine y1 ?_ | refine y2 ?_ | refine Y1 ?_ | refine Y2 ?_))
  have hnW : ArrW (cx B0 old) [] adn 6 en59 A := arrW_of en59_len hA
  have hrW : ArrW (cx B0 old) [] adr 5 en27 B := arrW_of en27_len hBr
  refine pl_S rfl rfl rfl rfl rfl rfl (st_call rfl rfl rfl rfl (own35_ct (n := n + 2016) (hnW.weak (List.nil_sublist _)) (by omega) fun v5 G5 ho5 => ⟨by exact rec_auto, ?_⟩))
  repeat (first | refine Y0 ?_ | (refine YP ?_; first | refine y1 ?_ | refine y2 ?_ | refine Y1 ?_ | refine Y2 ?_))
  refine pl_S rfl rfl rfl rfl rfl rfl (st_call rfl rfl rfl rfl (own36_ct (n := n + 2016) (hrW.weak (List.nil_sublist _)) (by omega) fun v6 G6 ho6 => ⟨by exact rec_auto, ?_⟩))
  obtain ⟨ad5, c5, e5, g5⟩ := ho5.arrW (C := cx B0 old) en59_len
  subst e5
  obtain ⟨ad6, c6, e6, g6⟩ := ho6.arrW (C := cx B0 old) en27_len
  subst e6
  have hA5 := fun (Z : Hp) => (g5 [] Z).arr en59_len
  have hA6 := fun (Z : Hp) => (g6 [] Z).arr en27_len
  clear g5 g6
  repeat (first | refine Y0 ?_ | (refine YP ?_; first | refine y1 ?_ | refine y2 ?_ | refine Y1 ?_ | refine Y2 ?_))
  repeat (first | refine Z0 ?_ | (refine ZR ?_; first | refine x1 ?_ | refine x2 ?_ | refine x8 ?_ | refine Z1 ?_ | refine Z2 ?_ | refine x3 fun _ => ?_ | refine x4 fun _ => ?_ | refine x5 fun _ => ?_ | refine Z3 fun _ => ?_ | refine Z4 fun _ => ?_) | refine ZC ?_)
  refine rt_step rfl rfl rfl (st_call rfl rfl rfl rfl (CallT.perm (settleUW (n := n + 2009) (H := R ++ (G6 ++ (G5 ++ ((t13, AObj.row [.int .i64 kd, .int .i64 sp, .int .u32 self, .slice adn A.length cn, .slice adr B.length cr, .int .i64 bd, .int .u64 mac] 7 false) :: [])))) hB hmv2 self now2 hwn (A := A) (B := B) (by omega) (by omega) hwA hwB ((hA5 ((t13, AObj.row [.int .i64 kd, .int .i64 sp, .int .u32 self, .slice adn A.length cn, .slice adr B.length cr, .int .i64 bd, .int .u64 mac] 7 false) :: [])).weak ((List.sublist_append_right G6 _).trans (List.sublist_append_right R _))) ((hA6 (G5 ++ ((t13, AObj.row [.int .i64 kd, .int .i64 sp, .int .u32 self, .slice adn A.length cn, .slice adr B.length cr, .int .i64 bd, .int .u64 mac] 7 false) :: []))).weak (List.sublist_append_right R _)) fun e l cl1 mv1 la1 hst v Gv G' ho hB' => ?_) sc_c))
  obtain ⟨av, cv, ev, gv⟩ := ho.arrW (C := cx B0 old) en59_len
  subst ev
  repeat (first | refine Z0 ?_ | (refine ZR ?_; first | refine x1 ?_ | refine x2 ?_ | refine x8 ?_ | refine Z1 ?_ | refine Z2 ?_ | refine x3 fun _ => ?_ | refine x4 fun _ => ?_ | refine x5 fun _ => ?_ | refine Z3 fun _ => ?_ | refine Z4 fun _ => ?_) | refine ZC ?_)
  refine rt_step rfl rfl rfl (st_call rfl rfl rfl rfl (CallT.perm (rsettleUW (n := n + 2013) (G := G') (X := Gv ++ (G6 ++ (G5 ++ ((t13, AObj.row [.int .i64 kd, .int .i64 sp, .int .u32 self, .slice adn A.length cn, .slice adr B.length cr, .int .i64 bd, .int .u64 mac] 7 false) :: [])))) hRf hclen hwn self now2 (A := A) (B := B) (by omega) (by omega) (by omega) (by omega) hwA hwB (hA.weak (List.nil_sublist _)) (hBr.weak (List.nil_sublist _)) fun e2 l2 cl2 M' F' la2 hsr vg Gg R' hog hR' => ?_) sc_d))
  obtain ⟨rfl, rfl, rfl, rfl, hAg2, hM2, hF2, hmv3, hcl3, hll⟩ := st_both hAg hb1 hst hsr
  obtain ⟨ag, cg, eg, gg⟩ := hog.arrW (C := cx B0 old) en59_len
  subst eg
  have hAv := fun (Z : Hp) => (gv [] Z).arr en59_len
  have hAq := fun (Z : Hp) => (gg [] Z).arr en59_len
  clear gv gg hst hsr
  obtain ⟨Kl2, hcov2⟩ : ∃ Kl2, CovK Kl2 cl2 := by
    rcases hcl3 with rfl | h
    · exact ⟨Kl, hcov⟩
    · exact ⟨A.map kN, by rw [List.length_map]; omega, fun k hk => by
        obtain ⟨y, hy, e⟩ := List.mem_map.1 hk
        rw [← e]; exact hwA y hy, fun k a e => h k (by rw [e]; simp)⟩
  have hI2 : ScI a b ⟨i + 1, cl2, mv1, la2, now2, p, q, G', R', M', F', Kl2⟩ := ⟨hB', hR', hAg2, hcov2, fun k => by have := hmv3 k; have := hmv k; dsimp only; omega, by dsimp only; omega, by dsimp only; omega⟩
  repeat (first | refine Z0 ?_ | (refine ZR ?_; first | refine x1 ?_ | refine x2 ?_ | refine x8 ?_ | refine Z1 ?_ | refine Z2 ?_ | refine x3 fun _ => ?_ | refine x4 fun _ => ?_ | refine x5 fun _ => ?_ | refine Z3 fun _ => ?_ | refine Z4 fun _ => ?_) | refine ZC ?_)
  refine rt_step rfl rfl rfl (st_call rfl rfl rfl rfl (same38_ct (n := n + 2016) ((hAv (G6 ++ (G5 ++ ((t13, AObj.row [.int .i64 kd, .int .i64 sp, .int .u32 self, .slice adn A.length cn, .slice adr B.length cr, .int .i64 bd, .int .u64 mac] 7 false) :: [])))).weak (by exact drop_auto)) ((hAq (G' ++ (R' ++ (Gv ++ (G6 ++ (G5 ++ ((t13, AObj.row [.int .i64 kd, .int .i64 sp, .int .u32 self, .slice adn A.length cn, .slice adr B.length cr, .int .i64 bd, .int .u64 mac] 7 false) :: []))))))).weak (by exact drop_auto)) (by omega) ?_))
  repeat (first | refine Z0 ?_ | (refine ZR ?_; first | refine x1 ?_ | refine x2 ?_ | refine x8 ?_ | refine Z1 ?_ | refine Z2 ?_ | refine x3 fun _ => ?_ | refine x4 fun _ => ?_ | refine x5 fun _ => ?_ | refine Z3 fun _ => ?_ | refine Z4 fun _ => ?_) | refine ZC ?_)
  rw [show (e2 != e2) = false from bne_self_eq_false e2]
  repeat (first | refine Z0 ?_ | (refine ZR ?_; first | refine x1 ?_ | refine x2 ?_ | refine x8 ?_ | refine Z1 ?_ | refine Z2 ?_ | refine x3 fun _ => ?_ | refine x4 fun _ => ?_ | refine x5 fun _ => ?_ | refine Z3 fun _ => ?_ | refine Z4 fun _ => ?_) | refine ZC ?_)
  refine rt_step rfl rfl rfl (st_call rfl rfl rfl rfl (same38_ct (n := n + 2016) ((hA5 ((t13, AObj.row [.int .i64 kd, .int .i64 sp, .int .u32 self, .slice adn A.length cn, .slice adr B.length cr, .int .i64 bd, .int .u64 mac] 7 false) :: [])).weak (by exact drop_auto)) (hA.weak (List.nil_sublist _)) (by omega) ?_))
  repeat (first | refine Z0 ?_ | (refine ZR ?_; first | refine x1 ?_ | refine x2 ?_ | refine x8 ?_ | refine Z1 ?_ | refine Z2 ?_ | refine x3 fun _ => ?_ | refine x4 fun _ => ?_ | refine x5 fun _ => ?_ | refine Z3 fun _ => ?_ | refine Z4 fun _ => ?_) | refine ZC ?_)
  refine rt_step rfl rfl rfl (st_call rfl rfl rfl rfl (same39_ct (n := n + 2016) ((hA6 (G5 ++ ((t13, AObj.row [.int .i64 kd, .int .i64 sp, .int .u32 self, .slice adn A.length cn, .slice adr B.length cr, .int .i64 bd, .int .u64 mac] 7 false) :: []))).weak (by exact drop_auto)) (hBr.weak (List.nil_sublist _)) (by omega) ?_))
  repeat (first | refine Z0 ?_ | (refine ZR ?_; first | refine x1 ?_ | refine x2 ?_ | refine x8 ?_ | refine Z1 ?_ | refine Z2 ?_ | refine x3 fun _ => ?_ | refine x4 fun _ => ?_ | refine x5 fun _ => ?_ | refine Z3 fun _ => ?_ | refine Z4 fun _ => ?_) | refine ZC ?_)
  refine CodeT.perm ?_ (sc_e (U := Gg) (V := Gv) (A := G6) (B := G5) (G := G') (R := R'))
  refine loop_ind (ι := Nat × List N59 × Hp) (0, A, G5) (fun j => A.length - j.1) (fun j => j.1 ≤ A.length ∧ j.2.1.length = A.length ∧ Own en59 6 j.2.1 (.slice ad5 A.length c5) j.2.2)
    (fun j => [(26, .int .i64 (j.1 : Int)), (20, .slice ad5 A.length c5), (11, .int .i64 now2), (12, .int .i64 (i : Int)), (9, .pointer (some ⟨q, 0, none⟩)), (7, .pointer (some ⟨p, 0, none⟩)), (13, .pointer (some ⟨t13, 0, none⟩)), (2, .slice (some ⟨b1, o1, none⟩) L.length c)])
    (fun j => j.2.2 ++ (G' ++ (R' ++ ((t13, AObj.row [.int .i64 kd, .int .i64 sp, .int .u32 self, .slice adn A.length cn, .slice adr B.length cr, .int .i64 bd, .int .u64 mac] 7 false) :: [])))) ⟨Nat.zero_le _, rfl, ho5⟩ (by repeat (first | exact SubL.nil | refine SubL.cons rfl ?_)) (by exact drop_auto) ?_
  clear ho5 hA5 hA6 hAv hAq
  rintro ⟨j, A2, G5⟩ ⟨hj, hl2, ho5⟩
  dsimp only at hj hl2 ho5 ⊢
  repeat (first | refine Z0 ?_ | (refine ZR ?_; first | refine x1 ?_ | refine x2 ?_ | refine x8 ?_ | refine Z1 ?_ | refine Z2 ?_ | refine x3 fun _ => ?_ | refine x4 fun _ => ?_ | refine x5 fun _ => ?_ | refine Z3 fun _ => ?_ | refine Z4 fun _ => ?_) | refine ZC ?_)
  refine ct_condT te_d rfl (fun hjl => ?_) (fun hjl => ?_)
  · obtain ⟨y, hy⟩ : ∃ y, A2[j]? = some y := ⟨_, List.getElem?_eq_getElem (by omega)⟩
    obtain ⟨G3, o3, bb, cb, eb, hst1⟩ := ho5.set (C := cx B0 old) (t := 59) (f := 0) (a' := ⟨0, 0, 0, 0, false, 0⟩) (u := .agg ⟨[.int .i64 0, .int .i64 0, .int .u64 0, .int .u32 0, .bool false, .int .i64 0]⟩) en59_len hy (sz rfl) rfl rfl
    rw [hl2] at eb
    cases eb
    repeat (first | refine Z0 ?_ | (refine ZR ?_; first | refine x1 ?_ | refine x2 ?_ | refine x8 ?_ | refine Z1 ?_ | refine Z2 ?_ | refine x3 fun _ => ?_ | refine x4 fun _ => ?_ | refine x5 fun _ => ?_ | refine Z3 fun _ => ?_ | refine Z4 fun _ => ?_) | refine ZC ?_)
    refine rt_st rfl rfl rfl rfl rfl (hst1 [] _) ?_
    repeat (first | refine Z0 ?_ | (refine ZR ?_; first | refine x1 ?_ | refine x2 ?_ | refine x8 ?_ | refine Z1 ?_ | refine Z2 ?_ | refine x3 fun _ => ?_ | refine x4 fun _ => ?_ | refine x5 fun _ => ?_ | refine Z3 fun _ => ?_ | refine Z4 fun _ => ?_) | refine ZC ?_)
    exact ⟨(j + 1, _, G3), ⟨by omega, by dsimp only; rw [List.length_set]; exact hl2, o3⟩, by dsimp only; omega, by repeat (first | exact SubL.nil | refine SubL.cons rfl ?_), List.Sublist.refl _⟩
  repeat (first | refine Z0 ?_ | (refine ZR ?_; first | refine x1 ?_ | refine x2 ?_ | refine x8 ?_ | refine Z1 ?_ | refine Z2 ?_ | refine x3 fun _ => ?_ | refine x4 fun _ => ?_ | refine x5 fun _ => ?_ | refine Z3 fun _ => ?_ | refine Z4 fun _ => ?_) | refine ZC ?_)
  exact ⟨_, ⟨rfl, hI2⟩, by repeat (first | exact SubL.nil | refine SubL.cons rfl ?_), List.sublist_append_right _ _⟩
end
end Go.Proofs.Ytoimfchhmocgeaa.Abs
