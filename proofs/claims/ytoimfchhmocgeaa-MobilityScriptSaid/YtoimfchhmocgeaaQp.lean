/- The book with at most one address, in plain Lean: calm books, five leaves. -/
import Derived.Test.YtoimfchhmocgeaaQn
import Derived.Test.YtoimfchhmocgeaaQi
import Derived.Test.YtoimfchhmocgeaaQb
import Derived.Test.YtoimfchhmocgeaaQk
import Derived.Test.YtoimfchhmocgeaaTop
namespace Go.Proofs.Ytoimfchhmocgeaa.Abs
open Go
set_option linter.unusedVariables false
def lenM (mv : Option (List Int × Bool)) : Nat := match mv with
  | some (L, _) => L.length
  | none => 0
theorem moveL_len (win now : Int) (mv : Option (List Int × Bool)) : (moveL win now mv).length ≤ lenM mv := by
  unfold moveL lenM
  cases mv with
  | none => exact Nat.zero_le _
  | some q => exact List.length_filter_le _ _
/-! ### Five leaves -/
structure Lf where
  has : Bool
  same : Bool
  cl : Option (Int × Bool)
  mv : Option (List Int × Bool)
/-! ### Leaves whose claims are counted from a number on -/
structure Lfo where
  has : Bool
  same : Bool
  cl : Option Nat
  c : Nat
/-! ### The two agree -/
def RelL (s : Int) (m : Nat) (x : Lf) (a : Lfo) : Prop := x.has = a.has ∧ x.same = a.same ∧ x.cl = a.cl.map (fun o : Nat => (s + (o : Int), false)) ∧ moveF x.mv = false ∧ lenM x.mv ≤ m + a.c
def RelS (s : Int) (m : Nat) : List Lf → List Lfo → Prop
  | [], [] => True
  | x :: r, a :: t => RelL s m x a ∧ RelS s m r t
  | _, _ => False
section
variable {s : Int} {m : Nat}
theorem RelS.len : ∀ {ls : List Lf} {A : List Lfo}, RelS s m ls A → ls.length = A.length
  | [], [], _ => rfl
  | x :: r, a :: t, h => by rw [List.length_cons, List.length_cons, RelS.len h.2]
  | [], _ :: _, h => h.elim
  | _ :: _, [], h => h.elim
theorem RelS.get : ∀ {ls : List Lf} {A : List Lfo} {n : Nat} {a : Lfo}, RelS s m ls A → A[n]? = some a → ∃ x, ls[n]? = some x ∧ RelL s m x a
  | [], [], n, a, _, h => by cases n <;> cases h
  | x :: r, b :: t, 0, a, h, e => by cases e; exact ⟨x, rfl, h.1⟩
  | x :: r, b :: t, n + 1, a, h, e => by
    have e : t[n]? = some a := e
    obtain ⟨y, h1, h2⟩ := RelS.get h.2 e
    exact ⟨y, h1, h2⟩
  | [], _ :: _, _, _, h, _ => h.elim
  | _ :: _, [], _, _, h, _ => h.elim
theorem RelS.set : ∀ {ls : List Lf} {A : List Lfo} (n : Nat) {x : Lf} {a : Lfo}, RelS s m ls A → RelL s m x a → RelS s m (ls.set n x) (A.set n a)
  | [], [], n, x, a, _, _ => by cases n <;> trivial
  | y :: r, b :: t, 0, x, a, h, e => ⟨e, h.2⟩
  | y :: r, b :: t, n + 1, x, a, h, e => ⟨h.1, RelS.set n h.2 e⟩
  | [], _ :: _, _, _, _, h, _ => h.elim
  | _ :: _, [], _, _, _, h, _ => h.elim
end
end Go.Proofs.Ytoimfchhmocgeaa.Abs

/- The book with at most one address, in plain Lean: limits. -/
namespace Go.Proofs.Ytoimfchhmocgeaa.Abs
open Go
set_option linter.unusedVariables false
def timesM (mv : Option (List Int × Bool)) : List Int := match mv with
  | some (L, _) => L
  | none => []
theorem keep_keep {u w : Int} (h : w ≤ u) (L : List Int) : (L.filter (keepT w)).filter (keepT u) = L.filter (keepT u) := by
  rw [List.filter_filter]
  refine List.filter_congr fun t _ => ?_
  unfold keepT
  by_cases h1 : t ≤ u
  · simp [h1]
  · have h2 : ¬ t ≤ w := by omega
    simp [h1, h2]
theorem clM_len (win now : Int) (mv : Option (List Int × Bool)) : lenM (clM win now mv) ≤ lenM mv := by
  cases mv with
  | none => exact Nat.le_refl _
  | some q =>
    obtain ⟨L, f⟩ := q
    unfold clM
    dsimp only
    by_cases hc : (L.filter (keepT (now - win))).length = 0 ∧ f = false
    · rw [if_pos hc]; exact Nat.zero_le _
    · rw [if_neg hc]; exact List.length_filter_le _ _
/-- A settle leaves at most one move more. -/
theorem settle_len (lim win self now : Int) (cl : Option (Int × Bool)) (mv : Option (List Int × Bool)) (own : Bool) (rv : Option S27) : lenM (settleB lim win self now cl mv own rv).2.1 ≤ lenM mv + 1 := by
  have h1 := clM_len win now mv
  unfold settleB
  cases own with
  | false => dsimp only; omega
  | true =>
    dsimp only
    have h2 : lenM (mv2 lim win now (clM win now mv)) ≤ lenM mv + 1 := by
      unfold mv2 lenM
      dsimp only
      rw [List.length_append, List.length_singleton]
      have := moveL_len win now (clM win now mv)
      unfold lenM at this h1
      omega
    unfold rule0 rule1 rule2 rule3
    repeat' split
    all_goals dsimp only
    all_goals omega
/-- The book between the moves of the law: the times that were accepted, and whether one was not. -/
structure LimI (win last : Int) (T : List Int) (fz : Bool) (mv : Option (List Int × Bool)) : Prop where
  hfz : moveF mv = fz
  htm : fz = false → ∀ u, last - win ≤ u → (timesM mv).filter (keepT u) = T.filter (keepT u)
  hln : lenM mv ≤ T.length + 1
theorem LimI.nil (win : Int) : LimI win 0 [] false none := ⟨rfl, fun _ _ _ => rfl, Nat.zero_le _⟩
end Go.Proofs.Ytoimfchhmocgeaa.Abs

/- The book with at most one address as one thing; the laws' helpers. -/
namespace Go.Proofs.Ytoimfchhmocgeaa.Abs
open Go
set_option linter.unusedVariables false
theorem bk_as {a b c : Nat × AObj} {C M H : Hp} : (a :: b :: c :: (C ++ M)) ++ H = a :: b :: c :: (C ++ (M ++ H)) := by simp
/-- The entry of the chapter's address. -/
def n5 : N59 := ⟨0, 0, 5, 0, false, 0⟩
theorem leaf57 (x : C57) : leafsEq (en57 x) (en57 x) = true := by
  simp [leafsEq, leafEq, en57]
theorem leaf59 (x : N59) : leafsEq (en59 x) (en59 x) = true := by
  simp [leafsEq, leafEq, en59]
section
variable {B0 : Nat} {old : Nat → Option (List Value)} {n : Nat} {H G : Hp} {Q : Value → Hp → Prop} {p : Nat} {lim win last : Int} {K : Kk} {cl : Option (Int × Bool)} {mv : Option (List Int × Bool)}
set_option maxRecDepth 10000
set_option maxHeartbeats 8000000
theorem CallT.permPost {C : Ctx} {hc : Abs.H Prop} {g : FuncId} {args : List Value} {H : Hp} {Q Q' : Value → Hp → Prop} (h : CallT C hc g args H Q') (hm : ∀ v H', Q' v H' → ∃ H2, H2.Perm H' ∧ Q v H2) : CallT C hc g args H Q := by
  unfold CallT at *
  exact fun s k h1 h2 => h s k h1 fun v H' s' h3 h4 => let ⟨H2, h5, h6⟩ := hm v H' h3; h2 v H2 s' h6 (h4.perm h5)
theorem arr_nil {α : Type} {en : α → List Value} {k : Nat} (hl : ∀ x, (en x).length = k) : Arr (cx B0 old) H none k en [] := by
  obtain ⟨ad, c, e, h⟩ := (Own.nil (en := en) (k := k)).arrW (C := cx B0 old) hl
  cases e
  exact (h [] H).arr hl
theorem sortT {ks : List Kk} (hk : ∀ x ∈ ks, okK x) (hl : ks.length ≤ 2000) : SortT (cx B0 old) (acall (cx B0 old) ansP (n + 2013)) ks := fun ho hQ =>
  CallT.fuel (sortFK_ct (n := n + (2000 - ks.length)) keyCmp ho hk (by omega) hQ) (by omega)
theorem pick24_ct (x m : Int) (h0 : 0 < m) (hm : m ≤ 4611686018427387904) (hQ : ∀ r : Int, 0 ≤ r → r < m → Q (.int .i64 r) H) : CallT (cx B0 old) (acall (cx B0 old) ansP (n + 1)) 24 [.int .i64 x, .int .i64 m] H Q := by
  refine call_in2 14 rfl Try.func24 rfl rfl ?_
  have h1 := Int.tmod_lt_of_pos x h0
  have h2 := Int.lt_tmod_of_pos x h0
  repeat (first | refine Z0 ?_ | (refine ZR ?_; first | refine x1 ?_ | refine x2 ?_ | refine x8 ?_ | refine Z1 ?_ | refine Z2 ?_ | refine x3 fun _ => ?_ | refine x4 fun _ => ?_ | refine x5 fun _ => ?_ | refine Z3 fun _ => ?_ | refine Z4 fun _ => ?_) | refine ZC ?_)
  apply rt_p rfl rfl rfl
  case hp => exact p_rem rfl rfl (by omega)
  generalize x.tmod m = r at *
  repeat (first | refine Z0 ?_ | (refine ZR ?_; first | refine x1 ?_ | refine x2 ?_ | refine x8 ?_ | refine Z1 ?_ | refine Z2 ?_ | refine x3 fun _ => ?_ | refine x4 fun _ => ?_ | refine x5 fun _ => ?_ | refine Z3 fun _ => ?_ | refine Z4 fun _ => ?_) | refine ZC ?_)
  refine ct_condT te_d rfl (fun hc => ?_) (fun hc => ?_)
  · repeat (first | refine Z0 ?_ | (refine ZR ?_; first | refine x1 ?_ | refine x2 ?_ | refine x8 ?_ | refine Z1 ?_ | refine Z2 ?_ | refine x3 fun _ => ?_ | refine x4 fun _ => ?_ | refine x5 fun _ => ?_ | refine Z3 fun _ => ?_ | refine Z4 fun _ => ?_) | refine ZC ?_)
    exact re_1 rfl rfl (List.Sublist.refl _) (hQ _ (by omega) (by omega))
  · repeat (first | refine Z0 ?_ | (refine ZR ?_; first | refine x1 ?_ | refine x2 ?_ | refine x8 ?_ | refine Z1 ?_ | refine Z2 ?_ | refine x3 fun _ => ?_ | refine x4 fun _ => ?_ | refine x5 fun _ => ?_ | refine Z3 fun _ => ?_ | refine Z4 fun _ => ?_) | refine ZC ?_)
    exact re_1 rfl rfl (List.Sublist.refl _) (hQ _ (by omega) (by omega))
theorem same26_ct {ad ad2 : Option Addr} {c c2 : Nat} {A : List C57} (h1 : Arr (cx B0 old) H ad 4 en57 A) (h2 : Arr (cx B0 old) H ad2 4 en57 A) (hl : A.length ≤ 100000) (hQ : Q (.bool true) H) : CallT (cx B0 old) (acall (cx B0 old) ansP (n + 1)) 26 [.slice ad A.length c, .slice ad2 A.length c2] H Q := by
  refine call_in2 26 rfl Try.func26 rfl rfl ?_
  repeat (first | refine Z0 ?_ | (refine ZR ?_; first | refine x1 ?_ | refine x2 ?_ | refine x8 ?_ | refine Z1 ?_ | refine Z2 ?_ | refine x3 fun _ => ?_ | refine x4 fun _ => ?_ | refine x5 fun _ => ?_ | refine Z3 fun _ => ?_ | refine Z4 fun _ => ?_) | refine ZC ?_)
  refine ct_condT te_ne rfl (fun hc => absurd rfl hc) (fun _ => ?_)
  repeat (first | refine Z0 ?_ | (refine ZR ?_; first | refine x1 ?_ | refine x2 ?_ | refine x8 ?_ | refine Z1 ?_ | refine Z2 ?_ | refine x3 fun _ => ?_ | refine x4 fun _ => ?_ | refine x5 fun _ => ?_ | refine Z3 fun _ => ?_ | refine Z4 fun _ => ?_) | refine ZC ?_)
  refine loop_ind (ι := Nat) 0 (fun i => A.length - i) (fun i => i ≤ A.length) (fun i => [(5, .int .i64 (i : Int)), (0, .slice ad A.length c), (1, .slice ad2 A.length c2)]) (fun _ => H) (Nat.zero_le _) (by repeat (first | exact SubL.nil | refine SubL.cons rfl ?_)) (by exact drop_auto) ?_
  intro i hi
  repeat (first | refine Z0 ?_ | (refine ZR ?_; first | refine x1 ?_ | refine x2 ?_ | refine x8 ?_ | refine Z1 ?_ | refine Z2 ?_ | refine x3 fun _ => ?_ | refine x4 fun _ => ?_ | refine x5 fun _ => ?_ | refine Z3 fun _ => ?_ | refine Z4 fun _ => ?_) | refine ZC ?_)
  refine ct_condT te_d rfl (fun hc => ?_) (fun hc => ?_)
  · obtain ⟨a, ha⟩ : ∃ x, A[i]? = some x := ⟨_, List.getElem?_eq_getElem (by omega)⟩
    obtain ⟨b1, o1, e1, hL0⟩ := h1.ldW 57 ha rfl (sz rfl)
    obtain ⟨b2, o2, e2, hL1⟩ := h2.ldW 57 ha rfl (sz rfl)
    subst e1
    subst e2
    have hs := leaf57 a
    unfold en57 at hL0 hL1 hs
    repeat (first | refine Z0 ?_ | (refine ZR ?_; first | refine x1 ?_ | refine x2 ?_ | refine x8 ?_ | refine Z1 ?_ | refine Z2 ?_ | refine x3 fun _ => ?_ | refine x4 fun _ => ?_ | refine x5 fun _ => ?_ | refine Z3 fun _ => ?_ | refine Z4 fun _ => ?_) | refine ZC ?_)
    refine ct_draw (masks := [0, 0, 3, 7, 0, 0, 48, 112, 255]) (plan := [0, 1, 2, 3, 4, 5, 6, 7, 8]) (E := []) (by kernel_rfl) (by kernel_rfl) (by kernel_rfl) (by kernel_rfl) ?_
    repeat (first | refine Y0 ?_ | (refine YP ?_; first | refine y1 ?_ | refine y2 ?_ | refine Y1 ?_ | refine Y2 ?_))
    rw [hs]
    repeat (first | refine Y0 ?_ | (refine YP ?_; first | refine y1 ?_ | refine y2 ?_ | refine Y1 ?_ | refine Y2 ?_))
    repeat (first | refine Z0 ?_ | (refine ZR ?_; first | refine x1 ?_ | refine x2 ?_ | refine x8 ?_ | refine Z1 ?_ | refine Z2 ?_ | refine x3 fun _ => ?_ | refine x4 fun _ => ?_ | refine x5 fun _ => ?_ | refine Z3 fun _ => ?_ | refine Z4 fun _ => ?_) | refine ZC ?_)
    exact ⟨i + 1, by omega, by omega, by repeat (first | exact SubL.nil | refine SubL.cons rfl ?_), by exact drop_auto⟩
  · repeat (first | refine Z0 ?_ | (refine ZR ?_; first | refine x1 ?_ | refine x2 ?_ | refine x8 ?_ | refine Z1 ?_ | refine Z2 ?_ | refine x3 fun _ => ?_ | refine x4 fun _ => ?_ | refine x5 fun _ => ?_ | refine Z3 fun _ => ?_ | refine Z4 fun _ => ?_) | refine ZC ?_)
    exact re_1 rfl rfl (by exact drop_auto) hQ
theorem same38_ct {ad ad2 : Option Addr} {c c2 : Nat} {A : List N59} (h1 : Arr (cx B0 old) H ad 6 en59 A) (h2 : Arr (cx B0 old) H ad2 6 en59 A) (hl : A.length ≤ 100000) (hQ : Q (.bool true) H) : CallT (cx B0 old) (acall (cx B0 old) ansP (n + 1)) 38 [.slice ad A.length c, .slice ad2 A.length c2] H Q := by
  refine call_in2 26 rfl Try.func38 rfl rfl ?_
  repeat (first | refine Z0 ?_ | (refine ZR ?_; first | refine x1 ?_ | refine x2 ?_ | refine x8 ?_ | refine Z1 ?_ | refine Z2 ?_ | refine x3 fun _ => ?_ | refine x4 fun _ => ?_ | refine x5 fun _ => ?_ | refine Z3 fun _ => ?_ | refine Z4 fun _ => ?_) | refine ZC ?_)
  refine ct_condT te_ne rfl (fun hc => absurd rfl hc) (fun _ => ?_)
  repeat (first | refine Z0 ?_ | (refine ZR ?_; first | refine x1 ?_ | refine x2 ?_ | refine x8 ?_ | refine Z1 ?_ | refine Z2 ?_ | refine x3 fun _ => ?_ | refine x4 fun _ => ?_ | refine x5 fun _ => ?_ | refine Z3 fun _ => ?_ | refine Z4 fun _ => ?_) | refine ZC ?_)
  refine loop_ind (ι := Nat) 0 (fun i => A.length - i) (fun i => i ≤ A.length) (fun i => [(5, .int .i64 (i : Int)), (0, .slice ad A.length c), (1, .slice ad2 A.length c2)]) (fun _ => H) (Nat.zero_le _) (by repeat (first | exact SubL.nil | refine SubL.cons rfl ?_)) (by exact drop_auto) ?_
  intro i hi
  repeat (first | refine Z0 ?_ | (refine ZR ?_; first | refine x1 ?_ | refine x2 ?_ | refine x8 ?_ | refine Z1 ?_ | refine Z2 ?_ | refine x3 fun _ => ?_ | refine x4 fun _ => ?_ | refine x5 fun _ => ?_ | refine Z3 fun _ => ?_ | refine Z4 fun _ => ?_) | refine ZC ?_)
  refine ct_condT te_d rfl (fun hc => ?_) (fun hc => ?_)
  · obtain ⟨a, ha⟩ : ∃ x, A[i]? = some x := ⟨_, List.getElem?_eq_getElem (by omega)⟩
    obtain ⟨b1, o1, e1, hL0⟩ := h1.ldW 59 ha rfl (sz rfl)
    obtain ⟨b2, o2, e2, hL1⟩ := h2.ldW 59 ha rfl (sz rfl)
    subst e1
    subst e2
    have hs := leaf59 a
    unfold en59 at hL0 hL1 hs
    repeat (first | refine Z0 ?_ | (refine ZR ?_; first | refine x1 ?_ | refine x2 ?_ | refine x8 ?_ | refine Z1 ?_ | refine Z2 ?_ | refine x3 fun _ => ?_ | refine x4 fun _ => ?_ | refine x5 fun _ => ?_ | refine Z3 fun _ => ?_ | refine Z4 fun _ => ?_) | refine ZC ?_)
    refine ct_draw (masks := [0, 0, 3, 7, 0, 0, 48, 112, 255]) (plan := [0, 1, 2, 3, 4, 5, 6, 7, 8]) (E := []) (by kernel_rfl) (by kernel_rfl) (by kernel_rfl) (by kernel_rfl) ?_
    repeat (first | refine Y0 ?_ | (refine YP ?_; first | refine y1 ?_ | refine y2 ?_ | refine Y1 ?_ | refine Y2 ?_))
    rw [hs]
    repeat (first | refine Y0 ?_ | (refine YP ?_; first | refine y1 ?_ | refine y2 ?_ | refine Y1 ?_ | refine Y2 ?_))
    repeat (first | refine Z0 ?_ | (refine ZR ?_; first | refine x1 ?_ | refine x2 ?_ | refine x8 ?_ | refine Z1 ?_ | refine Z2 ?_ | refine x3 fun _ => ?_ | refine x4 fun _ => ?_ | refine x5 fun _ => ?_ | refine Z3 fun _ => ?_ | refine Z4 fun _ => ?_) | refine ZC ?_)
    exact ⟨i + 1, by omega, by omega, by repeat (first | exact SubL.nil | refine SubL.cons rfl ?_), by exact drop_auto⟩
  · repeat (first | refine Z0 ?_ | (refine ZR ?_; first | refine x1 ?_ | refine x2 ?_ | refine x8 ?_ | refine Z1 ?_ | refine Z2 ?_ | refine x3 fun _ => ?_ | refine x4 fun _ => ?_ | refine x5 fun _ => ?_ | refine Z3 fun _ => ?_ | refine Z4 fun _ => ?_) | refine ZC ?_)
    exact re_1 rfl rfl (by exact drop_auto) hQ
end
end Go.Proofs.Ytoimfchhmocgeaa.Abs

/- The contract of the statement MobilityLimits. -/
namespace Go.Proofs.Ytoimfchhmocgeaa.Abs
open Go
set_option linter.unusedVariables false
section
variable {B0 : Nat} {old : Nat → Option (List Value)} {n : Nat} {H G : Hp} {Q : Value → Hp → Prop} {p : Nat} {lim win last : Int} {K : Kk} {cl : Option (Int × Bool)} {mv : Option (List Int × Bool)}
set_option maxRecDepth 10000
set_option maxHeartbeats 8000000
end
end Go.Proofs.Ytoimfchhmocgeaa.Abs

/- Readings of arguments for the statements of chapter 24. -/
namespace Go.Proofs.Ytoimfchhmocgeaa.Abs
open Go Go.RowKit
set_option linter.unusedVariables false
set_option maxRecDepth 100000
set_option maxHeartbeats 2000000
section
variable {H : Type} {enc : TypeId × Value → H} {w : World} {base : Nat} {spare : Nat → Bool} {held : Bool}
end
end Go.Proofs.Ytoimfchhmocgeaa.Abs
