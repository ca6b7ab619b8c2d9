/- The book with at most one address: the rules. -/
import Derived.Test.YtoimfchhmocgeaaQm
namespace Go.Proofs.Ytoimfchhmocgeaa.Abs
open Go
set_option linter.unusedVariables false
theorem bk_p {a b c : Nat × AObj} {A B H : Hp} : (a :: b :: c :: (A ++ (B ++ H))).Perm (a :: b :: c :: (B ++ (A ++ H))) := List.Perm.cons _ (List.Perm.cons _ (List.Perm.cons _ (List.perm_append_comm_assoc _ _ _)))
theorem bk_q {t a b c : Nat × AObj} {A B H : Hp} : (a :: b :: c :: (A ++ (B ++ (t :: H)))).Perm (t :: a :: b :: c :: (B ++ (A ++ H))) := by
  refine bk_p.trans ?_
  have h1 : (B ++ (A ++ (t :: H))).Perm (t :: (B ++ (A ++ H))) := (List.Perm.append_left B List.perm_middle).trans List.perm_middle
  exact (List.Perm.append_left [a, b, c] h1).trans (List.perm_middle (l₁ := [a, b, c]))
def clF (cl : Option (Int × Bool)) : Bool := match cl with
  | some (_, f) => f
  | none => false
def contB (cl : Option (Int × Bool)) (r : S27) : Bool := cl.isNone && (r.a3 != 0) && !r.a4
section
variable {B0 : Nat} {old : Nat → Option (List Value)} {n : Nat} {H CG MG : Hp} {Q : Value → Hp → Prop} {p cb mb cc mc b0 : Nat} {lim win last : Int} {cs ms : List (Kk × Nat × Nat)} {K : Kk} {cl : Option (Int × Bool)} {mv : Option (List Int × Bool)}
set_option maxRecDepth 10000
set_option maxHeartbeats 8000000
end
end Go.Proofs.Ytoimfchhmocgeaa.Abs

/- The book with at most one address: keys of at most one entry. -/
namespace Go.Proofs.Ytoimfchhmocgeaa.Abs
open Go
set_option linter.unusedVariables false
structure N59 where
  a0 : Int
  a1 : Int
  a2 : Int
  a3 : Int
  a4 : Bool
  a5 : Int
def en59 (x : N59) : List Value := [.int .i64 x.a0, .int .i64 x.a1, .int .u64 x.a2, .int .u32 x.a3, .bool x.a4, .int .i64 x.a5]
theorem en59_len (x : N59) : (en59 x).length = 6 := rfl
theorem en59_one (x : N59) : (en59 x).all Value.oneCell' = true := rfl
def kN (x : N59) : Kk := ⟨x.a0, x.a2⟩
def kR (r : S27) : Kk := ⟨r.a0, r.a1⟩
section
variable {B0 : Nat} {old : Nat → Option (List Value)} {n : Nat} {H : Hp} {Q : Value → Hp → Prop}
set_option maxRecDepth 10000
set_option maxHeartbeats 8000000
theorem key48_ct (x : N59) (h : Q (.agg ⟨enK (kN x)⟩) H) : CallT (cx B0 old) (acall (cx B0 old) ansP (n + 1)) 48 [.agg ⟨en59 x⟩] H Q := by
  refine call_in1 8 rfl Try.func48 rfl rfl ?_
  unfold en59
  repeat (first | refine Z0 ?_ | (refine ZR ?_; first | refine x1 ?_ | refine x2 ?_ | refine x8 ?_ | refine Z1 ?_ | refine Z2 ?_ | refine x3 fun _ => ?_ | refine x4 fun _ => ?_ | refine x5 fun _ => ?_ | refine Z3 fun _ => ?_ | refine Z4 fun _ => ?_) | refine ZC ?_)
  exact re_c1 rfl rfl (.own _ _ hm0) rfl (sz rfl) rfl (by exact drop_auto) h
theorem key50_ct (x : S27) (h : Q (.agg ⟨enK (kR x)⟩) H) : CallT (cx B0 old) (acall (cx B0 old) ansP (n + 1)) 50 [.agg ⟨en27 x⟩] H Q := by
  refine call_in1 8 rfl Try.func50 rfl rfl ?_
  unfold en27
  repeat (first | refine Z0 ?_ | (refine ZR ?_; first | refine x1 ?_ | refine x2 ?_ | refine x8 ?_ | refine Z1 ?_ | refine Z2 ?_ | refine x3 fun _ => ?_ | refine x4 fun _ => ?_ | refine x5 fun _ => ?_ | refine Z3 fun _ => ?_ | refine Z4 fun _ => ?_) | refine ZC ?_)
  exact re_c1 rfl rfl (.own _ _ hm0) rfl (sz rfl) rfl (by exact drop_auto) h
end
end Go.Proofs.Ytoimfchhmocgeaa.Abs

/- The book with at most one address: clean. -/
namespace Go.Proofs.Ytoimfchhmocgeaa.Abs
open Go
set_option linter.unusedVariables false
def evB (b : Bool) : Value := .bool b
/-- The moves that still count. -/
def clM (win now : Int) : Option (List Int × Bool) → Option (List Int × Bool)
  | some (L, f) => if (L.filter (keepT (now - win))).length = 0 ∧ f = false then none else some (L.filter (keepT (now - win)), f)
  | none => none
section
variable {B0 : Nat} {old : Nat → Option (List Value)} {n : Nat} {H CG MG : Hp} {Q : Value → Hp → Prop} {p cb mb cc mc : Nat} {lim win last : Int} {cs ms : List (Kk × Nat × Nat)} {K : Kk} {cl : Option (Int × Bool)} {mv : Option (List Int × Bool)}
set_option maxRecDepth 10000
set_option maxHeartbeats 8000000
theorem keyMapH : KeyMap (cx B0 old) 134 ekM (.bool false) := by
  refine ⟨⟨91, 4, _, rfl, fun k => akeyM _ _, fun a b => ?_, rfl, rfl, rfl⟩, fun k => bitsM _ _⟩
  obtain ⟨g, hg', hE⟩ := eqOk 20 91 _ (lvM (B0 := B0) (old := old))
  obtain ⟨x, y, ha, hb, _, he⟩ := hE (enK a) (enK b) rfl rfl Op.maxDepth (by decide)
  have hg : aggAt (cx B0 old) 91 = some true := rfl
  rw [hg] at hg'
  cases hg'
  cases ha
  cases hb
  rw [← eqM]
  exact he
end
end Go.Proofs.Ytoimfchhmocgeaa.Abs

/- The book with at most one address: Settle. -/
namespace Go.Proofs.Ytoimfchhmocgeaa.Abs
open Go
set_option linter.unusedVariables false
def stR0 : S27 := ⟨0, 0, 0, 0, false⟩
def evR (r : S27) : Value := .agg ⟨en27 r⟩
def rvR : Option S27 → S27
  | some r => r
  | none => stR0
def nearL (x : N59) : Bool → List N59
  | true => [x]
  | false => []
def mv2 (lim win now : Int) (mv : Option (List Int × Bool)) : Option (List Int × Bool) := some (moveL win now mv ++ [now], moveF mv || tooM lim win now mv)
abbrev BkS := Option (Int × Bool) × Option (List Int × Bool) × Bool
/-- What the rules from one on decide: the claim, the moves, whether the entry is given up. -/
def rule3 (self : Int) (cl : Option (Int × Bool)) (mv : Option (List Int × Bool)) (r : S27) : BkS := (decC (nextM (seqO cl) cl.isSome self r), mv, !(nextM (seqO cl) cl.isSome self r).2)
def rule2 (lim win self now : Int) (cl : Option (Int × Bool)) (mv : Option (List Int × Bool)) (r : S27) : BkS :=
  if contB cl r then (if tooM lim win now mv then (cl, mv2 lim win now mv, true) else rule3 self cl (mv2 lim win now mv) r) else rule3 self cl mv r
def rule1 (lim win self now : Int) (cl : Option (Int × Bool)) (mv : Option (List Int × Bool)) (r : S27) : BkS :=
  if contB cl r && moveF mv then (cl, mv, true) else rule2 lim win self now cl mv r
def rule0 (lim win self now : Int) (cl : Option (Int × Bool)) (mv : Option (List Int × Bool)) (r : S27) : BkS :=
  if clF cl then (cl, mv, false) else rule1 lim win self now cl mv r
def settleB (lim win self now : Int) (cl : Option (Int × Bool)) (mv : Option (List Int × Bool)) (own : Bool) (rv : Option S27) : BkS := match own with
  | true => rule0 lim win self now cl (clM win now mv) (rvR rv)
  | false => (none, clM win now mv, false)
def ruleK (i : Nat) (lim win self now : Int) (cl : Option (Int × Bool)) (mv : Option (List Int × Bool)) (r : S27) : BkS := match i with
  | 0 => rule0 lim win self now cl mv r
  | 1 => rule1 lim win self now cl mv r
  | 2 => rule2 lim win self now cl mv r
  | _ => rule3 self cl mv r
theorem mvF {A B C D X : Hp} : (A ++ (B ++ (C ++ (D ++ X)))).Perm (D ++ (A ++ (B ++ (C ++ X)))) :=
  (List.Perm.append_left A ((List.Perm.append_left B (List.perm_append_comm_assoc C D X)).trans (List.perm_append_comm_assoc B D _))).trans (List.perm_append_comm_assoc A D _)
theorem mvG {a b c : Nat × AObj} {C M G1 G2 H : Hp} : (a :: b :: c :: (C ++ (M ++ (G2 ++ (G1 ++ H))))).Perm (G2 ++ (G1 ++ (a :: b :: c :: (C ++ (M ++ H))))) :=
  (mvF (A := [a, b, c])).trans (List.Perm.append_left G2 (mvF (A := [a, b, c])))
theorem ct_midN {C : Ctx} {hd : HH Prop} {rd : Bool} {nt id : Nat} {a : Code} {l : Sl} {H : Hp} {Φ : AX → Sl → Hp → Prop} {ι : Type} (P : ι → Prop) (lf : ι → Sl) (Hf : ι → Hp) (h : CodeT C hd rd nt a l H (fun e l' H' => e = .exit id ∧ ∃ i, P i ∧ SubL (lf i) l' ∧ (Hf i).Sublist H'))
    (h2 : ∀ i, P i → ∀ l' H', SubL (lf i) l' → (Hf i).Sublist H' → Φ .normal l' H') : CodeT C hd rd nt a l H (blockΦ id Φ) :=
  h.mono fun e l' H' he => by
    obtain ⟨rfl, i, h3, h4, h5⟩ := he
    exact bk_e (Nat.beq_refl _) (h2 i h3 l' H' h4 h5)
section
variable {B0 : Nat} {old : Nat → Option (List Value)} {n : Nat} {H CG MG : Hp} {Q : Value → Hp → Prop} {p cb mb cc mc : Nat} {lim win last : Int} {cs ms : List (Kk × Nat × Nat)} {K : Kk} {cl : Option (Int × Bool)} {mv : Option (List Int × Bool)}
set_option maxRecDepth 10000
set_option maxHeartbeats 8000000
theorem keyMapR : KeyMap (cx B0 old) 104 ekM (.agg ⟨en27 stR0⟩) := by
  refine ⟨⟨91, 27, _, rfl, fun k => akeyM _ _, fun a b => ?_, rfl, rfl, rfl⟩, fun k => bitsM _ _⟩
  obtain ⟨g, hg', hE⟩ := eqOk 20 91 _ (lvM (B0 := B0) (old := old))
  obtain ⟨x, y, ha, hb, _, he⟩ := hE (enK a) (enK b) rfl rfl Op.maxDepth (by decide)
  have hg : aggAt (cx B0 old) 91 = some true := rfl
  rw [hg] at hg'
  cases hg'
  cases ha
  cases hb
  rw [← eqM]
  exact he
theorem ClI.look (h : ClI K cl cs cc CG) : ∃ b0, (∀ q, cl = some q → ∃ bo, cs = [(K, b0, bo)]) ∧ lookE (cx B0 old) 82 (mkH ekM evP cs) (ekM K) false = some (clV cl b0) := by
  have hlk := lookE_K (C := cx B0 old) (ev := evP) keyMapC cs K false
  cases cl with
  | none =>
    obtain ⟨rfl, rfl⟩ := h
    exact ⟨0, fun q e => (by cases e), hlk⟩
  | some q =>
    obtain ⟨q, f⟩ := q
    obtain ⟨b, bo, hbo, rfl, rfl⟩ := h
    refine ⟨b, fun q e => ⟨bo, rfl⟩, hlk.trans ?_⟩
    have e : lkH [(K, b, bo)] K = some b := by unfold lkH fH; simp
    rw [e]
    rfl
theorem rules52_ct (hQ : ∀ b, Q (.slice (some ⟨b, 0, none⟩) 4 4) ((b, AObj.row [.func (.func 65) #[] #[], .func (.func 66) #[] #[], .func (.func 68) #[] #[], .func (.func 69) #[] #[]] 1 false) :: H)) : CallT (cx B0 old) (acall (cx B0 old) ansP (n + 1)) 52 [] H Q := by
  refine call_in 2 rfl Try.func52 rfl rfl ?_
  repeat (first | refine Z0 ?_ | (refine ZR ?_; first | refine x1 ?_ | refine x2 ?_ | refine x8 ?_ | refine Z1 ?_ | refine Z2 ?_ | refine x3 fun _ => ?_ | refine x4 fun _ => ?_ | refine x5 fun _ => ?_ | refine Z3 fun _ => ?_ | refine Z4 fun _ => ?_) | refine ZC ?_)
  exact re_1 rfl rfl (List.Sublist.refl _) (hQ _)
end
end Go.Proofs.Ytoimfchhmocgeaa.Abs
