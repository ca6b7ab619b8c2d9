/- The book with at most one address: the rules. -/
import Derived.Test.YtoimfchhmocgeaaQm
namespace Go.Proofs.Ytoimfchhmocgeaa.Abs
open Go
set_option linter.unusedVariables false
theorem bk_p {a b c : Nat × AObj} {A B H : Hp} : (a :: b :: c :: (A ++ (B ++ H))).Perm (a :: b :: c :: (B ++ (A ++ H))) := List.Perm.cons _ (List.Perm.cons _ (List.Perm.cons _ (List.perm_append_comm_assoc _ _ _)))
theorem bk_q {t a b c : Nat × AObj} {A B H : Hp} : (a :: b :: c :: (A ++ (B ++ (t :: H)))).Perm (t :: a :: b :: c :: (B ++ (A ++ H))) := by
  refine bk_p.trans ?_
  have h1 : (B ++ (A ++ (t :: H))).Perm (t :: (B ++ (A ++ H))) := (List.Perm.append_left B List.perm_middle).trans List.perm_middle
  exact (List.Perm.append_left [a, b, c] h1).trans (List.perm_middle (l₁ := [a, b, c]))
def clF (cl : Option (Int × Bool)) : Bool := match cl with
  | some (_, f) => f
  | none => false
def contB (cl : Option (Int × Bool)) (r : S27) : Bool := cl.isNone && (r.a3 != 0) && !r.a4
section
variable {B0 : Nat} {old : Nat → Option (List Value)} {n : Nat} {H CG MG : Hp} {Q : Value → Hp → Prop} {p cb mb cc mc b0 : Nat} {lim win last : Int} {cs ms : List (Kk × Nat × Nat)} {K : Kk} {cl : Option (Int × Bool)} {mv : Option (List Int × Bool)}
set_option maxRecDepth 10000
set_option maxHeartbeats 8000000
theorem rule65_ct (hC : ClI K cl cs cc CG) (r : S27) (self now : Int) (hb0 : ∀ q, cl = some q → ∃ bo, cs = [(K, b0, bo)]) (h : Q (.tuple #[.bool false, .bool (clF cl)]) ((p, AObj.row [.int .i64 lim, .int .i64 win, .int .i64 last, .map (some cb), .map (some mb)] 5 false) :: (cb, AObj.map (mkH ekM evP cs) cc) :: (mb, AObj.map (mkH ekM evP ms) mc) :: (CG ++ (MG ++ H)))) :
    CallT (cx B0 old) (acall (cx B0 old) ansP (n + 1)) 65 [.pointer (some ⟨p, 0, none⟩), .agg ⟨enX K (clV cl b0) r self now⟩] ((p, AObj.row [.int .i64 lim, .int .i64 win, .int .i64 last, .map (some cb), .map (some mb)] 5 false) :: (cb, AObj.map (mkH ekM evP cs) cc) :: (mb, AObj.map (mkH ekM evP ms) mc) :: (CG ++ (MG ++ H))) Q := by
  refine call_in2 16 rfl Try.func65 rfl rfl ?_
  unfold enX
  cases cl with
  | none =>
    unfold clV
    repeat (first | refine Z0 ?_ | (refine ZR ?_; first | refine x1 ?_ | refine x2 ?_ | refine x8 ?_ | refine Z1 ?_ | refine Z2 ?_ | refine x3 fun _ => ?_ | refine x4 fun _ => ?_ | refine x5 fun _ => ?_ | refine Z3 fun _ => ?_ | refine Z4 fun _ => ?_) | refine ZC ?_)
    refine ct_draw (masks := [0, 1, 3, 7, 15, 31, 63, 127, 255, 511, 15, 2047]) (plan := [0, 1, 2, 3, 4, 5, 6, 7, 8, 9, 10, 11]) (E := []) (by kernel_rfl) (by kernel_rfl) (by kernel_rfl) (by kernel_rfl) ?_
    repeat (first | refine Y0 ?_ | (refine YP ?_; first | refine y1 ?_ | refine y2 ?_ | refine Y1 ?_ | refine Y2 ?_))
    repeat (first | refine Z0 ?_ | (refine ZR ?_; first | refine x1 ?_ | refine x2 ?_ | refine x8 ?_ | refine Z1 ?_ | refine Z2 ?_ | refine x3 fun _ => ?_ | refine x4 fun _ => ?_ | refine x5 fun _ => ?_ | refine Z3 fun _ => ?_ | refine Z4 fun _ => ?_) | refine ZC ?_)
    exact re_2 rfl rfl rfl (List.Sublist.cons _ (List.Sublist.refl _)) h
  | some q =>
    obtain ⟨q, f⟩ := q
    obtain ⟨b, bo, hbo, rfl, rfl⟩ := hC
    obtain ⟨bo', hb'⟩ := hb0 _ rfl
    cases hb'
    unfold clV evP
    repeat (first | refine Z0 ?_ | (refine ZR ?_; first | refine x1 ?_ | refine x2 ?_ | refine x8 ?_ | refine Z1 ?_ | refine Z2 ?_ | refine x3 fun _ => ?_ | refine x4 fun _ => ?_ | refine x5 fun _ => ?_ | refine Z3 fun _ => ?_ | refine Z4 fun _ => ?_) | refine ZC ?_)
    refine ct_draw (masks := [0, 1, 3, 7, 15, 31, 63, 127, 255, 511, 15, 2047]) (plan := [0, 1, 2, 3, 4, 5, 6, 7, 8, 9, 10, 11]) (E := []) (by kernel_rfl) (by kernel_rfl) (by kernel_rfl) (by kernel_rfl) ?_
    repeat (first | refine Y0 ?_ | (refine YP ?_; first | refine y1 ?_ | refine y2 ?_ | refine Y1 ?_ | refine Y2 ?_))
    repeat (first | refine Z0 ?_ | (refine ZR ?_; first | refine x1 ?_ | refine x2 ?_ | refine x8 ?_ | refine Z1 ?_ | refine Z2 ?_ | refine x3 fun _ => ?_ | refine x4 fun _ => ?_ | refine x5 fun _ => ?_ | refine Z3 fun _ => ?_ | refine Z4 fun _ => ?_) | refine ZC ?_)
    exact re_2 rfl rfl rfl (List.Sublist.cons _ (List.Sublist.refl _)) h
theorem rule66_ct (hM : MvI K mv ms mc MG) (r : S27) (self now : Int) (h : Q (.tuple #[.bool (contB cl r && moveF mv), .bool (contB cl r && moveF mv)]) ((p, AObj.row [.int .i64 lim, .int .i64 win, .int .i64 last, .map (some cb), .map (some mb)] 5 false) :: (cb, AObj.map (mkH ekM evP cs) cc) :: (mb, AObj.map (mkH ekM evP ms) mc) :: (CG ++ (MG ++ H)))) :
    CallT (cx B0 old) (acall (cx B0 old) ansP (n + 2)) 66 [.pointer (some ⟨p, 0, none⟩), .agg ⟨enX K (clV cl b0) r self now⟩] ((p, AObj.row [.int .i64 lim, .int .i64 win, .int .i64 last, .map (some cb), .map (some mb)] 5 false) :: (cb, AObj.map (mkH ekM evP cs) cc) :: (mb, AObj.map (mkH ekM evP ms) mc) :: (CG ++ (MG ++ H))) Q := by
  refine call_in2 17 rfl Try.func66 rfl rfl ?_
  have hct := fun {H' : Hp} {Q' : Value → Hp → Prop} => contested67_ct (B0 := B0) (old := old) (n := n) (H := H') (Q := Q') (K := K) (cl := cl) b0 r self now
  have hst := fun {H' : Hp} {Q' : Value → Hp → Prop} => stuck46_ct (B0 := B0) (old := old) (n := n) (H := H') (Q := Q') (p := p) (cb := cb) (mb := mb) (cc := cc) (lim := lim) (win := win) (last := last) (cs := cs) hM
  unfold contB at h
  obtain ⟨cp, hcp⟩ : ∃ cp, clV cl b0 = .pointer cp := by cases cl <;> exact ⟨_, rfl⟩
  unfold enX at hct ⊢
  rw [hcp] at hct ⊢
  unfold enK at hst
  repeat (first | refine Z0 ?_ | (refine ZR ?_; first | refine x1 ?_ | refine x2 ?_ | refine x8 ?_ | refine Z1 ?_ | refine Z2 ?_ | refine x3 fun _ => ?_ | refine x4 fun _ => ?_ | refine x5 fun _ => ?_ | refine Z3 fun _ => ?_ | refine Z4 fun _ => ?_) | refine ZC ?_)
  refine rt_step rfl rfl rfl (st_call rfl rfl rfl rfl (hct ?_))
  generalize (cl.isNone && (r.a3 != 0) && !r.a4) = g at *
  cases g
  · repeat (first | refine Z0 ?_ | (refine ZR ?_; first | refine x1 ?_ | refine x2 ?_ | refine x8 ?_ | refine Z1 ?_ | refine Z2 ?_ | refine x3 fun _ => ?_ | refine x4 fun _ => ?_ | refine x5 fun _ => ?_ | refine Z3 fun _ => ?_ | refine Z4 fun _ => ?_) | refine ZC ?_)
    exact re_2 rfl rfl rfl (List.Sublist.cons _ (List.Sublist.refl _)) h
  · repeat (first | refine Z0 ?_ | (refine ZR ?_; first | refine x1 ?_ | refine x2 ?_ | refine x8 ?_ | refine Z1 ?_ | refine Z2 ?_ | refine x3 fun _ => ?_ | refine x4 fun _ => ?_ | refine x5 fun _ => ?_ | refine Z3 fun _ => ?_ | refine Z4 fun _ => ?_) | refine ZC ?_)
    refine rt_step rfl rfl rfl (st_call rfl rfl rfl rfl (CallT.perm (hst ?_) bk_q))
    refine RunT.perm ?_ bk_q.symm
    rw [Bool.true_and] at h
    repeat (first | refine Z0 ?_ | (refine ZR ?_; first | refine x1 ?_ | refine x2 ?_ | refine x8 ?_ | refine Z1 ?_ | refine Z2 ?_ | refine x3 fun _ => ?_ | refine x4 fun _ => ?_ | refine x5 fun _ => ?_ | refine Z3 fun _ => ?_ | refine Z4 fun _ => ?_) | refine ZC ?_)
    exact re_2 rfl rfl rfl (List.Sublist.cons _ (List.Sublist.refl _)) h
theorem rule69_ct (hC : ClI K cl cs cc CG) (r : S27) (self now : Int) (hb0 : ∀ q, cl = some q → ∃ bo, cs = [(K, b0, bo)])
    (hQ : ∀ cs' cc' CG', ClI K (decC (nextM (seqO cl) cl.isSome self r)) cs' cc' CG' → Q (.tuple #[.bool !(nextM (seqO cl) cl.isSome self r).2, .bool true]) ((p, AObj.row [.int .i64 lim, .int .i64 win, .int .i64 last, .map (some cb), .map (some mb)] 5 false) :: (cb, AObj.map (mkH ekM evP cs') cc') :: (mb, AObj.map (mkH ekM evP ms) mc) :: (CG' ++ (MG ++ H)))) :
    CallT (cx B0 old) (acall (cx B0 old) ansP (n + 4)) 69 [.pointer (some ⟨p, 0, none⟩), .agg ⟨enX K (clV cl b0) r self now⟩] ((p, AObj.row [.int .i64 lim, .int .i64 win, .int .i64 last, .map (some cb), .map (some mb)] 5 false) :: (cb, AObj.map (mkH ekM evP cs) cc) :: (mb, AObj.map (mkH ekM evP ms) mc) :: (CG ++ (MG ++ H))) Q := by
  refine call_in2 10 rfl Try.func69 rfl rfl ?_
  have hd := fun {H' : Hp} {Q' : Value → Hp → Prop} => decide70_ct (B0 := B0) (old := old) (n := n) (H := H') (Q := Q') (p := p) (cb := cb) (mb := mb) (mc := mc) (lim := lim) (win := win) (last := last) (ms := ms) hC r self now b0 hb0
  generalize nextM (seqO cl) cl.isSome self r = R at *
  obtain ⟨cp, hcp⟩ : ∃ cp, clV cl b0 = .pointer cp := by cases cl <;> exact ⟨_, rfl⟩
  unfold enX at hd ⊢
  rw [hcp] at hd ⊢
  repeat (first | refine Z0 ?_ | (refine ZR ?_; first | refine x1 ?_ | refine x2 ?_ | refine x8 ?_ | refine Z1 ?_ | refine Z2 ?_ | refine x3 fun _ => ?_ | refine x4 fun _ => ?_ | refine x5 fun _ => ?_ | refine Z3 fun _ => ?_ | refine Z4 fun _ => ?_) | refine ZC ?_)
  rename_i t3
  refine rt_step rfl rfl rfl (st_call rfl rfl rfl rfl (CallT.perm (hd (H' := MG ++ (_ :: H)) fun cs' cc' G' hC' => ?_) (bk_p.trans bk_q)))
  refine RunT.perm ?_ (bk_p.trans bk_q).symm
  repeat (first | refine Z0 ?_ | (refine ZR ?_; first | refine x1 ?_ | refine x2 ?_ | refine x8 ?_ | refine Z1 ?_ | refine Z2 ?_ | refine x3 fun _ => ?_ | refine x4 fun _ => ?_ | refine x5 fun _ => ?_ | refine Z3 fun _ => ?_ | refine Z4 fun _ => ?_) | refine ZC ?_)
  exact re_2 rfl rfl rfl (List.Sublist.cons _ (List.Sublist.refl _)) (hQ _ _ _ hC')
theorem rule68_ct (hM : MvI K mv ms mc MG) (hl : ∀ L f, mv = some (L, f) → L.length ≤ 2000) (r : S27) (self now : Int) (hn : 0 ≤ now ∧ now ≤ 1099511627776) (hwn : 0 ≤ win ∧ win ≤ 100000)
    (hno : contB cl r = false → Q (.tuple #[.bool false, .bool false]) ((p, AObj.row [.int .i64 lim, .int .i64 win, .int .i64 last, .map (some cb), .map (some mb)] 5 false) :: (cb, AObj.map (mkH ekM evP cs) cc) :: (mb, AObj.map (mkH ekM evP ms) mc) :: (CG ++ (MG ++ H))))
    (hQ : contB cl r = true → ∀ ms' mc' MG', MvI K (some (moveL win now mv ++ [now], moveF mv || tooM lim win now mv)) ms' mc' MG' → Q (.tuple #[.bool (tooM lim win now mv), .bool (tooM lim win now mv)]) ((p, AObj.row [.int .i64 lim, .int .i64 win, .int .i64 last, .map (some cb), .map (some mb)] 5 false) :: (cb, AObj.map (mkH ekM evP cs) cc) :: (mb, AObj.map (mkH ekM evP ms') mc') :: (CG ++ (MG' ++ H)))) :
    CallT (cx B0 old) (acall (cx B0 old) ansP (n + 6)) 68 [.pointer (some ⟨p, 0, none⟩), .agg ⟨enX K (clV cl b0) r self now⟩] ((p, AObj.row [.int .i64 lim, .int .i64 win, .int .i64 last, .map (some cb), .map (some mb)] 5 false) :: (cb, AObj.map (mkH ekM evP cs) cc) :: (mb, AObj.map (mkH ekM evP ms) mc) :: (CG ++ (MG ++ H))) Q := by
  refine call_in2 19 rfl Try.func68 rfl rfl ?_
  have hct := fun {H' : Hp} {Q' : Value → Hp → Prop} => contested67_ct (B0 := B0) (old := old) (n := n + 4) (H := H') (Q := Q') (K := K) (cl := cl) b0 r self now
  have hmv := fun {H' : Hp} {Q' : Value → Hp → Prop} => move44_ct (B0 := B0) (old := old) (n := n) (H := H') (Q := Q') (p := p) (cb := cb) (mb := mb) (cc := cc) (lim := lim) (win := win) (last := last) (cs := cs) hM hl now hn hwn
  unfold contB at hno hQ
  obtain ⟨cp, hcp⟩ : ∃ cp, clV cl b0 = .pointer cp := by cases cl <;> exact ⟨_, rfl⟩
  unfold enX at hct ⊢
  rw [hcp] at hct ⊢
  unfold enK at hmv
  generalize tooM lim win now mv = tm at *
  repeat (first | refine Z0 ?_ | (refine ZR ?_; first | refine x1 ?_ | refine x2 ?_ | refine x8 ?_ | refine Z1 ?_ | refine Z2 ?_ | refine x3 fun _ => ?_ | refine x4 fun _ => ?_ | refine x5 fun _ => ?_ | refine Z3 fun _ => ?_ | refine Z4 fun _ => ?_) | refine ZC ?_)
  refine rt_step rfl rfl rfl (st_call rfl rfl rfl rfl (hct ?_))
  generalize (cl.isNone && (r.a3 != 0) && !r.a4) = g at *
  cases g
  · repeat (first | refine Z0 ?_ | (refine ZR ?_; first | refine x1 ?_ | refine x2 ?_ | refine x8 ?_ | refine Z1 ?_ | refine Z2 ?_ | refine x3 fun _ => ?_ | refine x4 fun _ => ?_ | refine x5 fun _ => ?_ | refine Z3 fun _ => ?_ | refine Z4 fun _ => ?_) | refine ZC ?_)
    exact re_2 rfl rfl rfl (List.Sublist.cons _ (List.Sublist.refl _)) (hno rfl)
  · repeat (first | refine Z0 ?_ | (refine ZR ?_; first | refine x1 ?_ | refine x2 ?_ | refine x8 ?_ | refine Z1 ?_ | refine Z2 ?_ | refine x3 fun _ => ?_ | refine x4 fun _ => ?_ | refine x5 fun _ => ?_ | refine Z3 fun _ => ?_ | refine Z4 fun _ => ?_) | refine ZC ?_)
    refine rt_step rfl rfl rfl (st_call rfl rfl rfl rfl (CallT.perm (hmv fun ms' mc' G' hM' => ?_) bk_q))
    refine RunT.perm ?_ bk_q.symm
    repeat (first | refine Z0 ?_ | (refine ZR ?_; first | refine x1 ?_ | refine x2 ?_ | refine x8 ?_ | refine Z1 ?_ | refine Z2 ?_ | refine x3 fun _ => ?_ | refine x4 fun _ => ?_ | refine x5 fun _ => ?_ | refine Z3 fun _ => ?_ | refine Z4 fun _ => ?_) | refine ZC ?_)
    exact re_2 rfl rfl rfl (List.Sublist.cons _ (List.Sublist.refl _)) (hQ rfl _ _ _ hM')
end
end Go.Proofs.Ytoimfchhmocgeaa.Abs

/- The book with at most one address: keys of at most one entry. -/
namespace Go.Proofs.Ytoimfchhmocgeaa.Abs
open Go
set_option linter.unusedVariables false
structure N59 where
  a0 : Int
  a1 : Int
  a2 : Int
  a3 : Int
  a4 : Bool
  a5 : Int
def en59 (x : N59) : List Value := [.int .i64 x.a0, .int .i64 x.a1, .int .u64 x.a2, .int .u32 x.a3, .bool x.a4, .int .i64 x.a5]
theorem en59_len (x : N59) : (en59 x).length = 6 := rfl
theorem en59_one (x : N59) : (en59 x).all Value.oneCell' = true := rfl
def kN (x : N59) : Kk := ⟨x.a0, x.a2⟩
def kR (r : S27) : Kk := ⟨r.a0, r.a1⟩
section
variable {B0 : Nat} {old : Nat → Option (List Value)} {n : Nat} {H : Hp} {Q : Value → Hp → Prop}
set_option maxRecDepth 10000
set_option maxHeartbeats 8000000
theorem key48_ct (x : N59) (h : Q (.agg ⟨enK (kN x)⟩) H) : CallT (cx B0 old) (acall (cx B0 old) ansP (n + 1)) 48 [.agg ⟨en59 x⟩] H Q := by
  refine call_in1 8 rfl Try.func48 rfl rfl ?_
  unfold en59
  repeat (first | refine Z0 ?_ | (refine ZR ?_; first | refine x1 ?_ | refine x2 ?_ | refine x8 ?_ | refine Z1 ?_ | refine Z2 ?_ | refine x3 fun _ => ?_ | refine x4 fun _ => ?_ | refine x5 fun _ => ?_ | refine Z3 fun _ => ?_ | refine Z4 fun _ => ?_) | refine ZC ?_)
  exact re_c1 rfl rfl (.own _ _ hm0) rfl (sz rfl) rfl (by exact drop_auto) h
theorem key50_ct (x : S27) (h : Q (.agg ⟨enK (kR x)⟩) H) : CallT (cx B0 old) (acall (cx B0 old) ansP (n + 1)) 50 [.agg ⟨en27 x⟩] H Q := by
  refine call_in1 8 rfl Try.func50 rfl rfl ?_
  unfold en27
  repeat (first | refine Z0 ?_ | (refine ZR ?_; first | refine x1 ?_ | refine x2 ?_ | refine x8 ?_ | refine Z1 ?_ | refine Z2 ?_ | refine x3 fun _ => ?_ | refine x4 fun _ => ?_ | refine x5 fun _ => ?_ | refine Z3 fun _ => ?_ | refine Z4 fun _ => ?_) | refine ZC ?_)
  exact re_c1 rfl rfl (.own _ _ hm0) rfl (sz rfl) rfl (by exact drop_auto) h
theorem keys47_ct {ad : Option Addr} {c : Nat} {A : List N59} (ha : Arr (cx B0 old) H ad 6 en59 A) (hA : A.length ≤ 1) (hQ : ∀ v G, Own enK 2 (A.map kN) v G → Q (.tuple #[v, .bool true]) (G ++ H)) :
    CallT (cx B0 old) (acall (cx B0 old) ansP (n + 2)) 47 [.slice ad A.length c, .func (.func 48) #[] #[]] H Q := by
  refine call_in2 38 rfl Try.func47 rfl rfl ?_
  repeat (first | refine Z0 ?_ | (refine ZR ?_; first | refine x1 ?_ | refine x2 ?_ | refine x8 ?_ | refine Z1 ?_ | refine Z2 ?_ | refine x3 fun _ => ?_ | refine x4 fun _ => ?_ | refine x5 fun _ => ?_ | refine Z3 fun _ => ?_ | refine Z4 fun _ => ?_) | refine ZC ?_)
  refine loop_ind (ι := Nat × Value × Hp) (0, .slice none 0 0, []) (fun i => A.length - i.1) (fun i => i.1 ≤ A.length ∧ Own enK 2 ((A.take i.1).map kN) i.2.1 i.2.2)
    (fun i => [(12, .int .i64 (i.1 : Int)), (11, .int .i64 (A.length : Int)), (10, .slice ad A.length c), (6, i.2.1), (1, .func (.func 48) #[] #[])]) (fun i => i.2.2 ++ H) ⟨Nat.zero_le _, Own.nil⟩ (by repeat (first | exact SubL.nil | refine SubL.cons rfl ?_)) (List.Sublist.refl _) ?_
  rintro ⟨i, v, G⟩ ⟨hi, ho⟩
  dsimp only at hi ho ⊢
  repeat (first | refine Z0 ?_ | (refine ZR ?_; first | refine x1 ?_ | refine x2 ?_ | refine x8 ?_ | refine Z1 ?_ | refine Z2 ?_ | refine x3 fun _ => ?_ | refine x4 fun _ => ?_ | refine x5 fun _ => ?_ | refine Z3 fun _ => ?_ | refine Z4 fun _ => ?_) | refine ZC ?_)
  refine ct_condT te_d rfl (fun hlt => ?_) (fun hlt => ?_)
  rotate_left
  · obtain rfl : i = A.length := by omega
    rw [List.take_length] at ho
    have ho2 := ho
    obtain ⟨a1, c1, e1, _⟩ := ho.arrW (C := cx B0 old) enK_len
    subst e1
    repeat (first | refine Z0 ?_ | (refine ZR ?_; first | refine x1 ?_ | refine x2 ?_ | refine x8 ?_ | refine Z1 ?_ | refine Z2 ?_ | refine x3 fun _ => ?_ | refine x4 fun _ => ?_ | refine x5 fun _ => ?_ | refine Z3 fun _ => ?_ | refine Z4 fun _ => ?_) | refine ZC ?_)
    exact re_2 rfl rfl rfl (List.Sublist.refl _) (hQ _ _ ho2)
  obtain rfl : i = 0 := by omega
  obtain ⟨x, hx⟩ : ∃ x, A[0]? = some x := ⟨_, List.getElem?_eq_getElem (by omega)⟩
  have htk : A.take (0 + 1) = A.take 0 ++ [x] := by rw [List.take_add_one, hx]; rfl
  obtain ⟨b1, o1, e1, hL0⟩ := ha.ldW 59 hx rfl (sz rfl)
  subst e1
  have hk := fun {H' : Hp} {Q' : Value → Hp → Prop} => key48_ct (B0 := B0) (old := old) (n := n) (H := H') (Q := Q') x
  unfold en59 at hL0 hk
  repeat (first | refine Z0 ?_ | (refine ZR ?_; first | refine x1 ?_ | refine x2 ?_ | refine x8 ?_ | refine Z1 ?_ | refine Z2 ?_ | refine x3 fun _ => ?_ | refine x4 fun _ => ?_ | refine x5 fun _ => ?_ | refine Z3 fun _ => ?_ | refine Z4 fun _ => ?_) | refine ZC ?_)
  refine rt_step rfl rfl rfl (st_call rfl rfl rfl rfl (hk ?_))
  unfold enK
  repeat (first | refine Z0 ?_ | (refine ZR ?_; first | refine x1 ?_ | refine x2 ?_ | refine x8 ?_ | refine Z1 ?_ | refine Z2 ?_ | refine x3 fun _ => ?_ | refine x4 fun _ => ?_ | refine x5 fun _ => ?_ | refine Z3 fun _ => ?_ | refine Z4 fun _ => ?_) | refine ZC ?_)
  refine ct_draw (masks := [0, 1, 3, 7, 7, 23, 63, 127, 7, 511, 1023, 2047]) (plan := [0, 1, 2, 3, 4, 5, 6, 7, 8, 9, 10, 11]) (E := []) (by kernel_rfl) (by kernel_rfl) (by kernel_rfl) (by kernel_rfl) ?_
  repeat (first | refine Y0 ?_ | (refine YP ?_; first | refine y1 ?_ | refine y2 ?_ | refine Y1 ?_ | refine Y2 ?_))
  rw [show decide (((0 : Nat) : Int) > 0) = false by decide]
  repeat (first | refine Y0 ?_ | (refine YP ?_; first | refine y1 ?_ | refine y2 ?_ | refine Y1 ?_ | refine Y2 ?_))
  repeat (first | refine Z0 ?_ | (refine ZR ?_; first | refine x1 ?_ | refine x2 ?_ | refine x8 ?_ | refine Z1 ?_ | refine Z2 ?_ | refine x3 fun _ => ?_ | refine x4 fun _ => ?_ | refine x5 fun _ => ?_ | refine Z3 fun _ => ?_ | refine Z4 fun _ => ?_) | refine ZC ?_)
  refine rt_step rfl rfl rfl (st_appP (M := [kN x]) (c := 1) (pre := [_, _, _]) ho enK_len enK_one rfl rfl (ap rfl) (arrW_one (a := kN x) enK_len hm0) (Nat.le_of_ble_eq_true rfl) fun v2 G2 o2 => ?_)
  repeat (first | refine Z0 ?_ | (refine ZR ?_; first | refine x1 ?_ | refine x2 ?_ | refine x8 ?_ | refine Z1 ?_ | refine Z2 ?_ | refine x3 fun _ => ?_ | refine x4 fun _ => ?_ | refine x5 fun _ => ?_ | refine Z3 fun _ => ?_ | refine Z4 fun _ => ?_) | refine ZC ?_)
  exact ⟨(0 + 1, v2, G2), ⟨by dsimp only; omega, by dsimp only; rw [htk, List.map_append]; exact o2⟩, by dsimp only; omega, by repeat (first | exact SubL.nil | refine SubL.cons rfl ?_), by exact drop_auto⟩
theorem keys49_ct {ad : Option Addr} {c : Nat} {A : List S27} (ha : Arr (cx B0 old) H ad 5 en27 A) (hA : A.length ≤ 1) (hQ : ∀ v G, Own enK 2 (A.map kR) v G → Q (.tuple #[v, .bool true]) (G ++ H)) :
    CallT (cx B0 old) (acall (cx B0 old) ansP (n + 2)) 49 [.slice ad A.length c, .func (.func 50) #[] #[]] H Q := by
  refine call_in2 38 rfl Try.func49 rfl rfl ?_
  repeat (first | refine Z0 ?_ | (refine ZR ?_; first | refine x1 ?_ | refine x2 ?_ | refine x8 ?_ | refine Z1 ?_ | refine Z2 ?_ | refine x3 fun _ => ?_ | refine x4 fun _ => ?_ | refine x5 fun _ => ?_ | refine Z3 fun _ => ?_ | refine Z4 fun _ => ?_) | refine ZC ?_)
  refine loop_ind (ι := Nat × Value × Hp) (0, .slice none 0 0, []) (fun i => A.length - i.1) (fun i => i.1 ≤ A.length ∧ Own enK 2 ((A.take i.1).map kR) i.2.1 i.2.2)
    (fun i => [(12, .int .i64 (i.1 : Int)), (11, .int .i64 (A.length : Int)), (10, .slice ad A.length c), (6, i.2.1), (1, .func (.func 50) #[] #[])]) (fun i => i.2.2 ++ H) ⟨Nat.zero_le _, Own.nil⟩ (by repeat (first | exact SubL.nil | refine SubL.cons rfl ?_)) (List.Sublist.refl _) ?_
  rintro ⟨i, v, G⟩ ⟨hi, ho⟩
  dsimp only at hi ho ⊢
  repeat (first | refine Z0 ?_ | (refine ZR ?_; first | refine x1 ?_ | refine x2 ?_ | refine x8 ?_ | refine Z1 ?_ | refine Z2 ?_ | refine x3 fun _ => ?_ | refine x4 fun _ => ?_ | refine x5 fun _ => ?_ | refine Z3 fun _ => ?_ | refine Z4 fun _ => ?_) | refine ZC ?_)
  refine ct_condT te_d rfl (fun hlt => ?_) (fun hlt => ?_)
  rotate_left
  · obtain rfl : i = A.length := by omega
    rw [List.take_length] at ho
    have ho2 := ho
    obtain ⟨a1, c1, e1, _⟩ := ho.arrW (C := cx B0 old) enK_len
    subst e1
    repeat (first | refine Z0 ?_ | (refine ZR ?_; first | refine x1 ?_ | refine x2 ?_ | refine x8 ?_ | refine Z1 ?_ | refine Z2 ?_ | refine x3 fun _ => ?_ | refine x4 fun _ => ?_ | refine x5 fun _ => ?_ | refine Z3 fun _ => ?_ | refine Z4 fun _ => ?_) | refine ZC ?_)
    exact re_2 rfl rfl rfl (List.Sublist.refl _) (hQ _ _ ho2)
  obtain rfl : i = 0 := by omega
  obtain ⟨x, hx⟩ : ∃ x, A[0]? = some x := ⟨_, List.getElem?_eq_getElem (by omega)⟩
  have htk : A.take (0 + 1) = A.take 0 ++ [x] := by rw [List.take_add_one, hx]; rfl
  obtain ⟨b1, o1, e1, hL0⟩ := ha.ldW 27 hx rfl (sz rfl)
  subst e1
  have hk := fun {H' : Hp} {Q' : Value → Hp → Prop} => key50_ct (B0 := B0) (old := old) (n := n) (H := H') (Q := Q') x
  unfold en27 at hL0 hk
  repeat (first | refine Z0 ?_ | (refine ZR ?_; first | refine x1 ?_ | refine x2 ?_ | refine x8 ?_ | refine Z1 ?_ | refine Z2 ?_ | refine x3 fun _ => ?_ | refine x4 fun _ => ?_ | refine x5 fun _ => ?_ | refine Z3 fun _ => ?_ | refine Z4 fun _ => ?_) | refine ZC ?_)
  refine rt_step rfl rfl rfl (st_call rfl rfl rfl rfl (hk ?_))
  unfold enK
  repeat (first | refine Z0 ?_ | (refine ZR ?_; first | refine x1 ?_ | refine x2 ?_ | refine x8 ?_ | refine Z1 ?_ | refine Z2 ?_ | refine x3 fun _ => ?_ | refine x4 fun _ => ?_ | refine x5 fun _ => ?_ | refine Z3 fun _ => ?_ | refine Z4 fun _ => ?_) | refine ZC ?_)
  refine ct_draw (masks := [0, 1, 3, 7, 7, 23, 63, 127, 7, 511, 1023, 2047]) (plan := [0, 1, 2, 3, 4, 5, 6, 7, 8, 9, 10, 11]) (E := []) (by kernel_rfl) (by kernel_rfl) (by kernel_rfl) (by kernel_rfl) ?_
  repeat (first | refine Y0 ?_ | (refine YP ?_; first | refine y1 ?_ | refine y2 ?_ | refine Y1 ?_ | refine Y2 ?_))
  rw [show decide (((0 : Nat) : Int) > 0) = false by decide]
  repeat (first | refine Y0 ?_ | (refine YP ?_; first | refine y1 ?_ | refine y2 ?_ | refine Y1 ?_ | refine Y2 ?_))
  repeat (first | refine Z0 ?_ | (refine ZR ?_; first | refine x1 ?_ | refine x2 ?_ | refine x8 ?_ | refine Z1 ?_ | refine Z2 ?_ | refine x3 fun _ => ?_ | refine x4 fun _ => ?_ | refine x5 fun _ => ?_ | refine Z3 fun _ => ?_ | refine Z4 fun _ => ?_) | refine ZC ?_)
  refine rt_step rfl rfl rfl (st_appP (M := [kR x]) (c := 1) (pre := [_, _, _]) ho enK_len enK_one rfl rfl (ap rfl) (arrW_one (a := kR x) enK_len hm0) (Nat.le_of_ble_eq_true rfl) fun v2 G2 o2 => ?_)
  repeat (first | refine Z0 ?_ | (refine ZR ?_; first | refine x1 ?_ | refine x2 ?_ | refine x8 ?_ | refine Z1 ?_ | refine Z2 ?_ | refine x3 fun _ => ?_ | refine x4 fun _ => ?_ | refine x5 fun _ => ?_ | refine Z3 fun _ => ?_ | refine Z4 fun _ => ?_) | refine ZC ?_)
  exact ⟨(0 + 1, v2, G2), ⟨by dsimp only; omega, by dsimp only; rw [htk, List.map_append]; exact o2⟩, by dsimp only; omega, by repeat (first | exact SubL.nil | refine SubL.cons rfl ?_), by exact drop_auto⟩
end
end Go.Proofs.Ytoimfchhmocgeaa.Abs

/- The book with at most one address: clean. -/
namespace Go.Proofs.Ytoimfchhmocgeaa.Abs
open Go
set_option linter.unusedVariables false
def evB (b : Bool) : Value := .bool b
def ksO (K : Kk) : Bool → List Kk
  | true => [K]
  | false => []
def hasH (K : Kk) : Bool → List (Kk × Bool × Nat)
  | true => [(K, true, 0)]
  | false => []
/-- The moves that still count. -/
def clM (win now : Int) : Option (List Int × Bool) → Option (List Int × Bool)
  | some (L, f) => if (L.filter (keepT (now - win))).length = 0 ∧ f = false then none else some (L.filter (keepT (now - win)), f)
  | none => none
def ownC (own : Bool) (cl : Option (Int × Bool)) : Option (Int × Bool) := match own with
  | true => cl
  | false => none
theorem cl_p {x : Nat × AObj} {A P C H : Hp} : (x :: (A ++ (P ++ (C ++ H)))).Perm (P ++ (C ++ ((x :: A) ++ H))) :=
  (List.perm_append_comm_assoc (x :: A) P (C ++ H)).trans (List.Perm.append_left P (List.perm_append_comm_assoc (x :: A) C H))
theorem cl_q {x a b c d e : Nat × AObj} {A C H : Hp} : (b :: a :: c :: d :: e :: (C ++ ((x :: A) ++ H))).Perm (x :: (A ++ ([a, b, c, d, e] ++ (C ++ H)))) :=
  (List.Perm.swap _ _ _).trans (cl_p (P := [a, b, c, d, e])).symm
section
variable {B0 : Nat} {old : Nat → Option (List Value)} {n : Nat} {H CG MG : Hp} {Q : Value → Hp → Prop} {p cb mb cc mc : Nat} {lim win last : Int} {cs ms : List (Kk × Nat × Nat)} {K : Kk} {cl : Option (Int × Bool)} {mv : Option (List Int × Bool)}
set_option maxRecDepth 10000
set_option maxHeartbeats 8000000
theorem keyMapH : KeyMap (cx B0 old) 134 ekM (.bool false) := by
  refine ⟨⟨91, 4, _, rfl, fun k => akeyM _ _, fun a b => ?_, rfl, rfl, rfl⟩, fun k => bitsM _ _⟩
  obtain ⟨g, hg', hE⟩ := eqOk 20 91 _ (lvM (B0 := B0) (old := old))
  obtain ⟨x, y, ha, hb, _, he⟩ := hE (enK a) (enK b) rfl rfl Op.maxDepth (by decide)
  have hg : aggAt (cx B0 old) 91 = some true := rfl
  rw [hg] at hg'
  cases hg'
  cases ha
  cases hb
  rw [← eqM]
  exact he
theorem clean51_ct (hC : ClI K cl cs cc CG) (hM : MvI K mv ms mc MG) (hl : ∀ L f, mv = some (L, f) → L.length ≤ 2000) (own : Bool) {ad : Option Addr} {c : Nat} (ha : Arr (cx B0 old) H ad 2 enK (ksO K own)) (now : Int) (hn : 0 ≤ now ∧ now ≤ 1099511627776) (hwn : 0 ≤ win ∧ win ≤ 100000)
    (hQ : ∀ w cs' cc' CG' ms' mc' MG', ClI K (ownC own cl) cs' cc' CG' → MvI K (clM win now mv) ms' mc' MG' → Q w ((p, AObj.row [.int .i64 lim, .int .i64 win, .int .i64 last, .map (some cb), .map (some mb)] 5 false) :: (cb, AObj.map (mkH ekM evP cs') cc') :: (mb, AObj.map (mkH ekM evP ms') mc') :: (CG' ++ (MG' ++ H)))) :
    CallT (cx B0 old) (acall (cx B0 old) ansP (n + 5)) 51 [.pointer (some ⟨p, 0, none⟩), .slice ad (ksO K own).length c, .int .i64 now] ((p, AObj.row [.int .i64 lim, .int .i64 win, .int .i64 last, .map (some cb), .map (some mb)] 5 false) :: (cb, AObj.map (mkH ekM evP cs) cc) :: (mb, AObj.map (mkH ekM evP ms) mc) :: (CG ++ (MG ++ H))) Q := by
  refine call_in3 78 rfl Try.func51 rfl rfl ?_
  repeat (first | refine Z0 ?_ | (refine ZR ?_; first | refine x1 ?_ | refine x2 ?_ | refine x8 ?_ | refine Z1 ?_ | refine Z2 ?_ | refine x3 fun _ => ?_ | refine x4 fun _ => ?_ | refine x5 fun _ => ?_ | refine Z3 fun _ => ?_ | refine Z4 fun _ => ?_) | refine ZC ?_)
  rename_i hb
  refine ct_midB (ι := Nat) (fun _ => True) (fun _ => [(6, .map (some hb)), (2, .int .i64 now), (0, .pointer (some ⟨p, 0, none⟩))]) (fun hc => (hb, AObj.map (mkH ekM evB (hasH K own)) hc) :: (p, AObj.row [.int .i64 lim, .int .i64 win, .int .i64 last, .map (some cb), .map (some mb)] 5 false) :: (cb, AObj.map (mkH ekM evP cs) cc) :: (mb, AObj.map (mkH ekM evP ms) mc) :: (CG ++ (MG ++ H))) ?_ ?_
  · cases own
    · dsimp only [ksO, List.length_nil]
      refine ct_loop 1 ?_
      repeat (first | refine Z0 ?_ | (refine ZR ?_; first | refine x1 ?_ | refine x2 ?_ | refine x8 ?_ | refine Z1 ?_ | refine Z2 ?_ | refine x3 fun _ => ?_ | refine x4 fun _ => ?_ | refine x5 fun _ => ?_ | refine Z3 fun _ => ?_ | refine Z4 fun _ => ?_) | refine ZC ?_)
      exact ⟨0, trivial, by repeat (first | exact SubL.nil | refine SubL.cons rfl ?_), by exact drop_auto⟩
    · have hx : (ksO K true)[0]? = some K := rfl
      obtain ⟨b1, o1, e1, hL0⟩ := ha.ldW 91 hx rfl (sz rfl)
      subst e1
      unfold enK at hL0
      dsimp only [ksO, List.length_cons, List.length_nil]
      refine ct_loop 2 ?_
      repeat (first | refine Z0 ?_ | (refine ZR ?_; first | refine x1 ?_ | refine x2 ?_ | refine x8 ?_ | refine Z1 ?_ | refine Z2 ?_ | refine x3 fun _ => ?_ | refine x4 fun _ => ?_ | refine x5 fun _ => ?_ | refine Z3 fun _ => ?_ | refine Z4 fun _ => ?_) | refine ZC ?_)
      refine rt_step0 rfl rfl (st_update rfl rfl rfl (updE_K keyMapH [] 0 K true) sw1 ?_)
      repeat (first | refine Z0 ?_ | (refine ZR ?_; first | refine x1 ?_ | refine x2 ?_ | refine x8 ?_ | refine Z1 ?_ | refine Z2 ?_ | refine x3 fun _ => ?_ | refine x4 fun _ => ?_ | refine x5 fun _ => ?_ | refine Z3 fun _ => ?_ | refine Z4 fun _ => ?_) | refine ZC ?_)
      exact ⟨updC [] 0 K, trivial, by repeat (first | exact SubL.nil | refine SubL.cons rfl ?_), by exact drop_auto⟩
  intro hc _
  repeat (first | refine Z0 ?_ | (refine ZR ?_; first | refine x1 ?_ | refine x2 ?_ | refine x8 ?_ | refine Z1 ?_ | refine Z2 ?_ | refine x3 fun _ => ?_ | refine x4 fun _ => ?_ | refine x5 fun _ => ?_ | refine Z3 fun _ => ?_ | refine Z4 fun _ => ?_) | refine ZC ?_)
  refine rt_step rfl rfl rfl (st_range rfl hm2 rfl fun it => ?_)
  repeat (first | refine Z0 ?_ | (refine ZR ?_; first | refine x1 ?_ | refine x2 ?_ | refine x8 ?_ | refine Z1 ?_ | refine Z2 ?_ | refine x3 fun _ => ?_ | refine x4 fun _ => ?_ | refine x5 fun _ => ?_ | refine Z3 fun _ => ?_ | refine Z4 fun _ => ?_) | refine ZC ?_)
  refine ct_midB (ι := List (Kk × Nat × Nat) × Hp) (fun j => ClI K (ownC own cl) j.1 cc j.2) (fun _ => [(2, .int .i64 now), (0, .pointer (some ⟨p, 0, none⟩))]) (fun j => (p, AObj.row [.int .i64 lim, .int .i64 win, .int .i64 last, .map (some cb), .map (some mb)] 5 false) :: (cb, AObj.map (mkH ekM evP j.1) cc) :: (mb, AObj.map (mkH ekM evP ms) mc) :: (j.2 ++ (MG ++ H))) ?_ ?_
  · cases cl with
    | none =>
      obtain ⟨rfl, rfl⟩ := hC
      have e0 : ownC own none = none := by cases own <;> rfl
      rw [e0]
      refine ct_loop 1 ?_
      repeat (first | refine Z0 ?_ | (refine ZR ?_; first | refine x1 ?_ | refine x2 ?_ | refine x8 ?_ | refine Z1 ?_ | refine Z2 ?_ | refine x3 fun _ => ?_ | refine x4 fun _ => ?_ | refine x5 fun _ => ?_ | refine Z3 fun _ => ?_ | refine Z4 fun _ => ?_) | refine ZC ?_)
      refine rt_step rfl rfl rfl (st_nextH rfl hm2 (Born.nil cc) (fun _ => ?_) (fun p hp => (by cases hp)))
      repeat (first | refine Z0 ?_ | (refine ZR ?_; first | refine x1 ?_ | refine x2 ?_ | refine x8 ?_ | refine Z1 ?_ | refine Z2 ?_ | refine x3 fun _ => ?_ | refine x4 fun _ => ?_ | refine x5 fun _ => ?_ | refine Z3 fun _ => ?_ | refine Z4 fun _ => ?_) | refine ZC ?_)
      exact ⟨([], []), ⟨rfl, rfl⟩, by repeat (first | exact SubL.nil | refine SubL.cons rfl ?_), by exact drop_auto⟩
    | some q =>
      obtain ⟨q, f⟩ := q
      obtain ⟨b, bo, hbo, rfl, rfl⟩ := hC
      have hB : Born [(K, b, bo)] cc := ⟨by simp, fun p hp => by rw [List.mem_singleton.1 hp]; exact hbo⟩
      refine ct_loop 2 ?_
      repeat (first | refine Z0 ?_ | (refine ZR ?_; first | refine x1 ?_ | refine x2 ?_ | refine x8 ?_ | refine Z1 ?_ | refine Z2 ?_ | refine x3 fun _ => ?_ | refine x4 fun _ => ?_ | refine x5 fun _ => ?_ | refine Z3 fun _ => ?_ | refine Z4 fun _ => ?_) | refine ZC ?_)
      refine rt_step rfl rfl rfl (st_nextH rfl hm2 hB (fun h => absurd (h _ (List.mem_singleton.2 rfl)) (by simp)) (fun p hp hv => ?_))
      obtain rfl := List.mem_singleton.1 hp
      clear hv
      dsimp only
      rw [ekM_eq, evP_eq]
      repeat (first | refine Z0 ?_ | (refine ZR ?_; first | refine x1 ?_ | refine x2 ?_ | refine x8 ?_ | refine Z1 ?_ | refine Z2 ?_ | refine x3 fun _ => ?_ | refine x4 fun _ => ?_ | refine x5 fun _ => ?_ | refine Z3 fun _ => ?_ | refine Z4 fun _ => ?_) | refine ZC ?_)
      refine rt_r rfl rfl rfl (rd_entryH (vs := []) (p := (K, b, bo)) rfl hm0 hm3 hB (List.mem_singleton.2 rfl)) ?_
      dsimp only
      rw [ekM_eq, evP_eq]
      repeat (first | refine Z0 ?_ | (refine ZR ?_; first | refine x1 ?_ | refine x2 ?_ | refine x8 ?_ | refine Z1 ?_ | refine Z2 ?_ | refine x3 fun _ => ?_ | refine x4 fun _ => ?_ | refine x5 fun _ => ?_ | refine Z3 fun _ => ?_ | refine Z4 fun _ => ?_) | refine ZC ?_)
      have hlk := lookE_K (C := cx B0 old) (ev := evB) keyMapH (hasH K own) K false
      rw [ekM_eq] at hlk
      cases own
      · rw [show lkH (hasH K false) K = none by rfl] at hlk
        dsimp only at hlk
        rw [if_neg (by decide)] at hlk
        refine rt_r rfl rfl rfl (rd_lookup rfl rfl hm2 hlk) ?_
        repeat (first | refine Z0 ?_ | (refine ZR ?_; first | refine x1 ?_ | refine x2 ?_ | refine x8 ?_ | refine Z1 ?_ | refine Z2 ?_ | refine x3 fun _ => ?_ | refine x4 fun _ => ?_ | refine x5 fun _ => ?_ | refine Z3 fun _ => ?_ | refine Z4 fun _ => ?_) | refine ZC ?_)
        refine ct_draw (masks := [0, 1, 3, 7, 0, 31]) (plan := [0, 1, 2, 3, 4, 5]) (E := []) (by kernel_rfl) (by kernel_rfl) (by kernel_rfl) (by kernel_rfl) ?_
        repeat (first | refine Y0 ?_ | (refine YP ?_; first | refine y1 ?_ | refine y2 ?_ | refine Y1 ?_ | refine Y2 ?_))
        refine pl_S0 rfl rfl rfl rfl rfl (st_delete rfl rfl (delE_K keyMapC [(K, b, bo)] K) sw4 ⟨by exact rec_auto, ?_⟩)
        rw [show delH [(K, b, bo)] K = [] by (unfold delH fH; simp)]
        repeat (first | refine Y0 ?_ | (refine YP ?_; first | refine y1 ?_ | refine y2 ?_ | refine Y1 ?_ | refine Y2 ?_))
        repeat (first | refine Z0 ?_ | (refine ZR ?_; first | refine x1 ?_ | refine x2 ?_ | refine x8 ?_ | refine Z1 ?_ | refine Z2 ?_ | refine x3 fun _ => ?_ | refine x4 fun _ => ?_ | refine x5 fun _ => ?_ | refine Z3 fun _ => ?_ | refine Z4 fun _ => ?_) | refine ZC ?_)
        refine RunT.perm ?_ pm1
        refine rt_step rfl rfl rfl (st_nextH (ms := []) rfl hm3 (Born.nil cc) (fun _ => ?_) (fun p hp => (by cases hp)))
        repeat (first | refine Z0 ?_ | (refine ZR ?_; first | refine x1 ?_ | refine x2 ?_ | refine x8 ?_ | refine Z1 ?_ | refine Z2 ?_ | refine x3 fun _ => ?_ | refine x4 fun _ => ?_ | refine x5 fun _ => ?_ | refine Z3 fun _ => ?_ | refine Z4 fun _ => ?_) | refine ZC ?_)
        exact ⟨([], []), ⟨rfl, rfl⟩, by repeat (first | exact SubL.nil | refine SubL.cons rfl ?_), by exact drop_auto⟩
      · have e : lkH (hasH K true) K = some true := by unfold hasH lkH fH; simp
        rw [e] at hlk
        dsimp only at hlk
        rw [if_neg (by decide)] at hlk
        unfold evB at hlk
        refine rt_r rfl rfl rfl (rd_lookup rfl rfl hm2 hlk) ?_
        repeat (first | refine Z0 ?_ | (refine ZR ?_; first | refine x1 ?_ | refine x2 ?_ | refine x8 ?_ | refine Z1 ?_ | refine Z2 ?_ | refine x3 fun _ => ?_ | refine x4 fun _ => ?_ | refine x5 fun _ => ?_ | refine Z3 fun _ => ?_ | refine Z4 fun _ => ?_) | refine ZC ?_)
        refine RunT.perm ?_ pm1
        refine rt_step rfl rfl rfl (st_nextH rfl hm3 hB (fun _ => ?_) (fun p hp hv => absurd (List.mem_singleton.2 (congrArg (·.2.2) (List.mem_singleton.1 hp))) hv))
        repeat (first | refine Z0 ?_ | (refine ZR ?_; first | refine x1 ?_ | refine x2 ?_ | refine x8 ?_ | refine Z1 ?_ | refine Z2 ?_ | refine x3 fun _ => ?_ | refine x4 fun _ => ?_ | refine x5 fun _ => ?_ | refine Z3 fun _ => ?_ | refine Z4 fun _ => ?_) | refine ZC ?_)
        exact ⟨([(K, b, bo)], [(b, .row [.int .u32 q, .bool f] 2 false)]), ⟨b, bo, hbo, rfl, rfl⟩, by repeat (first | exact SubL.nil | refine SubL.cons rfl ?_), by exact drop_auto⟩
  rintro ⟨cs', CG'⟩ hC'
  dsimp only at hC' ⊢
  repeat (first | refine Z0 ?_ | (refine ZR ?_; first | refine x1 ?_ | refine x2 ?_ | refine x8 ?_ | refine Z1 ?_ | refine Z2 ?_ | refine x3 fun _ => ?_ | refine x4 fun _ => ?_ | refine x5 fun _ => ?_ | refine Z3 fun _ => ?_ | refine Z4 fun _ => ?_) | refine ZC ?_)
  refine rt_step rfl rfl rfl (st_range rfl hm2 rfl fun it => ?_)
  repeat (first | refine Z0 ?_ | (refine ZR ?_; first | refine x1 ?_ | refine x2 ?_ | refine x8 ?_ | refine Z1 ?_ | refine Z2 ?_ | refine x3 fun _ => ?_ | refine x4 fun _ => ?_ | refine x5 fun _ => ?_ | refine Z3 fun _ => ?_ | refine Z4 fun _ => ?_) | refine ZC ?_)
  cases mv with
  | none =>
    obtain ⟨rfl, rfl⟩ := hM
    refine ct_loop 1 ?_
    repeat (first | refine Z0 ?_ | (refine ZR ?_; first | refine x1 ?_ | refine x2 ?_ | refine x8 ?_ | refine Z1 ?_ | refine Z2 ?_ | refine x3 fun _ => ?_ | refine x4 fun _ => ?_ | refine x5 fun _ => ?_ | refine Z3 fun _ => ?_ | refine Z4 fun _ => ?_) | refine ZC ?_)
    refine rt_step rfl rfl rfl (st_nextH rfl hm2 (Born.nil mc) (fun _ => ?_) (fun p hp => (by cases hp)))
    repeat (first | refine Z0 ?_ | (refine ZR ?_; first | refine x1 ?_ | refine x2 ?_ | refine x8 ?_ | refine Z1 ?_ | refine Z2 ?_ | refine x3 fun _ => ?_ | refine x4 fun _ => ?_ | refine x5 fun _ => ?_ | refine Z3 fun _ => ?_ | refine Z4 fun _ => ?_) | refine ZC ?_)
    exact re_0 rfl (by exact drop_auto) (fun w => hQ w cs' cc CG' [] mc [] hC' ⟨rfl, rfl⟩)
  | some q =>
    obtain ⟨L, f⟩ := q
    have hlL := hl L f rfl
    obtain ⟨b, bo, v, Gv, hbo, rfl, ho, rfl⟩ := hM
    have hB : Born [(K, b, bo)] mc := ⟨by simp, fun p hp => by rw [List.mem_singleton.1 hp]; exact hbo⟩
    refine ct_loop 2 ?_
    repeat (first | refine Z0 ?_ | (refine ZR ?_; first | refine x1 ?_ | refine x2 ?_ | refine x8 ?_ | refine Z1 ?_ | refine Z2 ?_ | refine x3 fun _ => ?_ | refine x4 fun _ => ?_ | refine x5 fun _ => ?_ | refine Z3 fun _ => ?_ | refine Z4 fun _ => ?_) | refine ZC ?_)
    refine rt_step rfl rfl rfl (st_nextH rfl hm2 hB (fun h => absurd (h _ (List.mem_singleton.2 rfl)) (by simp)) (fun p hp hv => ?_))
    obtain rfl := List.mem_singleton.1 hp
    clear hv
    dsimp only
    rw [ekM_eq, evP_eq]
    repeat (first | refine Z0 ?_ | (refine ZR ?_; first | refine x1 ?_ | refine x2 ?_ | refine x8 ?_ | refine Z1 ?_ | refine Z2 ?_ | refine x3 fun _ => ?_ | refine x4 fun _ => ?_ | refine x5 fun _ => ?_ | refine Z3 fun _ => ?_ | refine Z4 fun _ => ?_) | refine ZC ?_)
    refine rt_r rfl rfl rfl (rd_entryH (vs := []) (p := (K, b, bo)) rfl hm0 hm3 hB (List.mem_singleton.2 rfl)) ?_
    dsimp only
    rw [ekM_eq, evP_eq]
    repeat (first | refine Z0 ?_ | (refine ZR ?_; first | refine x1 ?_ | refine x2 ?_ | refine x8 ?_ | refine Z1 ?_ | refine Z2 ?_ | refine x3 fun _ => ?_ | refine x4 fun _ => ?_ | refine x5 fun _ => ?_ | refine Z3 fun _ => ?_ | refine Z4 fun _ => ?_) | refine ZC ?_)
    unfold clM at hQ
    dsimp only at hQ
    obtain ⟨F, hF⟩ : ∃ F, List.filter (keepT (now - win)) L = F := ⟨_, rfl⟩
    have hfl : F.length ≤ 2000 := by rw [← hF]; exact Nat.le_trans (List.length_filter_le _ _) hlL
    rw [hF] at hQ
    refine rt_step rfl rfl rfl (st_call rfl rfl rfl rfl (CallT.perm (forget63_ct (H := [_, _, _, _, _] ++ (CG' ++ H)) ho (by omega) (now - win) fun w v' G' o' => ?_) cl_p))
    rw [hF] at o'
    have o2 := o'
    obtain ⟨ad2, c2, ev2, _⟩ := o'.own.arrW (C := cx B0 old) enV_len
    subst ev2
    refine RunT.perm ?_ cl_q
    repeat (first | refine Z0 ?_ | (refine ZR ?_; first | refine x1 ?_ | refine x2 ?_ | refine x8 ?_ | refine Z1 ?_ | refine Z2 ?_ | refine x3 fun _ => ?_ | refine x4 fun _ => ?_ | refine x5 fun _ => ?_ | refine Z3 fun _ => ?_ | refine Z4 fun _ => ?_) | refine ZC ?_)
    have keep : ¬ (F.length = 0 ∧ f = false) → MvI K (if F.length = 0 ∧ f = false then none else some (F, f)) [(K, b, bo)] mc ((b, .row [.slice ad2 F.length c2, .bool f] 2 false) :: G') := fun h => by
      rw [if_neg h]
      exact ⟨b, bo, _, G', hbo, rfl, o2, rfl⟩
    have hend : ∀ q ∈ [(K, b, bo)], q.2.2 ∉ [] ++ [bo] → False := fun q hq hv => hv (List.mem_singleton.2 (congrArg (·.2.2) (List.mem_singleton.1 hq)))
    by_cases h0 : F.length = 0
    · rw [show ((F.length : Int) == 0) = true by rw [h0]; rfl]
      repeat (first | refine Z0 ?_ | (refine ZR ?_; first | refine x1 ?_ | refine x2 ?_ | refine x8 ?_ | refine Z1 ?_ | refine Z2 ?_ | refine x3 fun _ => ?_ | refine x4 fun _ => ?_ | refine x5 fun _ => ?_ | refine Z3 fun _ => ?_ | refine Z4 fun _ => ?_) | refine ZC ?_)
      cases f
      · rw [if_pos ⟨h0, rfl⟩] at hQ
        repeat (first | refine Z0 ?_ | (refine ZR ?_; first | refine x1 ?_ | refine x2 ?_ | refine x8 ?_ | refine Z1 ?_ | refine Z2 ?_ | refine x3 fun _ => ?_ | refine x4 fun _ => ?_ | refine x5 fun _ => ?_ | refine Z3 fun _ => ?_ | refine Z4 fun _ => ?_) | refine ZC ?_)
        refine ct_draw (masks := [0, 1, 3, 7, 0, 31]) (plan := [0, 1, 2, 3, 4, 5]) (E := []) (by kernel_rfl) (by kernel_rfl) (by kernel_rfl) (by kernel_rfl) ?_
        repeat (first | refine Y0 ?_ | (refine YP ?_; first | refine y1 ?_ | refine y2 ?_ | refine Y1 ?_ | refine Y2 ?_))
        refine pl_S0 rfl rfl rfl rfl rfl (st_delete rfl rfl (delE_K keyMapM [(K, b, bo)] K) sw4 ⟨by exact rec_auto, ?_⟩)
        rw [show delH [(K, b, bo)] K = [] by (unfold delH fH; simp)]
        repeat (first | refine Y0 ?_ | (refine YP ?_; first | refine y1 ?_ | refine y2 ?_ | refine Y1 ?_ | refine Y2 ?_))
        repeat (first | refine Z0 ?_ | (refine ZR ?_; first | refine x1 ?_ | refine x2 ?_ | refine x8 ?_ | refine Z1 ?_ | refine Z2 ?_ | refine x3 fun _ => ?_ | refine x4 fun _ => ?_ | refine x5 fun _ => ?_ | refine Z3 fun _ => ?_ | refine Z4 fun _ => ?_) | refine ZC ?_)
        refine rt_step rfl rfl rfl (st_nextH (ms := []) rfl hm3 (Born.nil mc) (fun _ => ?_) (fun p hp => (by cases hp)))
        repeat (first | refine Z0 ?_ | (refine ZR ?_; first | refine x1 ?_ | refine x2 ?_ | refine x8 ?_ | refine Z1 ?_ | refine Z2 ?_ | refine x3 fun _ => ?_ | refine x4 fun _ => ?_ | refine x5 fun _ => ?_ | refine Z3 fun _ => ?_ | refine Z4 fun _ => ?_) | refine ZC ?_)
        exact re_0 rfl (by exact drop_auto) (fun w => hQ w cs' cc CG' [] mc [] hC' ⟨rfl, rfl⟩)
      · repeat (first | refine Z0 ?_ | (refine ZR ?_; first | refine x1 ?_ | refine x2 ?_ | refine x8 ?_ | refine Z1 ?_ | refine Z2 ?_ | refine x3 fun _ => ?_ | refine x4 fun _ => ?_ | refine x5 fun _ => ?_ | refine Z3 fun _ => ?_ | refine Z4 fun _ => ?_) | refine ZC ?_)
        refine rt_step rfl rfl rfl (st_nextH rfl hm3 hB (fun _ => ?_) (fun q hq hv => (hend q hq hv).elim))
        repeat (first | refine Z0 ?_ | (refine ZR ?_; first | refine x1 ?_ | refine x2 ?_ | refine x8 ?_ | refine Z1 ?_ | refine Z2 ?_ | refine x3 fun _ => ?_ | refine x4 fun _ => ?_ | refine x5 fun _ => ?_ | refine Z3 fun _ => ?_ | refine Z4 fun _ => ?_) | refine ZC ?_)
        exact re_0 rfl (by exact drop_auto) (fun w => hQ w cs' cc CG' _ mc _ hC' (keep (by simp)))
    · rw [show ((F.length : Int) == 0) = false by (simp only [beq_eq_false_iff_ne, ne_eq]; omega)]
      repeat (first | refine Z0 ?_ | (refine ZR ?_; first | refine x1 ?_ | refine x2 ?_ | refine x8 ?_ | refine Z1 ?_ | refine Z2 ?_ | refine x3 fun _ => ?_ | refine x4 fun _ => ?_ | refine x5 fun _ => ?_ | refine Z3 fun _ => ?_ | refine Z4 fun _ => ?_) | refine ZC ?_)
      refine rt_step rfl rfl rfl (st_nextH rfl hm3 hB (fun _ => ?_) (fun q hq hv => (hend q hq hv).elim))
      repeat (first | refine Z0 ?_ | (refine ZR ?_; first | refine x1 ?_ | refine x2 ?_ | refine x8 ?_ | refine Z1 ?_ | refine Z2 ?_ | refine x3 fun _ => ?_ | refine x4 fun _ => ?_ | refine x5 fun _ => ?_ | refine Z3 fun _ => ?_ | refine Z4 fun _ => ?_) | refine ZC ?_)
      exact re_0 rfl (by exact drop_auto) (fun w => hQ w cs' cc CG' _ mc _ hC' (keep fun h => h0 h.1))
end
end Go.Proofs.Ytoimfchhmocgeaa.Abs

/- The book with at most one address: Settle. -/
namespace Go.Proofs.Ytoimfchhmocgeaa.Abs
open Go
set_option linter.unusedVariables false
def stR0 : S27 := ⟨0, 0, 0, 0, false⟩
def evR (r : S27) : Value := .agg ⟨en27 r⟩
def rivL : Option S27 → List S27
  | some r => [r]
  | none => []
def rvH (K : Kk) : Option S27 → List (Kk × S27 × Nat)
  | some r => [(K, r, 0)]
  | none => []
def rvR : Option S27 → S27
  | some r => r
  | none => stR0
def nearL (x : N59) : Bool → List N59
  | true => [x]
  | false => []
def mv2 (lim win now : Int) (mv : Option (List Int × Bool)) : Option (List Int × Bool) := some (moveL win now mv ++ [now], moveF mv || tooM lim win now mv)
abbrev BkS := Option (Int × Bool) × Option (List Int × Bool) × Bool
/-- What the rules from one on decide: the claim, the moves, whether the entry is given up. -/
def rule3 (self : Int) (cl : Option (Int × Bool)) (mv : Option (List Int × Bool)) (r : S27) : BkS := (decC (nextM (seqO cl) cl.isSome self r), mv, !(nextM (seqO cl) cl.isSome self r).2)
def rule2 (lim win self now : Int) (cl : Option (Int × Bool)) (mv : Option (List Int × Bool)) (r : S27) : BkS :=
  if contB cl r then (if tooM lim win now mv then (cl, mv2 lim win now mv, true) else rule3 self cl (mv2 lim win now mv) r) else rule3 self cl mv r
def rule1 (lim win self now : Int) (cl : Option (Int × Bool)) (mv : Option (List Int × Bool)) (r : S27) : BkS :=
  if contB cl r && moveF mv then (cl, mv, true) else rule2 lim win self now cl mv r
def rule0 (lim win self now : Int) (cl : Option (Int × Bool)) (mv : Option (List Int × Bool)) (r : S27) : BkS :=
  if clF cl then (cl, mv, false) else rule1 lim win self now cl mv r
def settleB (lim win self now : Int) (cl : Option (Int × Bool)) (mv : Option (List Int × Bool)) (own : Bool) (rv : Option S27) : BkS := match own with
  | true => rule0 lim win self now cl (clM win now mv) (rvR rv)
  | false => (none, clM win now mv, false)
def ruleK (i : Nat) (lim win self now : Int) (cl : Option (Int × Bool)) (mv : Option (List Int × Bool)) (r : S27) : BkS := match i with
  | 0 => rule0 lim win self now cl mv r
  | 1 => rule1 lim win self now cl mv r
  | 2 => rule2 lim win self now cl mv r
  | _ => rule3 self cl mv r
theorem rt_sw {P C M H : Hp} : (P ++ (C ++ (M ++ H))).Perm (C ++ (M ++ (P ++ H))) :=
  (List.perm_append_comm_assoc P C (M ++ H)).trans (List.Perm.append_left C (List.perm_append_comm_assoc P M H))
theorem mvF {A B C D X : Hp} : (A ++ (B ++ (C ++ (D ++ X)))).Perm (D ++ (A ++ (B ++ (C ++ X)))) :=
  (List.Perm.append_left A ((List.Perm.append_left B (List.perm_append_comm_assoc C D X)).trans (List.perm_append_comm_assoc B D _))).trans (List.perm_append_comm_assoc A D _)
theorem mvG {a b c : Nat × AObj} {C M G1 G2 H : Hp} : (a :: b :: c :: (C ++ (M ++ (G2 ++ (G1 ++ H))))).Perm (G2 ++ (G1 ++ (a :: b :: c :: (C ++ (M ++ H))))) :=
  (mvF (A := [a, b, c])).trans (List.Perm.append_left G2 (mvF (A := [a, b, c])))
theorem mvH {a b c x y z w : Nat × AObj} {C M H : Hp} : (a :: b :: c :: (C ++ (M ++ (x :: y :: z :: w :: H)))).Perm (x :: y :: z :: w :: a :: b :: c :: (C ++ (M ++ H))) :=
  mvF (A := [a, b, c]) (D := [x, y, z, w])
theorem ct_midN {C : Ctx} {hd : HH Prop} {rd : Bool} {nt id : Nat} {a : Code} {l : Sl} {H : Hp} {Φ : AX → Sl → Hp → Prop} {ι : Type} (P : ι → Prop) (lf : ι → Sl) (Hf : ι → Hp) (h : CodeT C hd rd nt a l H (fun e l' H' => e = .exit id ∧ ∃ i, P i ∧ SubL (lf i) l' ∧ (Hf i).Sublist H'))
    (h2 : ∀ i, P i → ∀ l' H', SubL (lf i) l' → (Hf i).Sublist H' → Φ .normal l' H') : CodeT C hd rd nt a l H (blockΦ id Φ) :=
  h.mono fun e l' H' he => by
    obtain ⟨rfl, i, h3, h4, h5⟩ := he
    exact bk_e (Nat.beq_refl _) (h2 i h3 l' H' h4 h5)
section
variable {B0 : Nat} {old : Nat → Option (List Value)} {n : Nat} {H CG MG : Hp} {Q : Value → Hp → Prop} {p cb mb cc mc : Nat} {lim win last : Int} {cs ms : List (Kk × Nat × Nat)} {K : Kk} {cl : Option (Int × Bool)} {mv : Option (List Int × Bool)}
set_option maxRecDepth 10000
set_option maxHeartbeats 8000000
theorem keyMapR : KeyMap (cx B0 old) 104 ekM (.agg ⟨en27 stR0⟩) := by
  refine ⟨⟨91, 27, _, rfl, fun k => akeyM _ _, fun a b => ?_, rfl, rfl, rfl⟩, fun k => bitsM _ _⟩
  obtain ⟨g, hg', hE⟩ := eqOk 20 91 _ (lvM (B0 := B0) (old := old))
  obtain ⟨x, y, ha, hb, _, he⟩ := hE (enK a) (enK b) rfl rfl Op.maxDepth (by decide)
  have hg : aggAt (cx B0 old) 91 = some true := rfl
  rw [hg] at hg'
  cases hg'
  cases ha
  cases hb
  rw [← eqM]
  exact he
theorem ClI.look (h : ClI K cl cs cc CG) : ∃ b0, (∀ q, cl = some q → ∃ bo, cs = [(K, b0, bo)]) ∧ lookE (cx B0 old) 82 (mkH ekM evP cs) (ekM K) false = some (clV cl b0) := by
  have hlk := lookE_K (C := cx B0 old) (ev := evP) keyMapC cs K false
  cases cl with
  | none =>
    obtain ⟨rfl, rfl⟩ := h
    exact ⟨0, fun q e => (by cases e), hlk⟩
  | some q =>
    obtain ⟨q, f⟩ := q
    obtain ⟨b, bo, hbo, rfl, rfl⟩ := h
    refine ⟨b, fun q e => ⟨bo, rfl⟩, hlk.trans ?_⟩
    have e : lkH [(K, b, bo)] K = some b := by unfold lkH fH; simp
    rw [e]
    rfl
theorem rvLook (K : Kk) (rv : Option S27) : lookE (cx B0 old) 104 (mkH ekM evR (rvH K rv)) (ekM K) false = some (.agg ⟨en27 (rvR rv)⟩) := by
  refine (lookE_K (C := cx B0 old) (ev := evR) keyMapR (rvH K rv) K false).trans ?_
  cases rv with
  | none => rfl
  | some r =>
    have e : lkH (rvH K (some r)) K = some r := by unfold rvH lkH fH; simp
    rw [e]
    rfl
theorem rules52_ct (hQ : ∀ b, Q (.slice (some ⟨b, 0, none⟩) 4 4) ((b, AObj.row [.func (.func 65) #[] #[], .func (.func 66) #[] #[], .func (.func 68) #[] #[], .func (.func 69) #[] #[]] 1 false) :: H)) : CallT (cx B0 old) (acall (cx B0 old) ansP (n + 1)) 52 [] H Q := by
  refine call_in 2 rfl Try.func52 rfl rfl ?_
  repeat (first | refine Z0 ?_ | (refine ZR ?_; first | refine x1 ?_ | refine x2 ?_ | refine x8 ?_ | refine Z1 ?_ | refine Z2 ?_ | refine x3 fun _ => ?_ | refine x4 fun _ => ?_ | refine x5 fun _ => ?_ | refine Z3 fun _ => ?_ | refine Z4 fun _ => ?_) | refine ZC ?_)
  exact re_1 rfl rfl (List.Sublist.refl _) (hQ _)
theorem settle21_ct (hC : ClI K cl cs cc CG) (hM : MvI K mv ms mc MG) (hl : ∀ L f, mv = some (L, f) → L.length ≤ 2000) (self now : Int) (hck : chkT last now = 0) (hwn : 0 ≤ win ∧ win ≤ 100000) (own : Bool) (x : N59) (hx : kN x = K) (rv : Option S27) (hr : ∀ r, rv = some r → kR r = K)
    {adn adr : Option Addr} {cn cr : Nat} (hn : Arr (cx B0 old) H adn 6 en59 (nearL x own)) (hrv : Arr (cx B0 old) H adr 5 en27 (rivL rv))
    (hQ : ∀ v G cs' cc' CG' ms' mc' MG', Own en59 6 (nearL x (settleB lim win self now cl mv own rv).2.2) v G → ClI K (settleB lim win self now cl mv own rv).1 cs' cc' CG' → MvI K (settleB lim win self now cl mv own rv).2.1 ms' mc' MG' →
      Q (.tuple #[v, .int .i64 0]) (G ++ ((p, AObj.row [.int .i64 lim, .int .i64 win, .int .i64 now, .map (some cb), .map (some mb)] 5 false) :: (cb, AObj.map (mkH ekM evP cs') cc') :: (mb, AObj.map (mkH ekM evP ms') mc') :: (CG' ++ (MG' ++ H))))) :
    CallT (cx B0 old) (acall (cx B0 old) ansP (n + 8)) 21 [.pointer (some ⟨p, 0, none⟩), .int .u32 self, .slice adn (nearL x own).length cn, .slice adr (rivL rv).length cr, .int .i64 now] ((p, AObj.row [.int .i64 lim, .int .i64 win, .int .i64 last, .map (some cb), .map (some mb)] 5 false) :: (cb, AObj.map (mkH ekM evP cs) cc) :: (mb, AObj.map (mkH ekM evP ms) mc) :: (CG ++ (MG ++ H))) Q := by
  have hnow : 0 ≤ now ∧ now ≤ 1099511627776 := by
    unfold chkT at hck
    by_cases h : now < 0 ∨ now > 1099511627776
    · rw [if_pos h] at hck; cases hck
    · omega
  refine call_in 122 rfl Try.func21 rfl rfl ?_
  repeat (first | refine Z0 ?_ | (refine ZR ?_; first | refine x1 ?_ | refine x2 ?_ | refine x8 ?_ | refine Z1 ?_ | refine Z2 ?_ | refine x3 fun _ => ?_ | refine x4 fun _ => ?_ | refine x5 fun _ => ?_ | refine Z3 fun _ => ?_ | refine Z4 fun _ => ?_) | refine ZC ?_)
  refine rt_step rfl rfl rfl (st_call rfl rfl rfl rfl (check43_ct now ?_))
  rw [hck]
  repeat (first | refine Z0 ?_ | (refine ZR ?_; first | refine x1 ?_ | refine x2 ?_ | refine x8 ?_ | refine Z1 ?_ | refine Z2 ?_ | refine x3 fun _ => ?_ | refine x4 fun _ => ?_ | refine x5 fun _ => ?_ | refine Z3 fun _ => ?_ | refine Z4 fun _ => ?_) | refine ZC ?_)
  refine rt_step rfl rfl rfl (st_call rfl rfl rfl rfl (keys47_ct (n := n + 5) (hn.weak (by exact drop_auto)) (by cases own <;> exact Nat.le_of_ble_eq_true rfl) fun v G1 o1 => ?_))
  have ek1 : (nearL x own).map kN = ksO K own := by cases own <;> simp [nearL, ksO, hx]
  have ek2 : (rivL rv).map kR = ksO K rv.isSome := by cases rv <;> simp [rivL, ksO, hr]
  rw [ek1] at o1
  obtain ⟨ad1, c1, e1, ga1⟩ := o1.arrW (C := cx B0 old) enK_len
  subst e1
  repeat (first | refine Z0 ?_ | (refine ZR ?_; first | refine x1 ?_ | refine x2 ?_ | refine x8 ?_ | refine Z1 ?_ | refine Z2 ?_ | refine x3 fun _ => ?_ | refine x4 fun _ => ?_ | refine x5 fun _ => ?_ | refine Z3 fun _ => ?_ | refine Z4 fun _ => ?_) | refine ZC ?_)
  refine rt_step rfl rfl rfl (st_call rfl rfl rfl rfl (keys49_ct (n := n + 5) (hrv.weak (by exact drop_auto)) (by cases rv <;> exact Nat.le_of_ble_eq_true rfl) fun v G2 o2 => ?_))
  rw [ek2] at o2
  obtain ⟨ad2, c2, e2, ga2⟩ := o2.arrW (C := cx B0 old) enK_len
  subst e2
  refine RunT.perm ?_ mvG
  repeat (first | refine Z0 ?_ | (refine ZR ?_; first | refine x1 ?_ | refine x2 ?_ | refine x8 ?_ | refine Z1 ?_ | refine Z2 ?_ | refine x3 fun _ => ?_ | refine x4 fun _ => ?_ | refine x5 fun _ => ?_ | refine Z3 fun _ => ?_ | refine Z4 fun _ => ?_) | refine ZC ?_)
  refine rt_step rfl rfl rfl (st_call rfl rfl rfl rfl (clean51_ct (n := n + 2) hC hM hl own ((ga1 G2 H).arr enK_len) now hnow hwn fun w cs1 cc1 CG1 ms1 mc1 MG1 hC1 hM1 => ?_))
  repeat (first | refine Z0 ?_ | (refine ZR ?_; first | refine x1 ?_ | refine x2 ?_ | refine x8 ?_ | refine Z1 ?_ | refine Z2 ?_ | refine x3 fun _ => ?_ | refine x4 fun _ => ?_ | refine x5 fun _ => ?_ | refine Z3 fun _ => ?_ | refine Z4 fun _ => ?_) | refine ZC ?_)
  rename_i rb
  refine ct_midB (ι := Nat) (fun _ => True) (fun _ => [(17, .map (some rb)), (13, .slice ad1 (ksO K own).length c1), (4, .int .i64 now), (2, .slice adn (nearL x own).length cn), (1, .int .u32 self), (0, .pointer (some ⟨p, 0, none⟩))]) (fun rc => (rb, AObj.map (mkH ekM evR (rvH K rv)) rc) :: ((p, AObj.row [.int .i64 lim, .int .i64 win, .int .i64 now, .map (some cb), .map (some mb)] 5 false) :: (cb, AObj.map (mkH ekM evP cs1) cc1) :: (mb, AObj.map (mkH ekM evP ms1) mc1) :: (CG1 ++ (MG1 ++ (G2 ++ (G1 ++ H)))))) ?_ ?_
  · cases rv with
    | none =>
      dsimp only [ksO, Option.isSome_none, List.length_nil]
      refine ct_loop 1 ?_
      repeat (first | refine Z0 ?_ | (refine ZR ?_; first | refine x1 ?_ | refine x2 ?_ | refine x8 ?_ | refine Z1 ?_ | refine Z2 ?_ | refine x3 fun _ => ?_ | refine x4 fun _ => ?_ | refine x5 fun _ => ?_ | refine Z3 fun _ => ?_ | refine Z4 fun _ => ?_) | refine ZC ?_)
      exact ⟨0, trivial, by repeat (first | exact SubL.nil | refine SubL.cons rfl ?_), by exact drop_auto⟩
    | some r =>
      have hx0 : (ksO K (some r).isSome)[0]? = some K := rfl
      obtain ⟨b1, i1, e1, hL0⟩ := ((ga2 [] (G1 ++ H)).arr enK_len).ldW 91 hx0 rfl (sz rfl)
      subst e1
      have hx1 : (rivL (some r))[0]? = some r := rfl
      obtain ⟨b2, i2, e2, hL1⟩ := hrv.ldW 27 hx1 rfl (sz rfl)
      subst e2
      unfold enK at hL0
      unfold en27 at hL1
      dsimp only [ksO, Option.isSome_some, rivL, List.length_cons, List.length_nil]
      refine ct_loop 2 ?_
      repeat (first | refine Z0 ?_ | (refine ZR ?_; first | refine x1 ?_ | refine x2 ?_ | refine x8 ?_ | refine Z1 ?_ | refine Z2 ?_ | refine x3 fun _ => ?_ | refine x4 fun _ => ?_ | refine x5 fun _ => ?_ | refine Z3 fun _ => ?_ | refine Z4 fun _ => ?_) | refine ZC ?_)
      refine ct_draw (masks := [0, 0, 0, 0, 12, 28, 63]) (plan := [0, 1, 2, 3, 4, 5, 6]) (E := []) (by kernel_rfl) (by kernel_rfl) (by kernel_rfl) (by kernel_rfl) ?_
      repeat (first | refine Y0 ?_ | (refine YP ?_; first | refine y1 ?_ | refine y2 ?_ | refine Y1 ?_ | refine Y2 ?_))
      refine pl_S0 rfl rfl rfl rfl rfl (st_update rfl rfl rfl (updE_K (ev := evR) keyMapR [] 0 K r) sw1 ⟨by exact rec_auto, ?_⟩)
      repeat (first | refine Y0 ?_ | (refine YP ?_; first | refine y1 ?_ | refine y2 ?_ | refine Y1 ?_ | refine Y2 ?_))
      repeat (first | refine Z0 ?_ | (refine ZR ?_; first | refine x1 ?_ | refine x2 ?_ | refine x8 ?_ | refine Z1 ?_ | refine Z2 ?_ | refine x3 fun _ => ?_ | refine x4 fun _ => ?_ | refine x5 fun _ => ?_ | refine Z3 fun _ => ?_ | refine Z4 fun _ => ?_) | refine ZC ?_)
      exact ⟨updC [] 0 K, trivial, by repeat (first | exact SubL.nil | refine SubL.cons rfl ?_), by exact drop_auto⟩
  intro rc _
  repeat (first | refine Z0 ?_ | (refine ZR ?_; first | refine x1 ?_ | refine x2 ?_ | refine x8 ?_ | refine Z1 ?_ | refine Z2 ?_ | refine x3 fun _ => ?_ | refine x4 fun _ => ?_ | refine x5 fun _ => ?_ | refine Z3 fun _ => ?_ | refine Z4 fun _ => ?_) | refine ZC ?_)
  refine rt_step rfl rfl rfl (st_call rfl rfl rfl rfl (rules52_ct fun tb => ?_))
  repeat (first | refine Z0 ?_ | (refine ZR ?_; first | refine x1 ?_ | refine x2 ?_ | refine x8 ?_ | refine Z1 ?_ | refine Z2 ?_ | refine x3 fun _ => ?_ | refine x4 fun _ => ?_ | refine x5 fun _ => ?_ | refine Z3 fun _ => ?_ | refine Z4 fun _ => ?_) | refine ZC ?_)
  cases own
  · dsimp only [ksO, List.length_nil]
    refine ct_loop 1 ?_
    repeat (first | refine Z0 ?_ | (refine ZR ?_; first | refine x1 ?_ | refine x2 ?_ | refine x8 ?_ | refine Z1 ?_ | refine Z2 ?_ | refine x3 fun _ => ?_ | refine x4 fun _ => ?_ | refine x5 fun _ => ?_ | refine Z3 fun _ => ?_ | refine Z4 fun _ => ?_) | refine ZC ?_)
    exact re_2 rfl rfl rfl (by exact drop_auto) (hQ _ [] cs1 cc1 CG1 ms1 mc1 MG1 .nil hC1 hM1)
  · dsimp only [ksO, List.length_cons, List.length_nil]
    have hx0 : (ksO K true)[0]? = some K := rfl
    obtain ⟨b1, i1, e1, hL0⟩ := ((ga1 [] H).arr enK_len).ldW 91 hx0 rfl (sz rfl)
    subst e1
    unfold enK at hL0
    obtain ⟨bN, oN, eN, hL1⟩ := hn.ldW 59 (i := 0) (a := x) rfl rfl (sz rfl)
    subst eN
    unfold en59 at hL1
    have hC2 : ClI K cl cs1 cc1 CG1 := hC1
    obtain ⟨b0, hb0, hlk⟩ := hC2.look (B0 := B0) (old := old)
    have hlr := rvLook (B0 := B0) (old := old) K rv
    obtain ⟨cp, hcp⟩ : ∃ cp, clV cl b0 = .pointer cp := by cases cl <;> exact ⟨_, rfl⟩
    rw [hcp, ekM_eq] at hlk
    rw [ekM_eq] at hlr
    unfold en27 at hlr
    refine ct_loop 2 ?_
    repeat (first | refine Z0 ?_ | (refine ZR ?_; first | refine x1 ?_ | refine x2 ?_ | refine x8 ?_ | refine Z1 ?_ | refine Z2 ?_ | refine x3 fun _ => ?_ | refine x4 fun _ => ?_ | refine x5 fun _ => ?_ | refine Z3 fun _ => ?_ | refine Z4 fun _ => ?_) | refine ZC ?_)
    refine ct_draw (masks := [0, 0, 2, 6, 14, 0, 62, 0, 0, 384, 0, 0, 4095, 0, 16383]) (plan := [0, 1, 2, 3, 4, 5, 6, 7, 8, 9, 10, 11, 12, 13, 14]) (E := []) (by kernel_rfl) (by kernel_rfl) (by kernel_rfl) (by kernel_rfl) ?_
    repeat (first | refine Y0 ?_ | (refine YP ?_; first | refine y1 ?_ | refine y2 ?_ | refine Y1 ?_ | refine Y2 ?_))
    refine pl_R rfl rfl rfl rfl rfl rfl (rd_lookup rfl rfl hm4 hlk) ?_
    repeat (first | refine Y0 ?_ | (refine YP ?_; first | refine y1 ?_ | refine y2 ?_ | refine Y1 ?_ | refine Y2 ?_))
    refine pl_R rfl rfl rfl rfl rfl rfl (rd_lookup rfl rfl hm2 hlr) ?_
    refine y1 ?_
    refine y1 ?_
    refine pl_p rfl rfl rfl rfl rfl rfl (p_buildS (r := enX K (.pointer cp) (rvR rv) self now) rfl (zr rfl) rfl rfl (by kernel_rfl) (by kernel_rfl)) ?_
    unfold enX
    refine pl_S rfl rfl rfl rfl rfl rfl (st_alloc (zr rfl) fun xb => ⟨rec_rd (rd_lookup rfl rfl hm3 hlr) (rec_rd (by apply rd_at rfl; (repeat (first | exact l1 rfl (sz rfl) rfl | exact lW rfl (sz rfl) rfl | exact lP rfl (sz rfl) rfl | exact hL0 _ (by exact drop_auto) | exact hL1 _ (by exact drop_auto) | exact hL2 _ (by exact drop_auto) | exact hL3 _ (by exact drop_auto) | exact hL4 _ (by exact drop_auto) | exact hL5 _ (by exact drop_auto) | exact hA0 _ _ (by omega) (by exact in_auto) | exact hA1 _ _ (by omega) (by exact in_auto) | exact hA2 _ _ (by omega) (by exact in_auto) | exact hA3 _ _ (by omega) (by exact in_auto) | apply lds | apply ldA))) (rec_rd (rd_lookup rfl rfl hm5 hlk) (by exact rec_auto))), ?_⟩)
    refine y3 ?_
    repeat (first | refine Y0 ?_ | (refine YP ?_; first | refine y1 ?_ | refine y2 ?_ | refine Y1 ?_ | refine Y2 ?_))
    repeat (first | refine Z0 ?_ | (refine ZR ?_; first | refine x1 ?_ | refine x2 ?_ | refine x8 ?_ | refine Z1 ?_ | refine Z2 ?_ | refine x3 fun _ => ?_ | refine x4 fun _ => ?_ | refine x5 fun _ => ?_ | refine Z3 fun _ => ?_ | refine Z4 fun _ => ?_) | refine ZC ?_)
    refine CodeT.perm ?_ mvH
    have hset : settleB lim win self now cl mv true rv = rule0 lim win self now cl (clM win now mv) (rvR rv) := rfl
    generalize settleB lim win self now cl mv true rv = res at *
    refine ct_midN (ι := List (Kk × Nat × Nat) × Nat × Hp × List (Kk × Nat × Nat) × Nat × Hp × Value × Hp) (fun t => ClI K res.1 t.1 t.2.1 t.2.2.1 ∧ MvI K res.2.1 t.2.2.2.1 t.2.2.2.2.1 t.2.2.2.2.2.1 ∧ Own en59 6 (nearL x res.2.2) t.2.2.2.2.2.2.1 t.2.2.2.2.2.2.2)
      (fun t => [(79, .int .i64 0), (78, .int .i64 ((0 + 1 : Nat) : Int)), (20, t.2.2.2.2.2.2.1)])
      (fun t => t.2.2.2.2.2.2.2 ++ ((p, AObj.row [.int .i64 lim, .int .i64 win, .int .i64 now, .map (some cb), .map (some mb)] 5 false) :: (cb, AObj.map (mkH ekM evP t.1) t.2.1) :: (mb, AObj.map (mkH ekM evP t.2.2.2.1) t.2.2.2.2.1) :: (t.2.2.1 ++ (t.2.2.2.2.2.1 ++ H)))) ?_ ?_
    rotate_left
    · rintro ⟨cs', cc', CG', ms', mc', MG', v, G⟩ ⟨h1, h2, h3⟩ l' H' hs1 hs2
      dsimp only at h1 h2 h3 hs1 hs2 ⊢
      refine Zo (Zl (CodeT.weak ?_ hs1 hs2))
      clear hs1 hs2
      obtain ⟨ad3, c3, e3, _⟩ := h3.arrW (C := cx B0 old) en59_len
      have h := hQ _ _ _ _ _ _ _ _ h3 h1 h2
      subst e3
      repeat (first | refine Z0 ?_ | (refine ZR ?_; first | refine x1 ?_ | refine x2 ?_ | refine x8 ?_ | refine Z1 ?_ | refine Z2 ?_ | refine x3 fun _ => ?_ | refine x4 fun _ => ?_ | refine x5 fun _ => ?_ | refine Z3 fun _ => ?_ | refine Z4 fun _ => ?_) | refine ZC ?_)
      exact re_2 rfl rfl rfl (List.Sublist.refl _) h
    have hl1 : ∀ L f, clM win now mv = some (L, f) → L.length ≤ 2000 := by
      intro L f e
      unfold clM at e
      cases mv with
      | none => cases e
      | some q =>
        obtain ⟨L0, f0⟩ := q
        dsimp only at e
        by_cases h : (L0.filter (keepT (now - win))).length = 0 ∧ f0 = false
        · rw [if_pos h] at e; cases e
        · rw [if_neg h] at e; cases e
          exact Nat.le_trans (List.length_filter_le _ _) (hl L0 _ rfl)
    clear hlk hlr
    refine loop_ind (ι := Nat × Option (List Int × Bool) × List (Kk × Nat × Nat) × Nat × Hp) (0, clM win now mv, ms1, mc1, MG1) (fun t => 4 - t.1) (fun t => t.1 ≤ 3 ∧ MvI K t.2.1 t.2.2.1 t.2.2.2.1 t.2.2.2.2 ∧ res = ruleK t.1 lim win self now cl t.2.1 (rvR rv) ∧ (t.1 ≤ 2 → ∀ L f, t.2.1 = some (L, f) → L.length ≤ 2000))
      (fun t => [(99, .int .i64 (t.1 : Int)), (98, .int .i64 ((4 : Nat) : Int)), (97, .slice (some ⟨tb, 0, none⟩) 4 4), (24, .pointer (some ⟨xb, 0, none⟩)), (22, .int .i64 0), (20, .slice none 0 0), (79, .int .i64 0), (78, .int .i64 ((0 + 1 : Nat) : Int)), (2, .slice (some ⟨bN, oN, none⟩) 1 cn), (0, .pointer (some ⟨p, 0, none⟩))])
      (fun t => ((p, AObj.row [.int .i64 lim, .int .i64 win, .int .i64 now, .map (some cb), .map (some mb)] 5 false) :: (cb, AObj.map (mkH ekM evP cs1) cc1) :: (mb, AObj.map (mkH ekM evP t.2.2.1) t.2.2.2.1) :: (CG1 ++ (t.2.2.2.2 ++ ((xb, AObj.row (enX K (.pointer cp) (rvR rv) self now) 10 false) :: (tb, AObj.row [.func (.func 65) #[] #[], .func (.func 66) #[] #[], .func (.func 68) #[] #[], .func (.func 69) #[] #[]] 1 false) :: H)))))
      ⟨Nat.zero_le _, hM1, hset, fun _ => hl1⟩ (by repeat (first | exact SubL.nil | refine SubL.cons rfl ?_)) (by exact drop_auto) ?_
    rintro ⟨i, mv', ms', mc', MG'⟩ ⟨hi, hM', hres, hl'⟩
    dsimp only at hi hM' hres hl' ⊢
    have h65 := fun {H' : Hp} {Q' : Value → Hp → Prop} => rule65_ct (n := n + 6) (B0 := B0) (old := old) (H := H') (Q := Q') (p := p) (cb := cb) (mb := mb) (lim := lim) (win := win) (last := now) (MG := MG') (cc := cc1) (mc := mc') (ms := ms') hC2 (rvR rv) self now hb0
    have h66 := fun {H' : Hp} {Q' : Value → Hp → Prop} => rule66_ct (n := n + 5) (B0 := B0) (old := old) (H := H') (Q := Q') (p := p) (cb := cb) (mb := mb) (lim := lim) (win := win) (last := now) (CG := CG1) (cc := cc1) (cs := cs1) (b0 := b0) (cl := cl) hM' (rvR rv) self now
    have h68 := fun {H' : Hp} {Q' : Value → Hp → Prop} h => rule68_ct (n := n + 1) (B0 := B0) (old := old) (H := H') (Q := Q') (p := p) (cb := cb) (mb := mb) (lim := lim) (win := win) (last := now) (CG := CG1) (cc := cc1) (cs := cs1) (b0 := b0) (cl := cl) hM' h (rvR rv) self now hnow hwn
    have h69 := fun {H' : Hp} {Q' : Value → Hp → Prop} => rule69_ct (n := n + 3) (B0 := B0) (old := old) (H := H') (Q := Q') (p := p) (cb := cb) (mb := mb) (lim := lim) (win := win) (last := now) (MG := MG') (cc := cc1) (mc := mc') (ms := ms') hC2 (rvR rv) self now hb0
    rw [hcp] at h65 h66 h68 h69
    unfold enX at h65 h66 h68 h69 ⊢
    have hi4 : i = 0 ∨ i = 1 ∨ i = 2 ∨ i = 3 := by omega
    rcases hi4 with rfl | rfl | rfl | rfl
    · clear h66 h68 h69
      repeat (first | refine Z0 ?_ | (refine ZR ?_; first | refine x1 ?_ | refine x2 ?_ | refine x8 ?_ | refine Z1 ?_ | refine Z2 ?_ | refine x3 fun _ => ?_ | refine x4 fun _ => ?_ | refine x5 fun _ => ?_ | refine Z3 fun _ => ?_ | refine Z4 fun _ => ?_) | refine ZC ?_)
      refine rt_step rfl rfl rfl (st_call rfl rfl rfl rfl (h65 ?_))
      clear h65
      unfold ruleK rule0 at hres
      generalize clF cl = fl at *
      cases fl
      · rw [if_neg (by decide)] at hres
        repeat (first | refine Z0 ?_ | (refine ZR ?_; first | refine x1 ?_ | refine x2 ?_ | refine x8 ?_ | refine Z1 ?_ | refine Z2 ?_ | refine x3 fun _ => ?_ | refine x4 fun _ => ?_ | refine x5 fun _ => ?_ | refine Z3 fun _ => ?_ | refine Z4 fun _ => ?_) | refine ZC ?_)
        exact ⟨(1, mv', ms', mc', MG'), ⟨by dsimp only; omega, hM', hres, fun _ => hl' (by omega)⟩, by dsimp only; omega, by repeat (first | exact SubL.nil | refine SubL.cons rfl ?_), by exact drop_auto⟩
      · rw [if_pos rfl] at hres
        have hr' := hres
        repeat (first | refine Z0 ?_ | (refine ZR ?_; first | refine x1 ?_ | refine x2 ?_ | refine x8 ?_ | refine Z1 ?_ | refine Z2 ?_ | refine x3 fun _ => ?_ | refine x4 fun _ => ?_ | refine x5 fun _ => ?_ | refine Z3 fun _ => ?_ | refine Z4 fun _ => ?_) | refine ZC ?_)
        exact ⟨rfl, (cs1, cc1, CG1, ms', mc', MG', .slice none 0 0, []), ⟨by rw [hr']; exact hC2, by rw [hr']; exact hM', by rw [hr']; exact .nil⟩, by repeat (first | exact SubL.nil | refine SubL.cons rfl ?_), by exact drop_auto⟩
    · clear h65 h68 h69
      repeat (first | refine Z0 ?_ | (refine ZR ?_; first | refine x1 ?_ | refine x2 ?_ | refine x8 ?_ | refine Z1 ?_ | refine Z2 ?_ | refine x3 fun _ => ?_ | refine x4 fun _ => ?_ | refine x5 fun _ => ?_ | refine Z3 fun _ => ?_ | refine Z4 fun _ => ?_) | refine ZC ?_)
      refine rt_step rfl rfl rfl (st_call rfl rfl rfl rfl (h66 ?_))
      clear h66
      unfold ruleK rule1 at hres
      generalize (contB cl (rvR rv) && moveF mv') = fl at *
      cases fl
      · rw [if_neg (by decide)] at hres
        repeat (first | refine Z0 ?_ | (refine ZR ?_; first | refine x1 ?_ | refine x2 ?_ | refine x8 ?_ | refine Z1 ?_ | refine Z2 ?_ | refine x3 fun _ => ?_ | refine x4 fun _ => ?_ | refine x5 fun _ => ?_ | refine Z3 fun _ => ?_ | refine Z4 fun _ => ?_) | refine ZC ?_)
        exact ⟨(2, mv', ms', mc', MG'), ⟨by dsimp only; omega, hM', hres, fun _ => hl' (by omega)⟩, by dsimp only; omega, by repeat (first | exact SubL.nil | refine SubL.cons rfl ?_), by exact drop_auto⟩
      · rw [if_pos rfl] at hres
        have hr' := hres
        repeat (first | refine Z0 ?_ | (refine ZR ?_; first | refine x1 ?_ | refine x2 ?_ | refine x8 ?_ | refine Z1 ?_ | refine Z2 ?_ | refine x3 fun _ => ?_ | refine x4 fun _ => ?_ | refine x5 fun _ => ?_ | refine Z3 fun _ => ?_ | refine Z4 fun _ => ?_) | refine ZC ?_)
        refine rt_step rfl rfl rfl (st_appP (M := [x]) (c := 1) (pre := []) (v := .slice none 0 0) (Hs := []) Own.nil en59_len en59_one rfl rfl (ap rfl) (arrW_one (a := x) en59_len hm0) (Nat.le_of_ble_eq_true rfl) fun v2 G3 o3 => ?_)
        repeat (first | refine Z0 ?_ | (refine ZR ?_; first | refine x1 ?_ | refine x2 ?_ | refine x8 ?_ | refine Z1 ?_ | refine Z2 ?_ | refine x3 fun _ => ?_ | refine x4 fun _ => ?_ | refine x5 fun _ => ?_ | refine Z3 fun _ => ?_ | refine Z4 fun _ => ?_) | refine ZC ?_)
        exact ⟨rfl, (cs1, cc1, CG1, ms', mc', MG', v2, G3), ⟨by rw [hr']; exact hC2, by rw [hr']; exact hM', by rw [hr']; exact o3⟩, by repeat (first | exact SubL.nil | refine SubL.cons rfl ?_), by exact drop_auto⟩
    · clear h65 h66 h69
      repeat (first | refine Z0 ?_ | (refine ZR ?_; first | refine x1 ?_ | refine x2 ?_ | refine x8 ?_ | refine Z1 ?_ | refine Z2 ?_ | refine x3 fun _ => ?_ | refine x4 fun _ => ?_ | refine x5 fun _ => ?_ | refine Z3 fun _ => ?_ | refine Z4 fun _ => ?_) | refine ZC ?_)
      unfold ruleK rule2 at hres
      refine rt_step rfl rfl rfl (st_call rfl rfl rfl rfl (h68 (hl' (by decide)) (fun hno => ?_) (fun hyes ms2 mc2 MG2 hM2 => ?_)))
      · clear h68
        rw [hno, if_neg (by decide)] at hres
        repeat (first | refine Z0 ?_ | (refine ZR ?_; first | refine x1 ?_ | refine x2 ?_ | refine x8 ?_ | refine Z1 ?_ | refine Z2 ?_ | refine x3 fun _ => ?_ | refine x4 fun _ => ?_ | refine x5 fun _ => ?_ | refine Z3 fun _ => ?_ | refine Z4 fun _ => ?_) | refine ZC ?_)
        exact ⟨(3, mv', ms', mc', MG'), ⟨by dsimp only; omega, hM', hres, fun h => absurd h (by dsimp only; omega)⟩, by dsimp only; omega, by repeat (first | exact SubL.nil | refine SubL.cons rfl ?_), by exact drop_auto⟩
      · clear h68
        rw [hyes, if_pos rfl] at hres
        have hM3 : MvI K (mv2 lim win now mv') ms2 mc2 MG2 := hM2
        clear hM2
        generalize tooM lim win now mv' = fl at *
        cases fl
        · rw [if_neg (by decide)] at hres
          repeat (first | refine Z0 ?_ | (refine ZR ?_; first | refine x1 ?_ | refine x2 ?_ | refine x8 ?_ | refine Z1 ?_ | refine Z2 ?_ | refine x3 fun _ => ?_ | refine x4 fun _ => ?_ | refine x5 fun _ => ?_ | refine Z3 fun _ => ?_ | refine Z4 fun _ => ?_) | refine ZC ?_)
          exact ⟨(3, mv2 lim win now mv', ms2, mc2, MG2), ⟨by dsimp only; omega, hM3, hres, fun h => absurd h (by dsimp only; omega)⟩, by dsimp only; omega, by repeat (first | exact SubL.nil | refine SubL.cons rfl ?_), by exact drop_auto⟩
        · rw [if_pos rfl] at hres
          have hr' := hres
          repeat (first | refine Z0 ?_ | (refine ZR ?_; first | refine x1 ?_ | refine x2 ?_ | refine x8 ?_ | refine Z1 ?_ | refine Z2 ?_ | refine x3 fun _ => ?_ | refine x4 fun _ => ?_ | refine x5 fun _ => ?_ | refine Z3 fun _ => ?_ | refine Z4 fun _ => ?_) | refine ZC ?_)
          refine rt_step rfl rfl rfl (st_appP (M := [x]) (c := 1) (pre := []) (v := .slice none 0 0) (Hs := []) Own.nil en59_len en59_one rfl rfl (ap rfl) (arrW_one (a := x) en59_len hm0) (Nat.le_of_ble_eq_true rfl) fun v2 G3 o3 => ?_)
          repeat (first | refine Z0 ?_ | (refine ZR ?_; first | refine x1 ?_ | refine x2 ?_ | refine x8 ?_ | refine Z1 ?_ | refine Z2 ?_ | refine x3 fun _ => ?_ | refine x4 fun _ => ?_ | refine x5 fun _ => ?_ | refine Z3 fun _ => ?_ | refine Z4 fun _ => ?_) | refine ZC ?_)
          exact ⟨rfl, (cs1, cc1, CG1, ms2, mc2, MG2, v2, G3), ⟨by rw [hr']; exact hC2, by rw [hr']; exact hM3, by rw [hr']; exact o3⟩, by repeat (first | exact SubL.nil | refine SubL.cons rfl ?_), by exact drop_auto⟩
    · clear h65 h66 h68
      repeat (first | refine Z0 ?_ | (refine ZR ?_; first | refine x1 ?_ | refine x2 ?_ | refine x8 ?_ | refine Z1 ?_ | refine Z2 ?_ | refine x3 fun _ => ?_ | refine x4 fun _ => ?_ | refine x5 fun _ => ?_ | refine Z3 fun _ => ?_ | refine Z4 fun _ => ?_) | refine ZC ?_)
      unfold ruleK rule3 at hres
      refine rt_step rfl rfl rfl (st_call rfl rfl rfl rfl (h69 fun cs2 cc2 CG2 hC3 => ?_))
      clear h69
      generalize nextM (seqO cl) cl.isSome self (rvR rv) = nx at *
      obtain ⟨sq, stays⟩ := nx
      dsimp only at hres hC3 ⊢
      have hr' := hres
      cases stays
      · repeat (first | refine Z0 ?_ | (refine ZR ?_; first | refine x1 ?_ | refine x2 ?_ | refine x8 ?_ | refine Z1 ?_ | refine Z2 ?_ | refine x3 fun _ => ?_ | refine x4 fun _ => ?_ | refine x5 fun _ => ?_ | refine Z3 fun _ => ?_ | refine Z4 fun _ => ?_) | refine ZC ?_)
        refine rt_step rfl rfl rfl (st_appP (M := [x]) (c := 1) (pre := []) (v := .slice none 0 0) (Hs := []) Own.nil en59_len en59_one rfl rfl (ap rfl) (arrW_one (a := x) en59_len hm0) (Nat.le_of_ble_eq_true rfl) fun v2 G3 o3 => ?_)
        repeat (first | refine Z0 ?_ | (refine ZR ?_; first | refine x1 ?_ | refine x2 ?_ | refine x8 ?_ | refine Z1 ?_ | refine Z2 ?_ | refine x3 fun _ => ?_ | refine x4 fun _ => ?_ | refine x5 fun _ => ?_ | refine Z3 fun _ => ?_ | refine Z4 fun _ => ?_) | refine ZC ?_)
        exact ⟨rfl, (cs2, cc2, CG2, ms', mc', MG', v2, G3), ⟨by rw [hr']; exact hC3, by rw [hr']; exact hM', by rw [hr']; exact o3⟩, by repeat (first | exact SubL.nil | refine SubL.cons rfl ?_), by exact drop_auto⟩
      · repeat (first | refine Z0 ?_ | (refine ZR ?_; first | refine x1 ?_ | refine x2 ?_ | refine x8 ?_ | refine Z1 ?_ | refine Z2 ?_ | refine x3 fun _ => ?_ | refine x4 fun _ => ?_ | refine x5 fun _ => ?_ | refine Z3 fun _ => ?_ | refine Z4 fun _ => ?_) | refine ZC ?_)
        exact ⟨rfl, (cs2, cc2, CG2, ms', mc', MG', .slice none 0 0, []), ⟨by rw [hr']; exact hC3, by rw [hr']; exact hM', by rw [hr']; exact .nil⟩, by repeat (first | exact SubL.nil | refine SubL.cons rfl ?_), by exact drop_auto⟩
end
end Go.Proofs.Ytoimfchhmocgeaa.Abs
