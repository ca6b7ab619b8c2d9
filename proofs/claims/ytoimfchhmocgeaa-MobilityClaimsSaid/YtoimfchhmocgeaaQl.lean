/- The book with at most one address, in plain Lean: limits. -/
import Derived.Test.YtoimfchhmocgeaaQp
import Derived.Test.YtoimfchhmocgeaaTop
namespace Go.Proofs.Ytoimfchhmocgeaa.Abs
open Go
set_option linter.unusedVariables false
def timesM (mv : Option (List Int × Bool)) : List Int := match mv with
  | some (L, _) => L
  | none => []
theorem keep_keep {u w : Int} (h : w ≤ u) (L : List Int) : (L.filter (keepT w)).filter (keepT u) = L.filter (keepT u) := by
  rw [List.filter_filter]
  refine List.filter_congr fun t _ => ?_
  unfold keepT
  by_cases h1 : t ≤ u
  · simp [h1]
  · have h2 : ¬ t ≤ w := by omega
    simp [h1, h2]
theorem clM_times (win now : Int) (mv : Option (List Int × Bool)) (u : Int) (hu : now - win ≤ u) : (timesM (clM win now mv)).filter (keepT u) = (timesM mv).filter (keepT u) := by
  cases mv with
  | none => rfl
  | some q =>
    obtain ⟨L, f⟩ := q
    have e := keep_keep hu L
    unfold clM timesM
    dsimp only
    by_cases hc : (L.filter (keepT (now - win))).length = 0 ∧ f = false
    · rw [if_pos hc]
      rw [List.length_eq_zero_iff.1 hc.1] at e
      exact e
    · rw [if_neg hc]; exact e
theorem clM_F (win now : Int) (mv : Option (List Int × Bool)) : moveF (clM win now mv) = moveF mv := by
  cases mv with
  | none => rfl
  | some q =>
    obtain ⟨L, f⟩ := q
    unfold clM
    dsimp only
    by_cases hc : (L.filter (keepT (now - win))).length = 0 ∧ f = false
    · rw [if_pos hc, hc.2]; rfl
    · rw [if_neg hc]; rfl
theorem clM_len (win now : Int) (mv : Option (List Int × Bool)) : lenM (clM win now mv) ≤ lenM mv := by
  cases mv with
  | none => exact Nat.le_refl _
  | some q =>
    obtain ⟨L, f⟩ := q
    unfold clM
    dsimp only
    by_cases hc : (L.filter (keepT (now - win))).length = 0 ∧ f = false
    · rw [if_pos hc]; exact Nat.zero_le _
    · rw [if_neg hc]; exact List.length_filter_le _ _
theorem moveL_eq (win now : Int) (mv : Option (List Int × Bool)) : moveL win now mv = (timesM mv).filter (keepT (now - win)) := by
  unfold moveL timesM
  cases mv <;> rfl
/-- A settle leaves at most one move more. -/
theorem settle_len (lim win self now : Int) (cl : Option (Int × Bool)) (mv : Option (List Int × Bool)) (own : Bool) (rv : Option S27) : lenM (settleB lim win self now cl mv own rv).2.1 ≤ lenM mv + 1 := by
  have h1 := clM_len win now mv
  unfold settleB
  cases own with
  | false => dsimp only; omega
  | true =>
    dsimp only
    have h2 : lenM (mv2 lim win now (clM win now mv)) ≤ lenM mv + 1 := by
      unfold mv2 lenM
      dsimp only
      rw [List.length_append, List.length_singleton]
      have := moveL_len win now (clM win now mv)
      unfold lenM at this h1
      omega
    unfold rule0 rule1 rule2 rule3
    repeat' split
    all_goals dsimp only
    all_goals omega
/-- The book between the moves of the law: the times that were accepted, and whether one was not. -/
structure LimI (win last : Int) (T : List Int) (fz : Bool) (mv : Option (List Int × Bool)) : Prop where
  hfz : moveF mv = fz
  htm : fz = false → ∀ u, last - win ≤ u → (timesM mv).filter (keepT u) = T.filter (keepT u)
  hln : lenM mv ≤ T.length + 1
theorem LimI.nil (win : Int) : LimI win 0 [] false none := ⟨rfl, fun _ _ _ => rfl, Nat.zero_le _⟩
def manyT (win now : Int) (T : List Int) : Int := ((T.filter (keepT (now - win))).length : Int)
/-- A move to the leaf. -/
theorem lim_step {lim win last now q : Int} {T : List Int} {fz : Bool} {mv : Option (List Int × Bool)} (hI : LimI win last T fz mv) (hn : last ≤ now) (hq : 0 ≤ q ∧ q < 4294967295) :
    ((fz = false ∧ manyT win now T < lim) → ∃ mv', settleB lim win 10 now none mv true (some ⟨0, 5, q, 11, false⟩) = (some (q + 1, false), mv', false) ∧ LimI win now (T ++ [now]) false mv' ∧ moveF mv' = false) ∧
    (¬ (fz = false ∧ manyT win now T < lim) → ∃ mv', settleB lim win 10 now none mv true (some ⟨0, 5, q, 11, false⟩) = (none, mv', true) ∧ (∀ T', T'.length = T.length → LimI win now T' true mv') ∧ moveF mv' = true) := by
  have h1 := clM_F win now mv
  have h2 := clM_len win now mv
  have hlen := hI.hln
  have hm : fz = false → ((moveL win now (clM win now mv)).length : Int) = manyT win now T ∧ moveL win now (clM win now mv) = T.filter (keepT (now - win)) := fun hf => by
    rw [moveL_eq, clM_times win now mv _ (Int.le_refl _), hI.htm hf _ (by omega)]
    exact ⟨rfl, rfl⟩
  have hc : contB none (⟨0, 5, q, 11, false⟩ : S27) = true := rfl
  have hnx : nextM 0 false 10 ⟨0, 5, q, 11, false⟩ = (q + 1, true) := nextM_u (by decide) hq
  unfold settleB
  dsimp only [rvR]
  unfold rule0
  rw [if_neg (by decide)]
  unfold rule1
  rw [hc, Bool.true_and, h1, hI.hfz]
  constructor
  · rintro ⟨hf, hl⟩
    obtain ⟨hm1, hm2⟩ := hm hf
    rw [if_neg (by rw [hf]; decide)]
    unfold rule2
    rw [hc, if_pos rfl]
    have ht : tooM lim win now (clM win now mv) = false := decide_eq_false (by omega)
    rw [ht, if_neg (by decide)]
    unfold rule3
    have e1 : nextM (seqO none) (none : Option (Int × Bool)).isSome 10 ⟨0, 5, q, 11, false⟩ = (q + 1, true) := hnx
    rw [e1]
    have hff : moveF (mv2 lim win now (clM win now mv)) = false := by
      unfold mv2
      rw [ht, h1, hI.hfz, hf]
      rfl
    refine ⟨_, rfl, ⟨hff, fun _ u hu => ?_, ?_⟩, hff⟩
    · unfold mv2 timesM
      dsimp only
      rw [hm2, List.filter_append, List.filter_append, keep_keep hu]
    · unfold mv2 lenM
      dsimp only
      rw [List.length_append, List.length_append, List.length_singleton]
      have := moveL_len win now (clM win now mv)
      omega
  · intro hn2
    cases fz with
    | true =>
      rw [if_pos rfl]
      have hff : moveF (clM win now mv) = true := by rw [h1, hI.hfz]
      exact ⟨_, rfl, fun T' hT => ⟨hff, fun g => (by cases g), by omega⟩, hff⟩
    | false =>
      obtain ⟨hm1, hm2⟩ := hm rfl
      have hl : ¬ manyT win now T < lim := fun g => hn2 ⟨rfl, g⟩
      rw [if_neg (by decide)]
      unfold rule2
      rw [hc, if_pos rfl]
      have ht : tooM lim win now (clM win now mv) = true := decide_eq_true (by omega)
      rw [ht, if_pos rfl]
      have hff : moveF (mv2 lim win now (clM win now mv)) = true := by
        unfold mv2
        rw [ht]
        exact Bool.or_true _
      refine ⟨_, rfl, fun T' hT => ⟨hff, fun g => (by cases g), ?_⟩, hff⟩
      unfold mv2 lenM
      dsimp only
      rw [List.length_append, List.length_singleton, hm2, hT]
      have := List.length_filter_le (keepT (now - win)) T
      omega
/-- The address is taken away again. -/
theorem lim_away {lim win now q : Int} {T : List Int} {mv : Option (List Int × Bool)} (hI : LimI win now T false mv) :
    ∃ mv', settleB lim win 10 now (some (q + 1, false)) mv true (some ⟨0, 5, q + 2, 11, false⟩) = (none, mv', true) ∧ LimI win now T false mv' := by
  have h1 := clM_F win now mv
  have h2 := clM_len win now mv
  have hlen := hI.hln
  have hnx : nextM (q + 1) true 10 ⟨0, 5, q + 2, 11, false⟩ = (0, false) := (nextM_k (by decide)).trans (if_neg (by omega))
  unfold settleB
  dsimp only [rvR]
  unfold rule0
  rw [if_neg (show ¬ clF (some (q + 1, false)) = true from Bool.false_ne_true)]
  unfold rule1
  have hc : contB (some (q + 1, false)) (⟨0, 5, q + 2, 11, false⟩ : S27) = false := rfl
  rw [hc, Bool.false_and, if_neg (by decide)]
  unfold rule2
  rw [hc, if_neg (by decide)]
  unfold rule3
  have e1 : nextM (seqO (some (q + 1, false))) (some (q + 1, false)).isSome 10 ⟨0, 5, q + 2, 11, false⟩ = (0, false) := hnx
  rw [e1]
  refine ⟨_, rfl, by rw [h1, hI.hfz], fun _ u hu => ?_, by omega⟩
  rw [clM_times win now mv u hu, hI.htm rfl u hu]
end Go.Proofs.Ytoimfchhmocgeaa.Abs

/- The contract of the statement MobilityLimits. -/
namespace Go.Proofs.Ytoimfchhmocgeaa.Abs
open Go
set_option linter.unusedVariables false
def enI (x : Int) : List Value := [.int .i64 x]
theorem enI_len (x : Int) : (enI x).length = 1 := rfl
theorem enI_one (x : Int) : (enI x).all Value.oneCell' = true := rfl
theorem wl_p {a b : Nat × AObj} {T G H : Hp} : (G ++ (a :: b :: (T ++ H))).Perm (a :: b :: (T ++ (G ++ H))) := (List.perm_append_comm_assoc G (a :: b :: T) H)
theorem wl_q {a b : Nat × AObj} {V T G H : Hp} : (V ++ (G ++ (a :: b :: (T ++ H)))).Perm (T ++ (G ++ (a :: b :: (V ++ H)))) := by
  have h1 : (V ++ (G ++ (a :: b :: (T ++ H)))).Perm ((G ++ [a, b]) ++ (V ++ (T ++ H))) := by
    have := List.perm_append_comm_assoc V (G ++ [a, b]) (T ++ H)
    simpa [List.append_assoc] using this
  have h2 : (T ++ (G ++ (a :: b :: (V ++ H)))).Perm ((G ++ [a, b]) ++ (T ++ (V ++ H))) := by
    have := List.perm_append_comm_assoc T (G ++ [a, b]) (V ++ H)
    simpa [List.append_assoc] using this
  exact h1.trans ((List.Perm.append_left _ (List.perm_append_comm_assoc V T H)).trans h2.symm)
section
variable {B0 : Nat} {old : Nat → Option (List Value)} {n : Nat} {H G : Hp} {Q : Value → Hp → Prop} {p : Nat} {lim win last : Int} {K : Kk} {cl : Option (Int × Bool)} {mv : Option (List Int × Bool)}
set_option maxRecDepth 10000
set_option maxHeartbeats 8000000
theorem known4_ct (hQ : Q (.bool true) H) : CallT (cx B0 old) (acall (cx B0 old) ansP (n + 1)) 4 [] H Q := call_ext rfl hQ
/-- The entry is given up. -/
theorem settles16_ct {mv' : Option (List Int × Bool)} {cl' : Option (Int × Bool)} {adr : Option Addr} {cr : Nat} (hB : BkI lim win K5 p last cl mv G) (hl : lenM mv ≤ 2000) (now : Int) (hck : chkT last now = 0) (hwn : 0 ≤ win ∧ win ≤ 100000) (q nx : Int)
    (hrv : Arr (cx B0 old) H adr 5 en27 [r5 q nx]) (hst : settleB lim win 10 now cl mv true (some (r5 q nx)) = (cl', mv', true)) (hQ : ∀ G', BkI lim win K5 p now cl' mv' G' → Q (.bool true) (G' ++ H)) :
    CallT (cx B0 old) (acall (cx B0 old) ansP (n + 9)) 16 [.pointer (some ⟨p, 0, none⟩), .slice adr 1 cr, .int .i64 now, .bool false] (G ++ H) Q := by
  refine call_in 34 rfl Try.func16 rfl rfl ?_
  repeat (first | refine Z0 ?_ | (refine ZR ?_; first | refine x1 ?_ | refine x2 ?_ | refine x8 ?_ | refine Z1 ?_ | refine Z2 ?_ | refine x3 fun _ => ?_ | refine x4 fun _ => ?_ | refine x5 fun _ => ?_ | refine Z3 fun _ => ?_ | refine Z4 fun _ => ?_) | refine ZC ?_)
  refine rt_step rfl rfl rfl (st_call rfl rfl rfl rfl (one23_ct fun b => ?_))
  repeat (first | refine Z0 ?_ | (refine ZR ?_; first | refine x1 ?_ | refine x2 ?_ | refine x8 ?_ | refine Z1 ?_ | refine Z2 ?_ | refine x3 fun _ => ?_ | refine x4 fun _ => ?_ | refine x5 fun _ => ?_ | refine Z3 fun _ => ?_ | refine Z4 fun _ => ?_) | refine ZC ?_)
  refine rt_step rfl rfl rfl (st_call rfl rfl rfl rfl (CallT.perm (settleW (n := n) (H := (b, .row (en59 n5) 6 false) :: H) hB hl 10 now hck hwn true n5 rfl (some (r5 q nx)) (fun r e => by cases e; rfl) ((arrW_one (a := n5) en59_len (List.Mem.head _)).arr en59_len) (hrv.weak (by exact drop_auto)) fun v Gv G' ho hB' => ?_) List.perm_middle))
  rw [hst] at ho hB'
  dsimp only at ho hB'
  obtain ⟨ad, c, e, ga⟩ := ho.arrW (C := cx B0 old) en59_len
  subst e
  repeat (first | refine Z0 ?_ | (refine ZR ?_; first | refine x1 ?_ | refine x2 ?_ | refine x8 ?_ | refine Z1 ?_ | refine Z2 ?_ | refine x3 fun _ => ?_ | refine x4 fun _ => ?_ | refine x5 fun _ => ?_ | refine Z3 fun _ => ?_ | refine Z4 fun _ => ?_) | refine ZC ?_)
  refine rt_step rfl rfl rfl (st_call rfl rfl rfl rfl (one23_ct fun b2 => ?_))
  repeat (first | refine Z0 ?_ | (refine ZR ?_; first | refine x1 ?_ | refine x2 ?_ | refine x8 ?_ | refine Z1 ?_ | refine Z2 ?_ | refine x3 fun _ => ?_ | refine x4 fun _ => ?_ | refine x5 fun _ => ?_ | refine Z3 fun _ => ?_ | refine Z4 fun _ => ?_) | refine ZC ?_)
  refine rt_step rfl rfl rfl (st_call rfl rfl rfl rfl (same38_ct (A := nearL n5 true) (((ga [] (G' ++ ((b, .row (en59 n5) 6 false) :: H))).arr en59_len).weak (by exact drop_auto)) ((arrW_one (a := n5) en59_len hm0).arr en59_len) (show 1 ≤ 100000 by decide) ?_))
  repeat (first | refine Z0 ?_ | (refine ZR ?_; first | refine x1 ?_ | refine x2 ?_ | refine x8 ?_ | refine Z1 ?_ | refine Z2 ?_ | refine x3 fun _ => ?_ | refine x4 fun _ => ?_ | refine x5 fun _ => ?_ | refine Z3 fun _ => ?_ | refine Z4 fun _ => ?_) | refine ZC ?_)
  exact re_1 rfl rfl (by exact drop_auto) (hQ G' hB')
theorem limits8_ct {ad : Option Addr} {c : Nat} {M : List Int} (hM : Arr (cx B0 old) H ad 1 enI M) (a b : Int) (hQ : ∀ H', Q (.bool true) H') :
    CallT (cx B0 old) (acall (cx B0 old) ansP (n + 2018)) 8 [.int .i64 a, .int .i64 b, .slice ad M.length c] H Q := by
  refine call_in3 125 rfl Try.func8 rfl rfl ?_
  repeat (first | refine Z0 ?_ | (refine ZR ?_; first | refine x1 ?_ | refine x2 ?_ | refine x8 ?_ | refine Z1 ?_ | refine Z2 ?_ | refine x3 fun _ => ?_ | refine x4 fun _ => ?_ | refine x5 fun _ => ?_ | refine Z3 fun _ => ?_ | refine Z4 fun _ => ?_) | refine ZC ?_)
  refine rt_step rfl rfl rfl (st_call rfl rfl rfl rfl (known4_ct ?_))
  repeat (first | refine Z0 ?_ | (refine ZR ?_; first | refine x1 ?_ | refine x2 ?_ | refine x8 ?_ | refine Z1 ?_ | refine Z2 ?_ | refine x3 fun _ => ?_ | refine x4 fun _ => ?_ | refine x5 fun _ => ?_ | refine Z3 fun _ => ?_ | refine Z4 fun _ => ?_) | refine ZC ?_)
  refine rt_step rfl rfl rfl (st_call rfl rfl rfl rfl (pick24_ct a 8 (by decide) (by decide) fun lim hl0 hl1 => ?_))
  repeat (first | refine Z0 ?_ | (refine ZR ?_; first | refine x1 ?_ | refine x2 ?_ | refine x8 ?_ | refine Z1 ?_ | refine Z2 ?_ | refine x3 fun _ => ?_ | refine x4 fun _ => ?_ | refine x5 fun _ => ?_ | refine Z3 fun _ => ?_ | refine Z4 fun _ => ?_) | refine ZC ?_)
  refine rt_step rfl rfl rfl (st_call rfl rfl rfl rfl (pick24_ct b 40 (by decide) (by decide) fun win hw0 hw1 => ?_))
  repeat (first | refine Z0 ?_ | (refine ZR ?_; first | refine x1 ?_ | refine x2 ?_ | refine x8 ?_ | refine Z1 ?_ | refine Z2 ?_ | refine x3 fun _ => ?_ | refine x4 fun _ => ?_ | refine x5 fun _ => ?_ | refine Z3 fun _ => ?_ | refine Z4 fun _ => ?_) | refine ZC ?_)
  refine rt_step rfl rfl rfl (st_call rfl rfl rfl rfl (newW (K := K5) (1 + lim) (1 + win) (by omega) (by omega) fun p G hB => ?_))
  repeat (first | refine Z0 ?_ | (refine ZR ?_; first | refine x1 ?_ | refine x2 ?_ | refine x8 ?_ | refine Z1 ?_ | refine Z2 ?_ | refine x3 fun _ => ?_ | refine x4 fun _ => ?_ | refine x5 fun _ => ?_ | refine Z3 fun _ => ?_ | refine Z4 fun _ => ?_) | refine ZC ?_)
  refine ct_condT te_d rfl (fun hc => ?_) (fun hc => ?_)
  · repeat (first | refine Z0 ?_ | (refine ZR ?_; first | refine x1 ?_ | refine x2 ?_ | refine x8 ?_ | refine Z1 ?_ | refine Z2 ?_ | refine x3 fun _ => ?_ | refine x4 fun _ => ?_ | refine x5 fun _ => ?_ | refine Z3 fun _ => ?_ | refine Z4 fun _ => ?_) | refine ZC ?_)
    exact re_1 rfl rfl (List.Sublist.refl _) (hQ _)
  repeat (first | refine Z0 ?_ | (refine ZR ?_; first | refine x1 ?_ | refine x2 ?_ | refine x8 ?_ | refine Z1 ?_ | refine Z2 ?_ | refine x3 fun _ => ?_ | refine x4 fun _ => ?_ | refine x5 fun _ => ?_ | refine Z3 fun _ => ?_ | refine Z4 fun _ => ?_) | refine ZC ?_)
  refine loop_ind (ι := Nat × Int × List Int × Bool × Option (List Int × Bool) × Hp × Value × Hp) (0, 0, [], false, none, G, .slice none 0 0, [])
    (fun j => M.length - j.1) (fun j => j.1 ≤ M.length ∧ 0 ≤ j.2.1 ∧ j.2.1 ≤ 50 * j.1 ∧ j.2.2.1.length ≤ j.1 ∧ LimI (1 + win) j.2.1 j.2.2.1 j.2.2.2.1 j.2.2.2.2.1 ∧ BkI (1 + lim) (1 + win) K5 p j.2.1 none j.2.2.2.2.1 j.2.2.2.2.2.1 ∧ Own enI 1 j.2.2.1 j.2.2.2.2.2.2.1 j.2.2.2.2.2.2.2)
    (fun j => [(13, .int .i64 (j.1 : Int)), (12, .bool j.2.2.2.1), (11, .int .i64 j.2.1), (10, j.2.2.2.2.2.2.1), (8, .pointer (some ⟨p, 0, none⟩)), (7, .bool true), (0, .int .i64 (1 + lim)), (1, .int .i64 (1 + win)), (2, .slice ad M.length c)])
    (fun j => j.2.2.2.2.2.2.2 ++ (j.2.2.2.2.2.1 ++ H)) ⟨Nat.zero_le _, Int.le_refl _, Int.le_refl _, Nat.le_refl _, LimI.nil _, hB, Own.nil⟩ (by repeat (first | exact SubL.nil | refine SubL.cons rfl ?_)) (List.Sublist.refl _) ?_
  clear hB
  rintro ⟨i, now, T, fz, mv, G, vT, GT⟩ ⟨hi, hn0, hn1, hT, hI, hB, oT⟩
  dsimp only at hi hn0 hn1 hT hI hB oT ⊢
  repeat (first | refine Z0 ?_ | (refine ZR ?_; first | refine x1 ?_ | refine x2 ?_ | refine x8 ?_ | refine Z1 ?_ | refine Z2 ?_ | refine x3 fun _ => ?_ | refine x4 fun _ => ?_ | refine x5 fun _ => ?_ | refine Z3 fun _ => ?_ | refine Z4 fun _ => ?_) | refine ZC ?_)
  refine ct_condT te_d rfl (fun hlt => ?_) (fun hlt => ?_)
  rotate_left
  · repeat (first | refine Z0 ?_ | (refine ZR ?_; first | refine x1 ?_ | refine x2 ?_ | refine x8 ?_ | refine Z1 ?_ | refine Z2 ?_ | refine x3 fun _ => ?_ | refine x4 fun _ => ?_ | refine x5 fun _ => ?_ | refine Z3 fun _ => ?_ | refine Z4 fun _ => ?_) | refine ZC ?_)
    exact re_1 rfl rfl (List.Sublist.refl _) (hQ _)
  obtain ⟨x, hx⟩ : ∃ x, M[i]? = some x := ⟨_, List.getElem?_eq_getElem (by omega)⟩
  obtain ⟨b1, o1, e1, hL0⟩ := hM.ld1 3 hx rfl rfl (sz rfl)
  subst e1
  repeat (first | refine Z0 ?_ | (refine ZR ?_; first | refine x1 ?_ | refine x2 ?_ | refine x8 ?_ | refine Z1 ?_ | refine Z2 ?_ | refine x3 fun _ => ?_ | refine x4 fun _ => ?_ | refine x5 fun _ => ?_ | refine Z3 fun _ => ?_ | refine Z4 fun _ => ?_) | refine ZC ?_)
  refine rt_step rfl rfl rfl (st_call rfl rfl rfl rfl (pick24_ct x 50 (by decide) (by decide) fun r hr0 hr1 => ?_))
  repeat (first | refine Z0 ?_ | (refine ZR ?_; first | refine x1 ?_ | refine x2 ?_ | refine x8 ?_ | refine Z1 ?_ | refine Z2 ?_ | refine x3 fun _ => ?_ | refine x4 fun _ => ?_ | refine x5 fun _ => ?_ | refine Z3 fun _ => ?_ | refine Z4 fun _ => ?_) | refine ZC ?_)
  have ew : IntKind.u32.wrap (2 * (i : Int)) = 2 * (i : Int) := IntWalk.u32_in _ (by omega)
  rw [ew]
  clear ew hL0
  obtain ⟨q, hq⟩ : ∃ q : Int, 2 * (i : Int) = q := ⟨_, rfl⟩
  obtain ⟨t, ht⟩ : ∃ t : Int, now + r = t := ⟨_, rfl⟩
  rw [hq, ht]
  refine rt_step rfl rfl rfl (st_call rfl rfl rfl rfl (one23_ct fun bn => ?_))
  repeat (first | refine Z0 ?_ | (refine ZR ?_; first | refine x1 ?_ | refine x2 ?_ | refine x8 ?_ | refine Z1 ?_ | refine Z2 ?_ | refine x3 fun _ => ?_ | refine x4 fun _ => ?_ | refine x5 fun _ => ?_ | refine Z3 fun _ => ?_ | refine Z4 fun _ => ?_) | refine ZC ?_)
  refine rt_step rfl rfl rfl (st_call rfl rfl rfl rfl (against17_ct q 11 fun br => ?_))
  repeat (first | refine Z0 ?_ | (refine ZR ?_; first | refine x1 ?_ | refine x2 ?_ | refine x8 ?_ | refine Z1 ?_ | refine Z2 ?_ | refine x3 fun _ => ?_ | refine x4 fun _ => ?_ | refine x5 fun _ => ?_ | refine Z3 fun _ => ?_ | refine Z4 fun _ => ?_) | refine ZC ?_)
  have hck : chkT now t = 0 := by
    unfold chkT
    rw [if_neg (by omega), if_neg (by omega)]
  have hlen := hI.hln
  refine rt_step rfl rfl rfl (st_call rfl rfl rfl rfl (CallT.perm (settleW (n := n + 2009) (H := (br, .row (en27 (r5 q 11)) 5 false) :: (bn, .row (en59 n5) 6 false) :: (GT ++ H)) hB (by omega) 10 t hck ⟨by omega, by omega⟩ true n5 rfl (some (r5 q 11)) (fun r e => by cases e; rfl) ((arrW_one (a := n5) en59_len (List.Mem.tail _ (List.Mem.head _))).arr en59_len) ((arrW_one (a := r5 q 11) en27_len (List.Mem.head _)).arr en27_len) fun v Gv G' ho hB' => ?_) wl_p))
  clear hB hck
  refine RunT.perm ?_ wl_q.symm
  obtain ⟨adT, cT, eT, gT⟩ := oT.arrW (C := cx B0 old) enI_len
  subst eT
  have hTa := (gT [] (G' ++ ((br, AObj.row (en27 (r5 q 11)) 5 false) :: (bn, AObj.row (en59 n5) 6 false) :: (Gv ++ H)))).arr enI_len
  clear gT
  obtain ⟨adv, cv, ev, _⟩ := ho.arrW (C := cx B0 old) en59_len
  subst ev
  have hst := lim_step (lim := 1 + lim) hI (now := t) (q := q) (by omega) (by omega)
  have hsi : settleB (1 + lim) (1 + win) 10 t none mv true (some (r5 q 11)) = settleB (1 + lim) (1 + win) 10 t none mv true (some ⟨0, 5, q, 11, false⟩) := rfl
  rw [hsi] at ho hB' ⊢
  generalize settleB (1 + lim) (1 + win) 10 t none mv true (some ⟨0, 5, q, 11, false⟩) = RS at *
  repeat (first | refine Z0 ?_ | (refine ZR ?_; first | refine x1 ?_ | refine x2 ?_ | refine x8 ?_ | refine Z1 ?_ | refine Z2 ?_ | refine x3 fun _ => ?_ | refine x4 fun _ => ?_ | refine x5 fun _ => ?_ | refine Z3 fun _ => ?_ | refine Z4 fun _ => ?_) | refine ZC ?_)
  refine loop_ind (ι := Nat) 0 (fun k => T.length - k) (fun k => k ≤ T.length)
    (fun k => [(18, .int .i64 (k : Int)), (17, .int .i64 (((T.take k).filter (keepT (t - (1 + win)))).length : Int)), (15, .slice adv (nearL n5 RS.2.2).length cv), (14, .int .u32 q), (13, .int .i64 (i : Int)), (12, .bool fz), (11, .int .i64 t), (10, .slice adT T.length cT), (8, .pointer (some ⟨p, 0, none⟩)), (7, .bool true), (0, .int .i64 (1 + lim)), (1, .int .i64 (1 + win)), (2, .slice (some ⟨b1, o1, none⟩) M.length c)])
    (fun _ => GT ++ (G' ++ ((br, AObj.row (en27 (r5 q 11)) 5 false) :: (bn, AObj.row (en59 n5) 6 false) :: (Gv ++ H)))) (Nat.zero_le _) (by repeat (first | exact SubL.nil | refine SubL.cons rfl ?_)) (List.Sublist.refl _) ?_
  intro k hk
  repeat (first | refine Z0 ?_ | (refine ZR ?_; first | refine x1 ?_ | refine x2 ?_ | refine x8 ?_ | refine Z1 ?_ | refine Z2 ?_ | refine x3 fun _ => ?_ | refine x4 fun _ => ?_ | refine x5 fun _ => ?_ | refine Z3 fun _ => ?_ | refine Z4 fun _ => ?_) | refine ZC ?_)
  refine ct_condT te_d rfl (fun hkl => ?_) (fun hkl => ?_)
  · obtain ⟨y, hy⟩ : ∃ y, T[k]? = some y := ⟨_, List.getElem?_eq_getElem (by omega)⟩
    have htk : T.take (k + 1) = T.take k ++ [y] := by rw [List.take_add_one, hy]; rfl
    have hfl : ((T.take k).filter (keepT (t - (1 + win)))).length ≤ T.length := Nat.le_trans (List.length_filter_le _ _) (by rw [List.length_take]; omega)
    obtain ⟨b2, o2, e2, hL0⟩ := hTa.ld1 3 hy rfl rfl (sz rfl)
    subst e2
    repeat (first | refine Z0 ?_ | (refine ZR ?_; first | refine x1 ?_ | refine x2 ?_ | refine x8 ?_ | refine Z1 ?_ | refine Z2 ?_ | refine x3 fun _ => ?_ | refine x4 fun _ => ?_ | refine x5 fun _ => ?_ | refine Z3 fun _ => ?_ | refine Z4 fun _ => ?_) | refine ZC ?_)
    refine ct_condT te_d rfl (fun hy1 => ?_) (fun hy1 => ?_)
    · repeat (first | refine Z0 ?_ | (refine ZR ?_; first | refine x1 ?_ | refine x2 ?_ | refine x8 ?_ | refine Z1 ?_ | refine Z2 ?_ | refine x3 fun _ => ?_ | refine x4 fun _ => ?_ | refine x5 fun _ => ?_ | refine Z3 fun _ => ?_ | refine Z4 fun _ => ?_) | refine ZC ?_)
      refine ⟨k + 1, by omega, by omega, .cons rfl (.cons ?_ (by repeat (first | exact SubL.nil | refine SubL.cons rfl ?_))), List.Sublist.refl _⟩
      rw [htk, List.filter_append, List.length_append]
      have : [y].filter (keepT (t - (1 + win))) = [y] := by unfold keepT; simp; omega
      rw [this]
      rfl
    · repeat (first | refine Z0 ?_ | (refine ZR ?_; first | refine x1 ?_ | refine x2 ?_ | refine x8 ?_ | refine Z1 ?_ | refine Z2 ?_ | refine x3 fun _ => ?_ | refine x4 fun _ => ?_ | refine x5 fun _ => ?_ | refine Z3 fun _ => ?_ | refine Z4 fun _ => ?_) | refine ZC ?_)
      refine ⟨k + 1, by omega, by omega, .cons rfl (.cons ?_ (by repeat (first | exact SubL.nil | refine SubL.cons rfl ?_))), List.Sublist.refl _⟩
      rw [htk, List.filter_append, List.length_append]
      have : [y].filter (keepT (t - (1 + win))) = [] := by unfold keepT; simp; omega
      rw [this]
      rfl
  obtain rfl : k = T.length := by omega
  rw [List.take_length]
  rw [show (((T.filter (keepT (t - (1 + win)))).length : Nat) : Int) = manyT (1 + win) t T from rfl]
  by_cases hacc : fz = false ∧ manyT (1 + win) t T < 1 + lim
  · obtain ⟨mv', e, hI', hF⟩ := hst.1 hacc
    obtain ⟨hfz, hmany⟩ := hacc
    subst hfz
    subst e
    dsimp only [nearL, List.length_nil] at ho hB' ⊢
    repeat (first | refine Z0 ?_ | (refine ZR ?_; first | refine x1 ?_ | refine x2 ?_ | refine x8 ?_ | refine Z1 ?_ | refine Z2 ?_ | refine x3 fun _ => ?_ | refine x4 fun _ => ?_ | refine x5 fun _ => ?_ | refine Z3 fun _ => ?_ | refine Z4 fun _ => ?_) | refine ZC ?_)
    rw [decide_eq_true hmany, show (((0 : Nat) : Int) == 0) = true from rfl]
    repeat (first | refine Z0 ?_ | (refine ZR ?_; first | refine x1 ?_ | refine x2 ?_ | refine x8 ?_ | refine Z1 ?_ | refine Z2 ?_ | refine x3 fun _ => ?_ | refine x4 fun _ => ?_ | refine x5 fun _ => ?_ | refine Z3 fun _ => ?_ | refine Z4 fun _ => ?_) | refine ZC ?_)
    have hfz := fun {H' : Hp} {Q' : Value → Hp → Prop} => frozenW (B0 := B0) (old := old) (n := n + 2015) (H := H') (Q := Q') hB'
    rw [hF] at hfz
    refine rt_step rfl rfl rfl (st_call rfl rfl rfl rfl (CallT.perm (hfz ?_) (List.perm_append_comm_assoc _ _ _)))
    clear hfz
    refine RunT.perm ?_ (List.perm_append_comm_assoc _ _ _)
    repeat (first | refine Z0 ?_ | (refine ZR ?_; first | refine x1 ?_ | refine x2 ?_ | refine x8 ?_ | refine Z1 ?_ | refine Z2 ?_ | refine x3 fun _ => ?_ | refine x4 fun _ => ?_ | refine x5 fun _ => ?_ | refine Z3 fun _ => ?_ | refine Z4 fun _ => ?_) | refine ZC ?_)
    refine rt_step rfl rfl rfl (st_appP (M := [t]) (c := 1) (pre := [_]) oT enI_len enI_one rfl rfl (ap rfl) (arrW_one (a := t) enI_len hm0) (Nat.le_trans (Nat.mul_le_mul_right _ (show 2 * (T.length + [t].length) + 192 ≤ 6000 by simp only [List.length_singleton]; omega)) (by decide)) fun v2 G2 o2 => ?_)
    obtain ⟨ad2, c2, e2, _⟩ := o2.arrW (C := cx B0 old) enI_len
    subst e2
    repeat (first | refine Z0 ?_ | (refine ZR ?_; first | refine x1 ?_ | refine x2 ?_ | refine x8 ?_ | refine Z1 ?_ | refine Z2 ?_ | refine x3 fun _ => ?_ | refine x4 fun _ => ?_ | refine x5 fun _ => ?_ | refine Z3 fun _ => ?_ | refine Z4 fun _ => ?_) | refine ZC ?_)
    have ew : IntKind.u32.wrap (q + 1) = q + 1 := IntWalk.u32_in _ (by omega)
    rw [ew]
    clear ew
    rename_i bs _
    refine rt_step rfl rfl rfl (st_call rfl rfl rfl rfl (CallT.perm (claims19_ct (n := n) (H := (bs, .row [.int .i64 t] 1 false) :: (G2 ++ ((br, .row (en27 (r5 q 11)) 5 false) :: (bn, .row (en59 n5) 6 false) :: (Gv ++ H)))) hB' ?_) (List.perm_append_comm_assoc G' (_ :: G2) _)))
    refine RunT.perm ?_ (List.perm_append_comm_assoc (_ :: G2) G' _)
    repeat (first | refine Z0 ?_ | (refine ZR ?_; first | refine x1 ?_ | refine x2 ?_ | refine x8 ?_ | refine Z1 ?_ | refine Z2 ?_ | refine x3 fun _ => ?_ | refine x4 fun _ => ?_ | refine x5 fun _ => ?_ | refine Z3 fun _ => ?_ | refine Z4 fun _ => ?_) | refine ZC ?_)
    have ew : IntKind.u32.wrap (q + 2) = q + 2 := IntWalk.u32_in _ (by omega)
    rw [ew]
    clear ew
    refine rt_step rfl rfl rfl (st_call rfl rfl rfl rfl (against17_ct (q + 2) 11 fun ba => ?_))
    repeat (first | refine Z0 ?_ | (refine ZR ?_; first | refine x1 ?_ | refine x2 ?_ | refine x8 ?_ | refine Z1 ?_ | refine Z2 ?_ | refine x3 fun _ => ?_ | refine x4 fun _ => ?_ | refine x5 fun _ => ?_ | refine Z3 fun _ => ?_ | refine Z4 fun _ => ?_) | refine ZC ?_)
    obtain ⟨mv3, e3, hI3⟩ := lim_away (lim := 1 + lim) (q := q) hI'
    have hln' := hI'.hln
    rw [List.length_append, List.length_singleton] at hln'
    refine rt_step rfl rfl rfl (st_call rfl rfl rfl rfl (CallT.perm (settles16_ct (n := n + 2008) (H := (ba, .row (en27 (r5 (q + 2) 11)) 5 false) :: (bs, .row [.int .i64 t] 1 false) :: (G2 ++ ((br, .row (en27 (r5 q 11)) 5 false) :: (bn, .row (en59 n5) 6 false) :: (Gv ++ H)))) hB' (by omega) t (by unfold chkT; rw [if_neg (by omega), if_neg (by omega)]) ⟨by omega, by omega⟩ (q + 2) 11 ((arrW_one (a := r5 (q + 2) 11) en27_len (List.Mem.head _)).arr en27_len) e3 fun G3 hB3 => ?_) (List.perm_append_comm_assoc G' (_ :: _ :: G2) _)))
    refine RunT.perm ?_ (List.perm_append_comm_assoc (_ :: _ :: G2) G3 _)
    repeat (first | refine Z0 ?_ | (refine ZR ?_; first | refine x1 ?_ | refine x2 ?_ | refine x8 ?_ | refine Z1 ?_ | refine Z2 ?_ | refine x3 fun _ => ?_ | refine x4 fun _ => ?_ | refine x5 fun _ => ?_ | refine Z3 fun _ => ?_ | refine Z4 fun _ => ?_) | refine ZC ?_)
    exact ⟨(i + 1, t, T ++ [t], false, mv3, G3, _, G2), ⟨by dsimp only; omega, by dsimp only; omega, by dsimp only; omega, by dsimp only; rw [List.length_append, List.length_singleton]; omega, hI3, hB3, o2⟩, by dsimp only; omega, by repeat (first | exact SubL.nil | refine SubL.cons rfl ?_), by exact drop_auto⟩
  · obtain ⟨mv', e, hI', hF⟩ := hst.2 hacc
    subst e
    have hI2 := hI' T rfl
    dsimp only [nearL, List.length_cons, List.length_nil] at ho hB' ⊢
    have hfz := fun {H' : Hp} {Q' : Value → Hp → Prop} => frozenW (B0 := B0) (old := old) (n := n + 2015) (H := H') (Q := Q') hB'
    rw [hF] at hfz
    have hcnd : fz = true ∨ (fz = false ∧ ¬ manyT (1 + win) t T < 1 + lim) := by
      cases fz with
      | true => exact .inl rfl
      | false => exact .inr ⟨rfl, fun g => hacc ⟨rfl, g⟩⟩
    rcases hcnd with rfl | ⟨rfl, hm⟩
    · repeat (first | refine Z0 ?_ | (refine ZR ?_; first | refine x1 ?_ | refine x2 ?_ | refine x8 ?_ | refine Z1 ?_ | refine Z2 ?_ | refine x3 fun _ => ?_ | refine x4 fun _ => ?_ | refine x5 fun _ => ?_ | refine Z3 fun _ => ?_ | refine Z4 fun _ => ?_) | refine ZC ?_)
      refine rt_step rfl rfl rfl (st_call rfl rfl rfl rfl (CallT.perm (hfz ?_) (List.perm_append_comm_assoc _ _ _)))
      clear hfz
      refine RunT.perm ?_ (List.perm_append_comm_assoc _ _ _)
      repeat (first | refine Z0 ?_ | (refine ZR ?_; first | refine x1 ?_ | refine x2 ?_ | refine x8 ?_ | refine Z1 ?_ | refine Z2 ?_ | refine x3 fun _ => ?_ | refine x4 fun _ => ?_ | refine x5 fun _ => ?_ | refine Z3 fun _ => ?_ | refine Z4 fun _ => ?_) | refine ZC ?_)
      exact ⟨(i + 1, t, T, true, mv', G', _, GT), ⟨by dsimp only; omega, by dsimp only; omega, by dsimp only; omega, by dsimp only; omega, hI2, hB', oT⟩, by dsimp only; omega, by repeat (first | exact SubL.nil | refine SubL.cons rfl ?_), by exact drop_auto⟩
    · repeat (first | refine Z0 ?_ | (refine ZR ?_; first | refine x1 ?_ | refine x2 ?_ | refine x8 ?_ | refine Z1 ?_ | refine Z2 ?_ | refine x3 fun _ => ?_ | refine x4 fun _ => ?_ | refine x5 fun _ => ?_ | refine Z3 fun _ => ?_ | refine Z4 fun _ => ?_) | refine ZC ?_)
      rw [show decide (manyT (1 + win) t T < 1 + lim) = false from decide_eq_false hm]
      repeat (first | refine Z0 ?_ | (refine ZR ?_; first | refine x1 ?_ | refine x2 ?_ | refine x8 ?_ | refine Z1 ?_ | refine Z2 ?_ | refine x3 fun _ => ?_ | refine x4 fun _ => ?_ | refine x5 fun _ => ?_ | refine Z3 fun _ => ?_ | refine Z4 fun _ => ?_) | refine ZC ?_)
      refine rt_step rfl rfl rfl (st_call rfl rfl rfl rfl (CallT.perm (hfz ?_) (List.perm_append_comm_assoc _ _ _)))
      clear hfz
      refine RunT.perm ?_ (List.perm_append_comm_assoc _ _ _)
      repeat (first | refine Z0 ?_ | (refine ZR ?_; first | refine x1 ?_ | refine x2 ?_ | refine x8 ?_ | refine Z1 ?_ | refine Z2 ?_ | refine x3 fun _ => ?_ | refine x4 fun _ => ?_ | refine x5 fun _ => ?_ | refine Z3 fun _ => ?_ | refine Z4 fun _ => ?_) | refine ZC ?_)
      exact ⟨(i + 1, t, T, true, mv', G', _, GT), ⟨by dsimp only; omega, by dsimp only; omega, by dsimp only; omega, by dsimp only; omega, hI2, hB', oT⟩, by dsimp only; omega, by repeat (first | exact SubL.nil | refine SubL.cons rfl ?_), by exact drop_auto⟩
end
end Go.Proofs.Ytoimfchhmocgeaa.Abs

/- Readings of arguments for the statements of chapter 24. -/
namespace Go.Proofs.Ytoimfchhmocgeaa.Abs
open Go Go.RowKit
set_option linter.unusedVariables false
set_option maxRecDepth 100000
set_option maxHeartbeats 2000000
theorem lv3 : leaves Try.prog 10 3 = some [3] := by kernel_rfl
section
variable {H : Type} {enc : TypeId × Value → H} {w : World} {base : Nat} {spare : Nat → Bool} {held : Bool}
theorem i64_read {hs fuel : Nat} {cs : List Value} {x : DataW H × List MemPlace} (h : DataW.trod enc Try.prog w base spare held fuel 3 cs = some x) : cs.length = 1 ∧ ∃ p : Int, cs.map (normV hs) = enI p ∧ (-9223372036854775808 ≤ p ∧ p ≤ 9223372036854775807) := by
  have hh := leaves_ok 10 3 _ lv3 _ _ _ h
  refine ⟨hh.1, ?_⟩
  obtain ⟨v0, cs0, rfl, l0, h0⟩ := LeafOk.next hh
  obtain rfl := LeafOk.done h0
  obtain ⟨n0, rfl, w0⟩ := leaf_int (k := .i64) Try.underlying3 l0
  exact ⟨n0, rfl, wf_i64 w0⟩
end
end Go.Proofs.Ytoimfchhmocgeaa.Abs
