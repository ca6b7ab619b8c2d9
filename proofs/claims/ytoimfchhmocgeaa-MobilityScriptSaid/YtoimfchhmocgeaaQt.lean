/- The book in general: Settle. -/
import Derived.Test.YtoimfchhmocgeaaQg
import Derived.Test.YtoimfchhmocgeaaQp
namespace Go.Proofs.Ytoimfchhmocgeaa.Abs
open Go
set_option linter.unusedVariables false
def rvOf (B : List S27) (k : Kk) : S27 := match B.find? fun r => decide (kR r = k) with
  | some r => r
  | none => stR0
/-- What the rules make of an address. -/
def resK (lim win self now : Int) (cl : Kk → Option (Int × Bool)) (mv : Kk → Option (List Int × Bool)) (B : List S27) (k : Kk) : BkS := rule0 lim win self now (cl k) (clM win now (mv k)) (rvOf B k)
theorem updF_upd {α : Type} (s : Kk → Option α) (k : Kk) (a b : Option α) : updF (updF s k a) k b = updF s k b := funext fun j => by
  unfold updF
  split <;> rfl
theorem updF_self {α : Type} (s : Kk → Option α) (k : Kk) : updF s k (s k) = s := funext fun j => by
  unfold updF
  split
  · rename_i h; rw [h]
  · rfl
theorem srt_not {ks : List Kk} {i : Nat} {k : Kk} (h : SrtR ks) (hk : ks[i]? = some k) : k ∉ ks.take i := fun hm => by
  obtain ⟨j, hj⟩ := List.mem_iff_getElem?.1 hm
  have hjl := (List.getElem?_eq_some_iff.1 hj).1
  rw [List.length_take] at hjl
  rw [List.getElem?_take_of_lt (by omega)] at hj
  have hil := (List.getElem?_eq_some_iff.1 hk).1
  have := List.pairwise_iff_getElem.1 h j i (by rw [List.length_map]; omega) (by rw [List.length_map]; omega) (by omega)
  rw [List.getElem_map, List.getElem_map] at this
  obtain ⟨_, e1⟩ := List.getElem?_eq_some_iff.1 hj
  obtain ⟨_, e2⟩ := List.getElem?_eq_some_iff.1 hk
  rw [e1, e2] at this
  omega
theorem find_take {B : List S27} {i : Nat} {r : S27} (h : SrtR (B.map kR)) (hr : B[i]? = some r) (k : Kk) : (B.take (i + 1)).find? (fun r => decide (kR r = k)) = if k = kR r then some r else (B.take i).find? fun r => decide (kR r = k) := by
  have htk : B.take (i + 1) = B.take i ++ [r] := by rw [List.take_add_one, hr]; rfl
  rw [htk, List.find?_append]
  by_cases hk : k = kR r
  · rw [if_pos hk]
    have hno : (B.take i).find? (fun r => decide (kR r = k)) = none := by
      rw [List.find?_eq_none]
      intro x hx he
      have he := of_decide_eq_true he
      have hn := srt_not (k := kR r) h (by rw [List.getElem?_map, hr]; rfl)
      rw [← List.map_take] at hn
      exact hn (by rw [← hk, ← he]; exact List.mem_map_of_mem hx)
    rw [hno, List.find?_cons_of_pos (by simp [hk])]
    rfl
  · rw [if_neg hk, List.find?_cons_of_neg (by simpa using fun e => hk e.symm)]
    simp
theorem gb_f {a b c x y : Nat × AObj} {C M H : Hp} : (a :: b :: c :: (C ++ (M ++ (x :: y :: H)))).Perm (x :: y :: a :: b :: c :: (C ++ (M ++ H))) := mvF (A := [a, b, c]) (D := [x, y])
theorem gb_g {s a b c x t : Nat × AObj} {C M V Y : Hp} : (s :: (V ++ (a :: b :: c :: (C ++ (M ++ (x :: t :: Y)))))).Perm (s :: a :: b :: c :: (C ++ (M ++ (x :: t :: (V ++ Y))))) := by
  have := List.perm_append_comm_assoc V ([a, b, c] ++ (C ++ (M ++ [x, t]))) Y
  refine List.Perm.cons s ?_
  simpa [List.append_assoc] using this
theorem gb_h {a b c : Nat × AObj} {C M V Y : Hp} : (V ++ (a :: b :: c :: (C ++ (M ++ Y)))).Perm (a :: b :: c :: (C ++ (M ++ (V ++ Y)))) := by
  have := List.perm_append_comm_assoc V ([a, b, c] ++ (C ++ M)) Y
  simpa [List.append_assoc] using this
section
variable {B0 : Nat} {old : Nat → Option (List Value)} {n : Nat} {H CG MG : Hp} {Q : Value → Hp → Prop} {p cb mb cc mc : Nat} {lim win last : Int} {cs ms : List (Kk × Nat × Nat)} {cl : Kk → Option (Int × Bool)} {mv : Kk → Option (List Int × Bool)}
set_option maxRecDepth 10000
set_option maxHeartbeats 32000000
theorem ClG.lookV (h : ClG cl cs cc CG) (K : Kk) : ∃ b0, (∀ q, cl K = some q → lkH cs K = some b0) ∧ lookE (cx B0 old) 82 (mkH ekM evP cs) (ekM K) false = some (clV (cl K) b0) := by
  have hlk := lookE_K (C := cx B0 old) (ev := evP) keyMapC cs K false
  cases hk : cl K with
  | none =>
    rw [h.lk_none hk] at hlk
    exact ⟨0, fun q e => (by cases e), hlk⟩
  | some q =>
    obtain ⟨b, Ga, R0, e, _⟩ := h.look hk
    rw [e] at hlk
    exact ⟨b, fun q e => (by assumption), hlk⟩
theorem rvLookG {hs : List (Kk × S27 × Nat)} {B : List S27} (h : ∀ k, lkH hs k = B.find? fun r => decide (kR r = k)) (K : Kk) : lookE (cx B0 old) 104 (mkH ekM evR hs) (ekM K) false = some (.agg ⟨en27 (rvOf B K)⟩) := by
  refine (lookE_K (C := cx B0 old) (ev := evR) keyMapR hs K false).trans ?_
  rw [h K]
  unfold rvOf
  cases B.find? (fun r => decide (kR r = K)) <;> rfl
theorem settle21G_ct (hC : ClG cl cs cc CG) (hM : MvG mv ms mc MG) (hl : ∀ k, lenM (mv k) ≤ 2000) (self now : Int) (hck : chkT last now = 0) (hwn : 0 ≤ win ∧ win ≤ 100000) {A : List N59} {B : List S27} (hA1 : A.length ≤ 1000) (hB1 : B.length ≤ 1000)
    (hwA : ∀ x ∈ A, okK (kN x)) (hwB : ∀ x ∈ B, okK (kR x)) {adn adr : Option Addr} {cn cr : Nat} (hn : Arr (cx B0 old) H adn 6 en59 A) (hrv : Arr (cx B0 old) H adr 5 en27 B)
    (hbad : ¬ (SrtR (A.map kN) ∧ SrtR (B.map kR)) → Q (.tuple #[.slice none 0 0, .int .i64 10]) ((p, AObj.row [.int .i64 lim, .int .i64 win, .int .i64 last, .map (some cb), .map (some mb)] 5 false) :: (cb, AObj.map (mkH ekM evP cs) cc) :: (mb, AObj.map (mkH ekM evP ms) mc) :: (CG ++ (MG ++ H))))
    (hQ : SrtR (A.map kN) → SrtR (B.map kR) → ∀ v G cs' cc' CG' ms' mc' MG', Own en59 6 (A.filter fun x => (resK lim win self now cl mv B (kN x)).2.2) v G →
      ClG (fun k => if k ∈ A.map kN then (resK lim win self now cl mv B k).1 else none) cs' cc' CG' → MvG (fun k => if k ∈ A.map kN then (resK lim win self now cl mv B k).2.1 else clM win now (mv k)) ms' mc' MG' →
      Q (.tuple #[v, .int .i64 0]) (G ++ ((p, AObj.row [.int .i64 lim, .int .i64 win, .int .i64 now, .map (some cb), .map (some mb)] 5 false) :: (cb, AObj.map (mkH ekM evP cs') cc') :: (mb, AObj.map (mkH ekM evP ms') mc') :: (CG' ++ (MG' ++ H))))) :
    CallT (cx B0 old) (acall (cx B0 old) ansP (n + 8)) 21 [.pointer (some ⟨p, 0, none⟩), .int .u32 self, .slice adn A.length cn, .slice adr B.length cr, .int .i64 now] ((p, AObj.row [.int .i64 lim, .int .i64 win, .int .i64 last, .map (some cb), .map (some mb)] 5 false) :: (cb, AObj.map (mkH ekM evP cs) cc) :: (mb, AObj.map (mkH ekM evP ms) mc) :: (CG ++ (MG ++ H))) Q := by
  have hnow : 0 ≤ now ∧ now ≤ 1099511627776 := by
    unfold chkT at hck
    by_cases h : now < 0 ∨ now > 1099511627776
    · rw [if_pos h] at hck; cases hck
    · omega
  refine call_in 122 rfl Try.func21 rfl rfl ?_
  repeat (first | refine Z0 ?_ | (refine ZR ?_; first | refine x1 ?_ | refine x2 ?_ | refine x8 ?_ | refine Z1 ?_ | refine Z2 ?_ | refine x3 fun _ => ?_ | refine x4 fun _ => ?_ | refine x5 fun _ => ?_ | refine Z3 fun _ => ?_ | refine Z4 fun _ => ?_) | refine ZC ?_)
  refine rt_step rfl rfl rfl (st_call rfl rfl rfl rfl (check43_ct now ?_))
  rw [hck]
  repeat (first | refine Z0 ?_ | (refine ZR ?_; first | refine x1 ?_ | refine x2 ?_ | refine x8 ?_ | refine Z1 ?_ | refine Z2 ?_ | refine x3 fun _ => ?_ | refine x4 fun _ => ?_ | refine x5 fun _ => ?_ | refine Z3 fun _ => ?_ | refine Z4 fun _ => ?_) | refine ZC ?_)
  refine rt_step rfl rfl rfl (st_call rfl rfl rfl rfl (keys47G_ct (n := n + 3) (hn.weak (by exact drop_auto)) hA1 hwA (fun hb => ?_) (fun hsA v G1 o1 => ?_)))
  · repeat (first | refine Z0 ?_ | (refine ZR ?_; first | refine x1 ?_ | refine x2 ?_ | refine x8 ?_ | refine Z1 ?_ | refine Z2 ?_ | refine x3 fun _ => ?_ | refine x4 fun _ => ?_ | refine x5 fun _ => ?_ | refine Z3 fun _ => ?_ | refine Z4 fun _ => ?_) | refine ZC ?_)
    refine rt_step rfl rfl rfl (st_call rfl rfl rfl rfl (keys49G_ct (n := n + 3) (hrv.weak (by exact drop_auto)) hB1 hwB (fun hb2 => ?_) (fun hsB v G2 o2 => ?_)))
    · repeat (first | refine Z0 ?_ | (refine ZR ?_; first | refine x1 ?_ | refine x2 ?_ | refine x8 ?_ | refine Z1 ?_ | refine Z2 ?_ | refine x3 fun _ => ?_ | refine x4 fun _ => ?_ | refine x5 fun _ => ?_ | refine Z3 fun _ => ?_ | refine Z4 fun _ => ?_) | refine ZC ?_)
      exact re_2 rfl rfl rfl (by exact drop_auto) (hbad fun h => hb h.1)
    · obtain ⟨ad2, c2, e2, _⟩ := o2.arrW (C := cx B0 old) enK_len
      subst e2
      repeat (first | refine Z0 ?_ | (refine ZR ?_; first | refine x1 ?_ | refine x2 ?_ | refine x8 ?_ | refine Z1 ?_ | refine Z2 ?_ | refine x3 fun _ => ?_ | refine x4 fun _ => ?_ | refine x5 fun _ => ?_ | refine Z3 fun _ => ?_ | refine Z4 fun _ => ?_) | refine ZC ?_)
      exact re_2 rfl rfl rfl (by exact drop_auto) (hbad fun h => hb h.1)
  obtain ⟨ks, hks⟩ : ∃ ks, A.map kN = ks := ⟨_, rfl⟩
  have hkl : ks.length = A.length := by rw [← hks, List.length_map]
  rw [hks] at o1 hsA hbad hQ
  obtain ⟨ad1, c1, e1, ga1⟩ := o1.arrW (C := cx B0 old) enK_len
  subst e1
  repeat (first | refine Z0 ?_ | (refine ZR ?_; first | refine x1 ?_ | refine x2 ?_ | refine x8 ?_ | refine Z1 ?_ | refine Z2 ?_ | refine x3 fun _ => ?_ | refine x4 fun _ => ?_ | refine x5 fun _ => ?_ | refine Z3 fun _ => ?_ | refine Z4 fun _ => ?_) | refine ZC ?_)
  refine rt_step rfl rfl rfl (st_call rfl rfl rfl rfl (keys49G_ct (n := n + 3) (hrv.weak (by exact drop_auto)) hB1 hwB (fun hb2 => ?_) (fun hsB v G2 o2 => ?_)))
  · repeat (first | refine Z0 ?_ | (refine ZR ?_; first | refine x1 ?_ | refine x2 ?_ | refine x8 ?_ | refine Z1 ?_ | refine Z2 ?_ | refine x3 fun _ => ?_ | refine x4 fun _ => ?_ | refine x5 fun _ => ?_ | refine Z3 fun _ => ?_ | refine Z4 fun _ => ?_) | refine ZC ?_)
    exact re_2 rfl rfl rfl (by exact drop_auto) (hbad fun h => hb2 h.2)
  clear hbad
  obtain ⟨ad2, c2, e2, ga2⟩ := o2.arrW (C := cx B0 old) enK_len
  subst e2
  refine RunT.perm ?_ mvG
  repeat (first | refine Z0 ?_ | (refine ZR ?_; first | refine x1 ?_ | refine x2 ?_ | refine x8 ?_ | refine Z1 ?_ | refine Z2 ?_ | refine x3 fun _ => ?_ | refine x4 fun _ => ?_ | refine x5 fun _ => ?_ | refine Z3 fun _ => ?_ | refine Z4 fun _ => ?_) | refine ZC ?_)
  refine rt_step rfl rfl rfl (st_call rfl rfl rfl rfl (clean51G_ct (n := n + 2) hC hM hl ks (by omega) ((ga1 G2 H).arr enK_len) now hnow hwn fun w cs1 cc1 CG1 ms1 mc1 MG1 hC1 hM1 => ?_))
  clear hC hM
  repeat (first | refine Z0 ?_ | (refine ZR ?_; first | refine x1 ?_ | refine x2 ?_ | refine x8 ?_ | refine Z1 ?_ | refine Z2 ?_ | refine x3 fun _ => ?_ | refine x4 fun _ => ?_ | refine x5 fun _ => ?_ | refine Z3 fun _ => ?_ | refine Z4 fun _ => ?_) | refine ZC ?_)
  rename_i rb
  refine ct_midB (ι := List (Kk × S27 × Nat) × Nat) (fun t => Uq t.1 ∧ ∀ k, lkH t.1 k = B.find? fun r => decide (kR r = k)) (fun _ => [(17, .map (some rb)), (13, .slice ad1 ks.length c1), (4, .int .i64 now), (2, .slice adn A.length cn), (1, .int .u32 self), (0, .pointer (some ⟨p, 0, none⟩))]) (fun t => (rb, AObj.map (mkH ekM evR t.1) t.2) :: ((p, AObj.row [.int .i64 lim, .int .i64 win, .int .i64 now, .map (some cb), .map (some mb)] 5 false) :: (cb, AObj.map (mkH ekM evP cs1) cc1) :: (mb, AObj.map (mkH ekM evP ms1) mc1) :: (CG1 ++ (MG1 ++ (G2 ++ (G1 ++ H)))))) ?_ ?_
  · have hml : (B.map kR).length = B.length := List.length_map ..
    refine loop_ind (ι := Nat × List (Kk × S27 × Nat) × Nat) (0, [], 0) (fun i => B.length - i.1) (fun i => i.1 ≤ B.length ∧ Uq i.2.1 ∧ ∀ k, lkH i.2.1 k = (B.take i.1).find? fun r => decide (kR r = k))
      (fun i => [(64, .int .i64 (i.1 : Int)), (63, .int .i64 ((B.map kR).length : Int)), (62, .slice ad2 (B.map kR).length c2), (17, .map (some rb)), (13, .slice ad1 ks.length c1), (4, .int .i64 now), (3, .slice adr B.length cr), (2, .slice adn A.length cn), (1, .int .u32 self), (0, .pointer (some ⟨p, 0, none⟩))])
      (fun i => (rb, AObj.map (mkH ekM evR i.2.1) i.2.2) :: ((p, AObj.row [.int .i64 lim, .int .i64 win, .int .i64 now, .map (some cb), .map (some mb)] 5 false) :: (cb, AObj.map (mkH ekM evP cs1) cc1) :: (mb, AObj.map (mkH ekM evP ms1) mc1) :: (CG1 ++ (MG1 ++ (G2 ++ (G1 ++ H)))))) ⟨Nat.zero_le _, List.nodup_nil, fun k => rfl⟩ (by repeat (first | exact SubL.nil | refine SubL.cons rfl ?_)) (List.Sublist.refl _) ?_
    rintro ⟨i, hs, hc⟩ ⟨hi, hu, hlk⟩
    dsimp only at hi hu hlk ⊢
    repeat (first | refine Z0 ?_ | (refine ZR ?_; first | refine x1 ?_ | refine x2 ?_ | refine x8 ?_ | refine Z1 ?_ | refine Z2 ?_ | refine x3 fun _ => ?_ | refine x4 fun _ => ?_ | refine x5 fun _ => ?_ | refine Z3 fun _ => ?_ | refine Z4 fun _ => ?_) | refine ZC ?_)
    refine ct_condT te_d rfl (fun hlt => ?_) (fun hlt => ?_)
    rotate_left
    · obtain rfl : i = B.length := by omega
      rw [List.take_length] at hlk
      repeat (first | refine Z0 ?_ | (refine ZR ?_; first | refine x1 ?_ | refine x2 ?_ | refine x8 ?_ | refine Z1 ?_ | refine Z2 ?_ | refine x3 fun _ => ?_ | refine x4 fun _ => ?_ | refine x5 fun _ => ?_ | refine Z3 fun _ => ?_ | refine Z4 fun _ => ?_) | refine ZC ?_)
      exact ⟨(hs, hc), ⟨hu, hlk⟩, by repeat (first | exact SubL.nil | refine SubL.cons rfl ?_), by exact drop_auto⟩
    obtain ⟨r, hr⟩ : ∃ r, B[i]? = some r := ⟨_, List.getElem?_eq_getElem (by omega)⟩
    have hkr : (B.map kR)[i]? = some (kR r) := by rw [List.getElem?_map, hr]; rfl
    obtain ⟨b1, i1, e1, hL0⟩ := ((ga2 [] (G1 ++ H)).arr enK_len).ldW 91 hkr rfl (sz rfl)
    subst e1
    obtain ⟨b2, i2, e2, hL1⟩ := hrv.ldW 27 hr rfl (sz rfl)
    subst e2
    unfold enK at hL0
    unfold en27 at hL1
    have hft := find_take hsB hr
    repeat (first | refine Z0 ?_ | (refine ZR ?_; first | refine x1 ?_ | refine x2 ?_ | refine x8 ?_ | refine Z1 ?_ | refine Z2 ?_ | refine x3 fun _ => ?_ | refine x4 fun _ => ?_ | refine x5 fun _ => ?_ | refine Z3 fun _ => ?_ | refine Z4 fun _ => ?_) | refine ZC ?_)
    refine ct_draw (masks := [0, 0, 0, 0, 12, 28, 63]) (plan := [0, 1, 2, 3, 4, 5, 6]) (E := []) (by kernel_rfl) (by kernel_rfl) (by kernel_rfl) (by kernel_rfl) ?_
    repeat (first | refine Y0 ?_ | (refine YP ?_; first | refine y1 ?_ | refine y2 ?_ | refine Y1 ?_ | refine Y2 ?_))
    refine pl_S0 rfl rfl rfl rfl rfl (st_update rfl rfl rfl (updE_K (ev := evR) keyMapR hs hc (kR r) r) sw1 ⟨by exact rec_auto, ?_⟩)
    repeat (first | refine Y0 ?_ | (refine YP ?_; first | refine y1 ?_ | refine y2 ?_ | refine Y1 ?_ | refine Y2 ?_))
    repeat (first | refine Z0 ?_ | (refine ZR ?_; first | refine x1 ?_ | refine x2 ?_ | refine x8 ?_ | refine Z1 ?_ | refine Z2 ?_ | refine x3 fun _ => ?_ | refine x4 fun _ => ?_ | refine x5 fun _ => ?_ | refine Z3 fun _ => ?_ | refine Z4 fun _ => ?_) | refine ZC ?_)
    exact ⟨(i + 1, updH hs hc (kR r) r, updC hs hc (kR r)), ⟨by dsimp only; omega, hu.upd, fun k => by
      dsimp only
      rw [lkH_upd hu, hlk k, hft k]⟩, by dsimp only; omega, by repeat (first | exact SubL.nil | refine SubL.cons rfl ?_), by exact drop_auto⟩
  rintro ⟨hs, rc⟩ ⟨hu, hlk⟩
  dsimp only at hu hlk ⊢
  repeat (first | refine Z0 ?_ | (refine ZR ?_; first | refine x1 ?_ | refine x2 ?_ | refine x8 ?_ | refine Z1 ?_ | refine Z2 ?_ | refine x3 fun _ => ?_ | refine x4 fun _ => ?_ | refine x5 fun _ => ?_ | refine Z3 fun _ => ?_ | refine Z4 fun _ => ?_) | refine ZC ?_)
  refine rt_step rfl rfl rfl (st_call rfl rfl rfl rfl (rules52_ct fun tb => ?_))
  repeat (first | refine Z0 ?_ | (refine ZR ?_; first | refine x1 ?_ | refine x2 ?_ | refine x8 ?_ | refine Z1 ?_ | refine Z2 ?_ | refine x3 fun _ => ?_ | refine x4 fun _ => ?_ | refine x5 fun _ => ?_ | refine Z3 fun _ => ?_ | refine Z4 fun _ => ?_) | refine ZC ?_)
  obtain ⟨clF1, hclF⟩ : ∃ g, g = resK lim win self now cl mv B := ⟨_, rfl⟩
  rw [← hclF] at hQ
  refine CodeT.perm ?_ gb_f
  refine loop_ind (ι := Nat × Value × Hp × List (Kk × Nat × Nat) × Nat × Hp × List (Kk × Nat × Nat) × Nat × Hp) (0, .slice none 0 0, [], cs1, cc1, CG1, ms1, mc1, MG1) (fun j => ks.length - j.1)
    (fun j => j.1 ≤ ks.length ∧ Own en59 6 ((A.take j.1).filter fun x => (clF1 (kN x)).2.2) j.2.1 j.2.2.1 ∧ ClG (fun k => if k ∈ ks.take j.1 then (clF1 k).1 else if k ∈ ks then cl k else none) j.2.2.2.1 j.2.2.2.2.1 j.2.2.2.2.2.1 ∧
      MvG (fun k => if k ∈ ks.take j.1 then (clF1 k).2.1 else clM win now (mv k)) j.2.2.2.2.2.2.1 j.2.2.2.2.2.2.2.1 j.2.2.2.2.2.2.2.2)
    (fun j => [(79, .int .i64 (j.1 : Int)), (78, .int .i64 (ks.length : Int)), (77, .slice ad1 ks.length c1), (21, .slice (some ⟨tb, 0, none⟩) 4 4), (20, j.2.1), (17, .map (some rb)), (4, .int .i64 now), (2, .slice adn A.length cn), (1, .int .u32 self), (0, .pointer (some ⟨p, 0, none⟩))])
    (fun j => ((p, AObj.row [.int .i64 lim, .int .i64 win, .int .i64 now, .map (some cb), .map (some mb)] 5 false) :: (cb, AObj.map (mkH ekM evP j.2.2.2.1) j.2.2.2.2.1) :: (mb, AObj.map (mkH ekM evP j.2.2.2.2.2.2.1) j.2.2.2.2.2.2.2.1) :: (j.2.2.2.2.2.1 ++ (j.2.2.2.2.2.2.2.2 ++ (j.2.2.1 ++ ((tb, AObj.row [.func (.func 65) #[] #[], .func (.func 66) #[] #[], .func (.func 68) #[] #[], .func (.func 69) #[] #[]] 1 false) :: (rb, AObj.map (mkH ekM evR hs) rc) :: (G2 ++ (G1 ++ H))))))))
    ⟨Nat.zero_le _, Own.nil, hC1.congr fun k => (if_neg (fun h => by cases h)).symm, hM1.congr fun k => (if_neg (fun h => by cases h)).symm⟩ (by repeat (first | exact SubL.nil | refine SubL.cons rfl ?_)) (List.Sublist.refl _) ?_
  clear hC1 hM1
  rintro ⟨i, v, Gv, cs2, cc2, CG2, ms2, mc2, MG2⟩ ⟨hi, ov, hC, hM⟩
  dsimp only at hi ov hC hM ⊢
  obtain ⟨adv, cv, ev, _⟩ := ov.arrW (C := cx B0 old) en59_len
  subst ev
  repeat (first | refine Z0 ?_ | (refine ZR ?_; first | refine x1 ?_ | refine x2 ?_ | refine x8 ?_ | refine Z1 ?_ | refine Z2 ?_ | refine x3 fun _ => ?_ | refine x4 fun _ => ?_ | refine x5 fun _ => ?_ | refine Z3 fun _ => ?_ | refine Z4 fun _ => ?_) | refine ZC ?_)
  refine ct_condT te_d rfl (fun hlt => ?_) (fun hlt => ?_)
  rotate_left
  · obtain rfl : i = ks.length := by omega
    rw [List.take_length] at hC hM
    rw [List.take_of_length_le (by omega)] at ov
    have h := hQ hsA hsB _ Gv cs2 cc2 CG2 ms2 mc2 MG2 ov (hC.congr fun k => by
      by_cases hk : k ∈ ks
      · rw [if_pos hk, if_pos hk]
      · rw [if_neg hk, if_neg hk, if_neg hk]) hM
    rw [List.take_of_length_le (by omega)]
    refine CodeT.perm ?_ gb_h
    repeat (first | refine Z0 ?_ | (refine ZR ?_; first | refine x1 ?_ | refine x2 ?_ | refine x8 ?_ | refine Z1 ?_ | refine Z2 ?_ | refine x3 fun _ => ?_ | refine x4 fun _ => ?_ | refine x5 fun _ => ?_ | refine Z3 fun _ => ?_ | refine Z4 fun _ => ?_) | refine ZC ?_)
    exact re_2 rfl rfl rfl (by exact drop_auto) h
  have hil : i < A.length := by omega
  obtain ⟨x, hx⟩ : ∃ x, A[i]? = some x := ⟨_, List.getElem?_eq_getElem hil⟩
  obtain ⟨K, hK⟩ : ∃ K, kN x = K := ⟨_, rfl⟩
  have hkx : ks[i]? = some K := by rw [← hks, List.getElem?_map, hx, ← hK]; rfl
  have hKm : K ∈ ks := List.mem_iff_getElem?.2 ⟨i, hkx⟩
  have hKn := srt_not hsA hkx
  have htkA : A.take (i + 1) = A.take i ++ [x] := by rw [List.take_add_one, hx]; rfl
  have htk : ks.take (i + 1) = ks.take i ++ [K] := by rw [List.take_add_one, hkx]; rfl
  obtain ⟨b1, i1, e1, hL0⟩ := ((ga1 [] H).arr enK_len).ldW 91 hkx rfl (sz rfl)
  subst e1
  unfold enK at hL0
  obtain ⟨bN, oN, eN, hL1⟩ := hn.ldW 59 hx rfl (sz rfl)
  subst eN
  unfold en59 at hL1
  have hclK : (if K ∈ ks.take i then (clF1 K).1 else if K ∈ ks then cl K else none) = cl K := by rw [if_neg hKn, if_pos hKm]
  have hmvK : (if K ∈ ks.take i then (clF1 K).2.1 else clM win now (mv K)) = clM win now (mv K) := by rw [if_neg hKn]
  have hres : clF1 K = rule0 lim win self now (cl K) (clM win now (mv K)) (rvOf B K) := by rw [hclF]; rfl
  have hnext : ∀ (a : Option (Int × Bool)), (clF1 K).1 = a → ∀ k, updF (fun k => if k ∈ ks.take i then (clF1 k).1 else if k ∈ ks then cl k else none) K a k = if k ∈ ks.take (i + 1) then (clF1 k).1 else if k ∈ ks then cl k else none := fun a ha k => by
    rw [htk]
    by_cases hk : k = K
    · subst hk
      rw [updF_eq, if_pos (by simp), ha]
    · rw [updF_ne _ _ hk]
      have : (k ∈ ks.take i ++ [K]) ↔ k ∈ ks.take i := by simp [hk]
      simp only [this]
  have hnextM : ∀ (a : Option (List Int × Bool)), (clF1 K).2.1 = a → ∀ k, updF (fun k => if k ∈ ks.take i then (clF1 k).2.1 else clM win now (mv k)) K a k = if k ∈ ks.take (i + 1) then (clF1 k).2.1 else clM win now (mv k) := fun a ha k => by
    rw [htk]
    by_cases hk : k = K
    · subst hk
      rw [updF_eq, if_pos (by simp), ha]
    · rw [updF_ne _ _ hk]
      have : (k ∈ ks.take i ++ [K]) ↔ k ∈ ks.take i := by simp [hk]
      simp only [this]
  have hfil : (A.take (i + 1)).filter (fun x => (clF1 (kN x)).2.2) = (A.take i).filter (fun x => (clF1 (kN x)).2.2) ++ nearL x (clF1 K).2.2 := by
    rw [htkA, List.filter_append, ← hK]
    congr 1
  have hgl : ((A.take i).filter fun x => (clF1 (kN x)).2.2).length ≤ 1000 := Nat.le_trans (List.length_filter_le _ _) (by rw [List.length_take]; omega)
  generalize ((A.take i).filter fun x => (clF1 (kN x)).2.2) = gvs at *
  generalize hcl0 : (fun k => if k ∈ ks.take i then (clF1 k).1 else if k ∈ ks then cl k else none) = cl2 at *
  generalize hmv0 : (fun k => if k ∈ ks.take i then (clF1 k).2.1 else clM win now (mv k)) = mv2' at *
  have hclK : cl2 K = cl K := by rw [← hcl0]; exact hclK
  have hmvK : mv2' K = clM win now (mv K) := by rw [← hmv0]; exact hmvK
  obtain ⟨b0, hb0, hlkC⟩ := hC.lookV (B0 := B0) (old := old) K
  have hlr := rvLookG (B0 := B0) (old := old) hlk K
  obtain ⟨cp, hcp⟩ : ∃ cp, clV (cl2 K) b0 = .pointer cp := by cases cl2 K <;> exact ⟨_, rfl⟩
  rw [hcp, ekM_eq] at hlkC
  rw [ekM_eq] at hlr
  obtain ⟨r, hr⟩ : ∃ r, rvOf B K = r := ⟨_, rfl⟩
  rw [hr] at hlr hres
  unfold en27 at hlr
  repeat (first | refine Z0 ?_ | (refine ZR ?_; first | refine x1 ?_ | refine x2 ?_ | refine x8 ?_ | refine Z1 ?_ | refine Z2 ?_ | refine x3 fun _ => ?_ | refine x4 fun _ => ?_ | refine x5 fun _ => ?_ | refine Z3 fun _ => ?_ | refine Z4 fun _ => ?_) | refine ZC ?_)
  refine ct_draw (masks := [0, 0, 2, 6, 14, 0, 62, 0, 0, 384, 0, 0, 4095, 0, 16383]) (plan := [0, 1, 2, 3, 4, 5, 6, 7, 8, 9, 10, 11, 12, 13, 14]) (E := []) (by kernel_rfl) (by kernel_rfl) (by kernel_rfl) (by kernel_rfl) ?_
  repeat (first | refine Y0 ?_ | (refine YP ?_; first | refine y1 ?_ | refine y2 ?_ | refine Y1 ?_ | refine Y2 ?_))
  refine pl_R rfl rfl rfl rfl rfl rfl (rd_lookup rfl rfl (by exact in_auto) hlkC) ?_
  repeat (first | refine Y0 ?_ | (refine YP ?_; first | refine y1 ?_ | refine y2 ?_ | refine Y1 ?_ | refine Y2 ?_))
  refine pl_R rfl rfl rfl rfl rfl rfl (rd_lookup rfl rfl (by exact in_auto) hlr) ?_
  refine y1 ?_
  refine y1 ?_
  refine pl_p rfl rfl rfl rfl rfl rfl (p_buildS (r := enX K (.pointer cp) r self now) rfl (zr rfl) rfl rfl (by kernel_rfl) (by kernel_rfl)) ?_
  unfold enX
  refine pl_S rfl rfl rfl rfl rfl rfl (st_alloc (zr rfl) fun xb => ⟨rec_rd (rd_lookup rfl rfl (by exact in_auto) hlr) (rec_rd (by apply rd_at rfl; (repeat (first | exact l1 rfl (sz rfl) rfl | exact lW rfl (sz rfl) rfl | exact lP rfl (sz rfl) rfl | exact hL0 _ (by exact drop_auto) | exact hL1 _ (by exact drop_auto) | exact hL2 _ (by exact drop_auto) | exact hL3 _ (by exact drop_auto) | exact hL4 _ (by exact drop_auto) | exact hL5 _ (by exact drop_auto) | exact hA0 _ _ (by omega) (by exact in_auto) | exact hA1 _ _ (by omega) (by exact in_auto) | exact hA2 _ _ (by omega) (by exact in_auto) | exact hA3 _ _ (by omega) (by exact in_auto) | apply lds | apply ldA))) (rec_rd (rd_lookup rfl rfl (by exact in_auto) hlkC) (by exact rec_auto))), ?_⟩)
  refine y3 ?_
  repeat (first | refine Y0 ?_ | (refine YP ?_; first | refine y1 ?_ | refine y2 ?_ | refine Y1 ?_ | refine Y2 ?_))
  repeat (first | refine Z0 ?_ | (refine ZR ?_; first | refine x1 ?_ | refine x2 ?_ | refine x8 ?_ | refine Z1 ?_ | refine Z2 ?_ | refine x3 fun _ => ?_ | refine x4 fun _ => ?_ | refine x5 fun _ => ?_ | refine Z3 fun _ => ?_ | refine Z4 fun _ => ?_) | refine ZC ?_)
  refine CodeT.perm ?_ gb_f
  obtain ⟨res, hre⟩ : ∃ res, clF1 K = res := ⟨_, rfl⟩
  rw [hre] at hres hfil hnext hnextM
  have hn1 := hnext _ rfl
  have hn2 := hnextM _ rfl
  clear hnext hnextM hlkC hlr hL0
  rw [hclK] at hcp hb0
  have hCs : ClG (updF cl2 K (cl K)) cs2 cc2 CG2 := by rw [← hclK, updF_self]; exact hC
  refine ct_midN (ι := List (Kk × Nat × Nat) × Nat × Hp × List (Kk × Nat × Nat) × Nat × Hp × Value × Hp) (fun t => ClG (updF cl2 K res.1) t.1 t.2.1 t.2.2.1 ∧ MvG (updF mv2' K res.2.1) t.2.2.2.1 t.2.2.2.2.1 t.2.2.2.2.2.1 ∧ Own en59 6 (gvs ++ nearL x res.2.2) t.2.2.2.2.2.2.1 t.2.2.2.2.2.2.2)
    (fun t => [(79, .int .i64 (i : Int)), (78, .int .i64 (ks.length : Int)), (77, .slice (some ⟨b1, i1, none⟩) ks.length c1), (21, .slice (some ⟨tb, 0, none⟩) 4 4), (20, t.2.2.2.2.2.2.1), (17, .map (some rb)), (4, .int .i64 now), (2, .slice (some ⟨bN, oN, none⟩) A.length cn), (1, .int .u32 self), (0, .pointer (some ⟨p, 0, none⟩))])
    (fun t => ((p, AObj.row [.int .i64 lim, .int .i64 win, .int .i64 now, .map (some cb), .map (some mb)] 5 false) :: (cb, AObj.map (mkH ekM evP t.1) t.2.1) :: (mb, AObj.map (mkH ekM evP t.2.2.2.1) t.2.2.2.2.1) :: (t.2.2.1 ++ (t.2.2.2.2.2.1 ++ (t.2.2.2.2.2.2.2 ++ ((tb, AObj.row [.func (.func 65) #[] #[], .func (.func 66) #[] #[], .func (.func 68) #[] #[], .func (.func 69) #[] #[]] 1 false) :: (rb, AObj.map (mkH ekM evR hs) rc) :: (G2 ++ (G1 ++ H)))))))) ?_ ?_
  rotate_left
  · rintro ⟨cs', cc', CG', ms', mc', MG', v', G'⟩ ⟨h1, h2, h3⟩ l' H' hs1 hs2
    dsimp only at h1 h2 h3 hs1 hs2 ⊢
    refine Zo (Zl (CodeT.weak ?_ hs1 hs2))
    clear hs1 hs2
    repeat (first | refine Z0 ?_ | (refine ZR ?_; first | refine x1 ?_ | refine x2 ?_ | refine x8 ?_ | refine Z1 ?_ | refine Z2 ?_ | refine x3 fun _ => ?_ | refine x4 fun _ => ?_ | refine x5 fun _ => ?_ | refine Z3 fun _ => ?_ | refine Z4 fun _ => ?_) | refine ZC ?_)
    exact ⟨(i + 1, v', G', cs', cc', CG', ms', mc', MG'), ⟨by dsimp only; omega, by dsimp only; rw [hfil]; exact h3, h1.congr hn1, h2.congr hn2⟩, by dsimp only; omega, by repeat (first | exact SubL.nil | refine SubL.cons rfl ?_), List.Sublist.refl _⟩
  have hlen0 : lenM (clM win now (mv K)) ≤ 2000 := Nat.le_trans (clM_len win now (mv K)) (hl K)
  refine loop_ind (ι := Nat × Option (List Int × Bool) × List (Kk × Nat × Nat) × Nat × Hp) (0, clM win now (mv K), ms2, mc2, MG2) (fun t => 4 - t.1) (fun t => t.1 ≤ 3 ∧ MvG (updF mv2' K t.2.1) t.2.2.1 t.2.2.2.1 t.2.2.2.2 ∧ res = ruleK t.1 lim win self now (cl K) t.2.1 r ∧ (t.1 ≤ 2 → lenM t.2.1 ≤ 2000))
    (fun t => [(99, .int .i64 (t.1 : Int)), (98, .int .i64 ((4 : Nat) : Int)), (97, .slice (some ⟨tb, 0, none⟩) 4 4), (24, .pointer (some ⟨xb, 0, none⟩)), (22, .int .i64 (i : Int)), (79, .int .i64 (i : Int)), (78, .int .i64 (ks.length : Int)), (77, .slice (some ⟨b1, i1, none⟩) ks.length c1), (21, .slice (some ⟨tb, 0, none⟩) 4 4), (20, .slice adv gvs.length cv), (17, .map (some rb)), (4, .int .i64 now), (2, .slice (some ⟨bN, oN, none⟩) A.length cn), (1, .int .u32 self), (0, .pointer (some ⟨p, 0, none⟩))])
    (fun t => ((p, AObj.row [.int .i64 lim, .int .i64 win, .int .i64 now, .map (some cb), .map (some mb)] 5 false) :: (cb, AObj.map (mkH ekM evP cs2) cc2) :: (mb, AObj.map (mkH ekM evP t.2.2.1) t.2.2.2.1) :: (CG2 ++ (t.2.2.2.2 ++ ((xb, AObj.row (enX K (.pointer cp) r self now) 10 false) :: (_, AObj.row [.int .i64 K.bd, .int .u64 K.mac] 2 false) :: (Gv ++ ((tb, AObj.row [.func (.func 65) #[] #[], .func (.func 66) #[] #[], .func (.func 68) #[] #[], .func (.func 69) #[] #[]] 1 false) :: (rb, AObj.map (mkH ekM evR hs) rc) :: (G2 ++ (G1 ++ H)))))))))
    ⟨Nat.zero_le _, by dsimp only; rw [← hmvK, updF_self]; exact hM, hres, fun _ => hlen0⟩ (by repeat (first | exact SubL.nil | refine SubL.cons rfl ?_)) (by exact drop_auto) ?_
  rintro ⟨i0, mv', ms', mc', MG'⟩ ⟨hi0, hM', hres, hl'⟩
  dsimp only at hi0 hM' hres hl' ⊢
  have h65 := fun {H' : Hp} {Q' : Value → Hp → Prop} h => rule65G_ct (n := n + 6) (B0 := B0) (old := old) (H := H') (Q := Q') (p := p) (cb := cb) (mb := mb) (lim := lim) (win := win) (last := now) (MG := MG') (mc := mc') (ms := ms') (K := K) (b0 := b0) hC r self now (by rw [hclK]; exact hb0) h
  have h66 := fun {H' : Hp} {Q' : Value → Hp → Prop} => rule66G_ct (n := n + 5) (B0 := B0) (old := old) (H := H') (Q := Q') (p := p) (cb := cb) (mb := mb) (lim := lim) (win := win) (last := now) (CG := CG2) (cc := cc2) (cs := cs2) (K := K) (b0 := b0) hM' (cl K) r self now
  have h68 := fun {H' : Hp} {Q' : Value → Hp → Prop} h => rule68G_ct (n := n + 1) (B0 := B0) (old := old) (H := H') (Q := Q') (p := p) (cb := cb) (mb := mb) (lim := lim) (win := win) (last := now) (CG := CG2) (cc := cc2) (cs := cs2) (K := K) (b0 := b0) hM' h (cl K) r self now hnow hwn
  have h69 := fun {H' : Hp} {Q' : Value → Hp → Prop} h => rule69G_ct (n := n + 3) (B0 := B0) (old := old) (H := H') (Q := Q') (p := p) (cb := cb) (mb := mb) (lim := lim) (win := win) (last := now) (MG := MG') (mc := mc') (ms := ms') (K := K) (b0 := b0) hC r self now (by rw [hclK]; exact hb0) h
  rw [hclK, hcp] at h65 h69
  rw [hcp, updF_eq] at h66 h68
  rw [updF_upd] at h68
  unfold enX at h65 h66 h68 h69 ⊢
  have hi4 : i0 = 0 ∨ i0 = 1 ∨ i0 = 2 ∨ i0 = 3 := by omega
  rcases hi4 with rfl | rfl | rfl | rfl
  · clear h66 h68 h69
    repeat (first | refine Z0 ?_ | (refine ZR ?_; first | refine x1 ?_ | refine x2 ?_ | refine x8 ?_ | refine Z1 ?_ | refine Z2 ?_ | refine x3 fun _ => ?_ | refine x4 fun _ => ?_ | refine x5 fun _ => ?_ | refine Z3 fun _ => ?_ | refine Z4 fun _ => ?_) | refine ZC ?_)
    refine rt_step rfl rfl rfl (st_call rfl rfl rfl rfl (h65 ?_))
    clear h65
    unfold ruleK rule0 at hres
    generalize clF (cl K) = fl at *
    cases fl
    · rw [if_neg (by decide)] at hres
      repeat (first | refine Z0 ?_ | (refine ZR ?_; first | refine x1 ?_ | refine x2 ?_ | refine x8 ?_ | refine Z1 ?_ | refine Z2 ?_ | refine x3 fun _ => ?_ | refine x4 fun _ => ?_ | refine x5 fun _ => ?_ | refine Z3 fun _ => ?_ | refine Z4 fun _ => ?_) | refine ZC ?_)
      exact ⟨(1, mv', ms', mc', MG'), ⟨by dsimp only; omega, hM', hres, fun _ => hl' (by omega)⟩, by dsimp only; omega, by repeat (first | exact SubL.nil | refine SubL.cons rfl ?_), by exact drop_auto⟩
    · rw [if_pos rfl] at hres
      have hr' := hres
      repeat (first | refine Z0 ?_ | (refine ZR ?_; first | refine x1 ?_ | refine x2 ?_ | refine x8 ?_ | refine Z1 ?_ | refine Z2 ?_ | refine x3 fun _ => ?_ | refine x4 fun _ => ?_ | refine x5 fun _ => ?_ | refine Z3 fun _ => ?_ | refine Z4 fun _ => ?_) | refine ZC ?_)
      exact ⟨rfl, (cs2, cc2, CG2, ms', mc', MG', _, Gv), ⟨by rw [hr']; exact hCs, by rw [hr']; exact hM', by rw [hr']; simpa [nearL] using ov⟩, by repeat (first | exact SubL.nil | refine SubL.cons rfl ?_), by exact drop_auto⟩
  · clear h65 h68 h69
    repeat (first | refine Z0 ?_ | (refine ZR ?_; first | refine x1 ?_ | refine x2 ?_ | refine x8 ?_ | refine Z1 ?_ | refine Z2 ?_ | refine x3 fun _ => ?_ | refine x4 fun _ => ?_ | refine x5 fun _ => ?_ | refine Z3 fun _ => ?_ | refine Z4 fun _ => ?_) | refine ZC ?_)
    refine rt_step rfl rfl rfl (st_call rfl rfl rfl rfl (h66 ?_))
    clear h66
    unfold ruleK rule1 at hres
    generalize (contB (cl K) r && moveF mv') = fl at *
    cases fl
    · rw [if_neg (by decide)] at hres
      repeat (first | refine Z0 ?_ | (refine ZR ?_; first | refine x1 ?_ | refine x2 ?_ | refine x8 ?_ | refine Z1 ?_ | refine Z2 ?_ | refine x3 fun _ => ?_ | refine x4 fun _ => ?_ | refine x5 fun _ => ?_ | refine Z3 fun _ => ?_ | refine Z4 fun _ => ?_) | refine ZC ?_)
      exact ⟨(2, mv', ms', mc', MG'), ⟨by dsimp only; omega, hM', hres, fun _ => hl' (by omega)⟩, by dsimp only; omega, by repeat (first | exact SubL.nil | refine SubL.cons rfl ?_), by exact drop_auto⟩
    · rw [if_pos rfl] at hres
      have hr' := hres
      repeat (first | refine Z0 ?_ | (refine ZR ?_; first | refine x1 ?_ | refine x2 ?_ | refine x8 ?_ | refine Z1 ?_ | refine Z2 ?_ | refine x3 fun _ => ?_ | refine x4 fun _ => ?_ | refine x5 fun _ => ?_ | refine Z3 fun _ => ?_ | refine Z4 fun _ => ?_) | refine ZC ?_)
      refine RunT.perm ?_ gb_g
      refine rt_step rfl rfl rfl (st_appP (M := [x]) (c := 1) (pre := [_]) ov en59_len en59_one rfl rfl (ap rfl) (arrW_one (a := x) en59_len hm0) (Nat.le_trans (Nat.mul_le_mul_right _ (show 2 * (gvs.length + [x].length) + 192 ≤ 6000 by simp only [List.length_singleton]; omega)) (by decide)) fun v2 G3 o3 => ?_)
      refine RunT.perm ?_ gb_g.symm
      repeat (first | refine Z0 ?_ | (refine ZR ?_; first | refine x1 ?_ | refine x2 ?_ | refine x8 ?_ | refine Z1 ?_ | refine Z2 ?_ | refine x3 fun _ => ?_ | refine x4 fun _ => ?_ | refine x5 fun _ => ?_ | refine Z3 fun _ => ?_ | refine Z4 fun _ => ?_) | refine ZC ?_)
      exact ⟨rfl, (cs2, cc2, CG2, ms', mc', MG', v2, G3), ⟨by rw [hr']; exact hCs, by rw [hr']; exact hM', by rw [hr']; exact o3⟩, by repeat (first | exact SubL.nil | refine SubL.cons rfl ?_), by exact drop_auto⟩
  · clear h65 h66 h69
    repeat (first | refine Z0 ?_ | (refine ZR ?_; first | refine x1 ?_ | refine x2 ?_ | refine x8 ?_ | refine Z1 ?_ | refine Z2 ?_ | refine x3 fun _ => ?_ | refine x4 fun _ => ?_ | refine x5 fun _ => ?_ | refine Z3 fun _ => ?_ | refine Z4 fun _ => ?_) | refine ZC ?_)
    unfold ruleK rule2 at hres
    refine rt_step rfl rfl rfl (st_call rfl rfl rfl rfl (h68 (hl' (by decide)) (fun hno => ?_) (fun hyes ms3 mc3 MG3 hM2 => ?_)))
    · clear h68
      rw [hno, if_neg (by decide)] at hres
      repeat (first | refine Z0 ?_ | (refine ZR ?_; first | refine x1 ?_ | refine x2 ?_ | refine x8 ?_ | refine Z1 ?_ | refine Z2 ?_ | refine x3 fun _ => ?_ | refine x4 fun _ => ?_ | refine x5 fun _ => ?_ | refine Z3 fun _ => ?_ | refine Z4 fun _ => ?_) | refine ZC ?_)
      exact ⟨(3, mv', ms', mc', MG'), ⟨by dsimp only; omega, hM', hres, fun h => absurd h (by dsimp only; omega)⟩, by dsimp only; omega, by repeat (first | exact SubL.nil | refine SubL.cons rfl ?_), by exact drop_auto⟩
    · clear h68
      rw [hyes, if_pos rfl] at hres
      have hM3 : MvG (updF mv2' K (mv2 lim win now mv')) ms3 mc3 MG3 := hM2
      clear hM2
      generalize tooM lim win now mv' = fl at *
      cases fl
      · rw [if_neg (by decide)] at hres
        repeat (first | refine Z0 ?_ | (refine ZR ?_; first | refine x1 ?_ | refine x2 ?_ | refine x8 ?_ | refine Z1 ?_ | refine Z2 ?_ | refine x3 fun _ => ?_ | refine x4 fun _ => ?_ | refine x5 fun _ => ?_ | refine Z3 fun _ => ?_ | refine Z4 fun _ => ?_) | refine ZC ?_)
        exact ⟨(3, mv2 lim win now mv', ms3, mc3, MG3), ⟨by dsimp only; omega, hM3, hres, fun h => absurd h (by dsimp only; omega)⟩, by dsimp only; omega, by repeat (first | exact SubL.nil | refine SubL.cons rfl ?_), by exact drop_auto⟩
      · rw [if_pos rfl] at hres
        have hr' := hres
        repeat (first | refine Z0 ?_ | (refine ZR ?_; first | refine x1 ?_ | refine x2 ?_ | refine x8 ?_ | refine Z1 ?_ | refine Z2 ?_ | refine x3 fun _ => ?_ | refine x4 fun _ => ?_ | refine x5 fun _ => ?_ | refine Z3 fun _ => ?_ | refine Z4 fun _ => ?_) | refine ZC ?_)
        refine RunT.perm ?_ gb_g
        refine rt_step rfl rfl rfl (st_appP (M := [x]) (c := 1) (pre := [_]) ov en59_len en59_one rfl rfl (ap rfl) (arrW_one (a := x) en59_len hm0) (Nat.le_trans (Nat.mul_le_mul_right _ (show 2 * (gvs.length + [x].length) + 192 ≤ 6000 by simp only [List.length_singleton]; omega)) (by decide)) fun v2 G3 o3 => ?_)
        refine RunT.perm ?_ gb_g.symm
        repeat (first | refine Z0 ?_ | (refine ZR ?_; first | refine x1 ?_ | refine x2 ?_ | refine x8 ?_ | refine Z1 ?_ | refine Z2 ?_ | refine x3 fun _ => ?_ | refine x4 fun _ => ?_ | refine x5 fun _ => ?_ | refine Z3 fun _ => ?_ | refine Z4 fun _ => ?_) | refine ZC ?_)
        exact ⟨rfl, (cs2, cc2, CG2, ms3, mc3, MG3, v2, G3), ⟨by rw [hr']; exact hCs, by rw [hr']; exact hM3, by rw [hr']; exact o3⟩, by repeat (first | exact SubL.nil | refine SubL.cons rfl ?_), by exact drop_auto⟩
  · clear h65 h66 h68
    repeat (first | refine Z0 ?_ | (refine ZR ?_; first | refine x1 ?_ | refine x2 ?_ | refine x8 ?_ | refine Z1 ?_ | refine Z2 ?_ | refine x3 fun _ => ?_ | refine x4 fun _ => ?_ | refine x5 fun _ => ?_ | refine Z3 fun _ => ?_ | refine Z4 fun _ => ?_) | refine ZC ?_)
    unfold ruleK rule3 at hres
    refine rt_step rfl rfl rfl (st_call rfl rfl rfl rfl (h69 fun cs3 cc3 CG3 hC3 => ?_))
    clear h69
    generalize nextM (seqO (cl K)) (cl K).isSome self r = nx at *
    obtain ⟨sq, stays⟩ := nx
    dsimp only at hres hC3 ⊢
    have hr' := hres
    cases stays
    · repeat (first | refine Z0 ?_ | (refine ZR ?_; first | refine x1 ?_ | refine x2 ?_ | refine x8 ?_ | refine Z1 ?_ | refine Z2 ?_ | refine x3 fun _ => ?_ | refine x4 fun _ => ?_ | refine x5 fun _ => ?_ | refine Z3 fun _ => ?_ | refine Z4 fun _ => ?_) | refine ZC ?_)
      refine RunT.perm ?_ gb_g
      refine rt_step rfl rfl rfl (st_appP (M := [x]) (c := 1) (pre := [_]) ov en59_len en59_one rfl rfl (ap rfl) (arrW_one (a := x) en59_len hm0) (Nat.le_trans (Nat.mul_le_mul_right _ (show 2 * (gvs.length + [x].length) + 192 ≤ 6000 by simp only [List.length_singleton]; omega)) (by decide)) fun v2 G3 o3 => ?_)
      refine RunT.perm ?_ gb_g.symm
      repeat (first | refine Z0 ?_ | (refine ZR ?_; first | refine x1 ?_ | refine x2 ?_ | refine x8 ?_ | refine Z1 ?_ | refine Z2 ?_ | refine x3 fun _ => ?_ | refine x4 fun _ => ?_ | refine x5 fun _ => ?_ | refine Z3 fun _ => ?_ | refine Z4 fun _ => ?_) | refine ZC ?_)
      exact ⟨rfl, (cs3, cc3, CG3, ms', mc', MG', v2, G3), ⟨by rw [hr']; exact hC3, by rw [hr']; exact hM', by rw [hr']; exact o3⟩, by repeat (first | exact SubL.nil | refine SubL.cons rfl ?_), by exact drop_auto⟩
    · repeat (first | refine Z0 ?_ | (refine ZR ?_; first | refine x1 ?_ | refine x2 ?_ | refine x8 ?_ | refine Z1 ?_ | refine Z2 ?_ | refine x3 fun _ => ?_ | refine x4 fun _ => ?_ | refine x5 fun _ => ?_ | refine Z3 fun _ => ?_ | refine Z4 fun _ => ?_) | refine ZC ?_)
      exact ⟨rfl, (cs3, cc3, CG3, ms', mc', MG', _, Gv), ⟨by rw [hr']; exact hC3, by rw [hr']; exact hM', by rw [hr']; simpa [nearL] using ov⟩, by repeat (first | exact SubL.nil | refine SubL.cons rfl ?_), by exact drop_auto⟩
end
end Go.Proofs.Ytoimfchhmocgeaa.Abs

/- The book in general as one thing. -/
namespace Go.Proofs.Ytoimfchhmocgeaa.Abs
open Go
set_option linter.unusedVariables false
theorem rk_inj {a b : Kk} (ha : okK a) (hb : okK b) (h : rkK a = rkK b) : a = b := by
  unfold okK at ha hb
  unfold rkK at h
  exact KkM.eta (by omega) (by omega)
theorem srt_mk {ks : List Kk} (h : (ks.map rkK).Pairwise (· ≤ ·)) (hn : ks.Nodup) (hok : ∀ k ∈ ks, okK k) : SrtR ks := by
  unfold SrtR
  rw [List.pairwise_map] at h ⊢
  rw [List.pairwise_iff_getElem] at h ⊢
  intro i j hi hj hij
  have h1 := h i j hi hj hij
  have h2 : rkK ks[i] ≠ rkK ks[j] := fun e => by
    have := rk_inj (hok _ (List.getElem_mem hi)) (hok _ (List.getElem_mem hj)) e
    have := (List.getElem_inj hn).1 this
    omega
  omega
/-- Lists in order with the same members are the same. -/
theorem srt_eq : ∀ {a b : List Kk}, SrtR a → SrtR b → (∀ k, k ∈ a ↔ k ∈ b) → a = b
  | [], [], _, _, _ => rfl
  | [], y :: b, _, _, h => by cases (h y).2 (List.mem_cons_self ..)
  | x :: a, [], _, _, h => by cases (h x).1 (List.mem_cons_self ..)
  | x :: a, y :: b, ha, hb, h => by
    unfold SrtR at ha hb
    rw [List.map_cons, List.pairwise_cons] at ha hb
    have hxa : ∀ k ∈ a, rkK x < rkK k := fun k hk => ha.1 _ (List.mem_map_of_mem hk)
    have hyb : ∀ k ∈ b, rkK y < rkK k := fun k hk => hb.1 _ (List.mem_map_of_mem hk)
    have hxy : x = y := by
      rcases List.mem_cons.1 ((h x).1 (List.mem_cons_self ..)) with e | e
      · exact e
      · rcases List.mem_cons.1 ((h y).2 (List.mem_cons_self ..)) with e2 | e2
        · exact e2.symm
        · have h1 := hyb x e
          have h2 := hxa y e2
          omega
    subst hxy
    rw [srt_eq (a := a) (b := b) ha.2 hb.2 fun k => by
      have hk := h k
      rw [List.mem_cons, List.mem_cons] at hk
      constructor
      · intro hm
        rcases hk.1 (.inr hm) with e | e
        · subst e; exact absurd (hxa _ hm) (by omega)
        · exact e
      · intro hm
        rcases hk.2 (.inr hm) with e | e
        · subst e; exact absurd (hyb _ hm) (by omega)
        · exact e]
theorem srt_sub {a b : List Kk} (h : SrtR b) (hs : a.Sublist b) : SrtR a := List.Pairwise.sublist (hs.map _) h
theorem rule0_len (lim win self now : Int) (cl : Option (Int × Bool)) (mv : Option (List Int × Bool)) (r : S27) : lenM (rule0 lim win self now cl (clM win now mv) r).2.1 ≤ lenM mv + 1 := settle_len lim win self now cl mv true (some r)
/-- A book in memory. -/
def BkG (lim win : Int) (p : Nat) (last : Int) (cl : Kk → Option (Int × Bool)) (mv : Kk → Option (List Int × Bool)) (G : Hp) : Prop := ∃ cb mb cs cc ms mc CG MG, ClG cl cs cc CG ∧ MvG mv ms mc MG ∧ G = ((p, AObj.row [.int .i64 lim, .int .i64 win, .int .i64 last, .map (some cb), .map (some mb)] 5 false) :: (cb, AObj.map (mkH ekM evP cs) cc) :: (mb, AObj.map (mkH ekM evP ms) mc) :: (CG ++ MG))
/-- The addresses with claims are among so many. -/
def CovK (L : List Kk) (cl : Kk → Option (Int × Bool)) : Prop := L.length ≤ 1000 ∧ (∀ k ∈ L, okK k) ∧ ∀ k a, cl k = some a → k ∈ L
def clG' (cl : Kk → Option (Int × Bool)) (k : Kk) : Int × Bool := (cl k).getD (0, false)
section
variable {B0 : Nat} {old : Nat → Option (List Value)} {n : Nat} {H G : Hp} {Q : Value → Hp → Prop} {p : Nat} {lim win last : Int} {cl : Kk → Option (Int × Bool)} {mv : Kk → Option (List Int × Bool)} {L : List Kk}
set_option maxRecDepth 10000
set_option maxHeartbeats 8000000
theorem newGW (a b : Int) (ha : 1 ≤ a ∧ a ≤ 100) (hb : 1 ≤ b ∧ b ≤ 10000) (hQ : ∀ p G, BkG a b p 0 (fun _ => none) (fun _ => none) G → Q (.tuple #[.pointer (some ⟨p, 0, none⟩), .int .i64 0]) (G ++ H)) :
    CallT (cx B0 old) (acall (cx B0 old) ansP (n + 1)) 15 [.int .i64 a, .int .i64 b] H Q := by
  refine CallT.permPost (newB15_ct (Q := fun v H' => ∃ p cb mb, v = .tuple #[.pointer (some ⟨p, 0, none⟩), .int .i64 0] ∧ H' = ((p, .row [.int .i64 a, .int .i64 b, .int .i64 0, .map (some cb), .map (some mb)] 5 false) :: (mb, .map (mkH ekM evP []) 0) :: (cb, .map (mkH ekM evP []) 0) :: H)) a b ha hb fun p cb mb => ⟨p, cb, mb, rfl, rfl⟩) ?_
  rintro v H' ⟨p, cb, mb, rfl, rfl⟩
  exact ⟨_, (List.Perm.swap _ _ _).cons _, hQ p _ ⟨cb, mb, [], 0, [], 0, [], [], MpI.nil 0, MpI.nil 0, rfl⟩⟩
theorem settleGW (hB : BkG lim win p last cl mv G) (hl : ∀ k, lenM (mv k) ≤ 2000) (self now : Int) (hck : chkT last now = 0) (hwn : 0 ≤ win ∧ win ≤ 100000) {A : List N59} {B : List S27} (hA1 : A.length ≤ 1000) (hB1 : B.length ≤ 1000)
    (hwA : ∀ x ∈ A, okK (kN x)) (hwB : ∀ x ∈ B, okK (kR x)) {adn adr : Option Addr} {cn cr : Nat} (hn : Arr (cx B0 old) H adn 6 en59 A) (hrv : Arr (cx B0 old) H adr 5 en27 B)
    (hbad : ¬ (SrtR (A.map kN) ∧ SrtR (B.map kR)) → Q (.tuple #[.slice none 0 0, .int .i64 10]) (G ++ H))
    (hQ : SrtR (A.map kN) → SrtR (B.map kR) → ∀ v Gv G', Own en59 6 (A.filter fun x => (resK lim win self now cl mv B (kN x)).2.2) v Gv →
      BkG lim win p now (fun k => if k ∈ A.map kN then (resK lim win self now cl mv B k).1 else none) (fun k => if k ∈ A.map kN then (resK lim win self now cl mv B k).2.1 else clM win now (mv k)) G' →
      Q (.tuple #[v, .int .i64 0]) (Gv ++ (G' ++ H))) :
    CallT (cx B0 old) (acall (cx B0 old) ansP (n + 8)) 21 [.pointer (some ⟨p, 0, none⟩), .int .u32 self, .slice adn A.length cn, .slice adr B.length cr, .int .i64 now] (G ++ H) Q := by
  obtain ⟨cb, mb, cs, cc, ms, mc, CG, MG, hC, hM, rfl⟩ := hB
  rw [bk_as] at hbad ⊢
  refine settle21G_ct hC hM hl self now hck hwn hA1 hB1 hwA hwB hn hrv hbad fun h1 h2 v Gv cs' cc' CG' ms' mc' MG' ho hC' hM' => ?_
  have h := hQ h1 h2 v Gv _ ho ⟨cb, mb, cs', cc', ms', mc', CG', MG', hC', hM', rfl⟩
  rw [bk_as] at h
  exact h
theorem claimsGW (hB : BkG lim win p last cl mv G) (hL : CovK L cl) (hQ : ∀ ks v Gv, (∀ k, k ∈ ks ↔ cl k ≠ none) → SrtR ks → Own en57 4 (ks.map (clmO (clG' cl))) v Gv → Q v (Gv ++ (G ++ H))) :
    CallT (cx B0 old) (acall (cx B0 old) ansP (n + 2016)) 25 [.pointer (some ⟨p, 0, none⟩)] (G ++ H) Q := by
  obtain ⟨cb, mb, cs, cc, ms, mc, CG, MG, hC, hM, rfl⟩ := hB
  rw [bk_as] at hQ ⊢
  have hlen := hC.len hL.2.2
  have hcl : cs.length ≤ 2000 := by have := hL.1; omega
  have hkey : ∀ q ∈ cs, q.1 ∈ L := fun q hq => by
    obtain ⟨a, ha⟩ := hC.pc.some q hq
    exact hL.2.2 _ _ ha
  refine claims25_ct (n := n + 2009) (clG' cl) hC.born hC.uq hcl (fun ks hp => sortT (fun x hx => by
    obtain ⟨q, hq, e⟩ := List.mem_map.1 (hp.mem_iff.1 hx)
    exact hL.2.1 _ (by rw [← e]; exact hkey q hq)) (by rw [hp.length_eq, List.length_map]; exact hcl)) (fun q hq => ?_) fun ks v Gv hp hs ho => ?_
  · obtain ⟨k, b, m⟩ := q
    obtain ⟨⟨sq, f⟩, ha⟩ := hC.mem hq
    obtain ⟨b2, Ga, R, e1, hga, hpm, _⟩ := hC.look ha
    obtain rfl : b2 = b := Option.some.inj (e1.symm.trans (hC.uq.lkH hq))
    have hga : Ga = [(b2, .row [.int .u32 sq, .bool f] 2 false)] := hga
    subst hga
    have hf : clG' cl k = (sq, f) := by unfold clG'; rw [ha]; rfl
    rw [hf]
    exact List.mem_append_left _ (hpm.mem_iff.2 (List.Mem.head _))
  · have hmem : ∀ k, k ∈ ks ↔ cl k ≠ none := fun k => by
      rw [hp.mem_iff]
      constructor
      · intro h
        obtain ⟨q, hq, e⟩ := List.mem_map.1 h
        obtain ⟨a, ha⟩ := hC.pc.some q hq
        rw [e] at ha
        rw [ha]; simp
      · intro h
        cases hk : cl k with
        | none => exact absurd hk h
        | some a =>
          obtain ⟨b, m, hm⟩ := hC.dom k a hk
          exact List.mem_map.2 ⟨_, hm, rfl⟩
    refine hQ ks v Gv hmem (srt_mk hs (hp.nodup_iff.2 hC.uq) fun k hk => ?_) ho
    cases hk2 : cl k with
    | none => exact absurd hk2 ((hmem k).1 hk)
    | some a => exact hL.2.1 _ (hL.2.2 k a hk2)
end
end Go.Proofs.Ytoimfchhmocgeaa.Abs

/- The contract of the statement MobilityClaims. -/
namespace Go.Proofs.Ytoimfchhmocgeaa.Abs
open Go
set_option linter.unusedVariables false
/-- What an act's slices hold. -/
def ActI (C : Ctx) (H : Hp) (x : S52) : Prop := ∃ (A : List N59) (B : List S27) (adn adr : Option Addr) (cn cr : Nat), x.a3 = (adn, A.length, cn) ∧ x.a4 = (adr, B.length, cr) ∧ Arr C H adn 6 en59 A ∧ Arr C H adr 5 en27 B ∧ (∀ y ∈ A, okK (kN y)) ∧ ∀ y ∈ B, okK (kR y)
section
variable {B0 : Nat} {old : Nat → Option (List Value)} {n : Nat} {H : Hp} {Q : Value → Hp → Prop}
set_option maxRecDepth 10000
set_option maxHeartbeats 32000000
end
end Go.Proofs.Ytoimfchhmocgeaa.Abs

/- Readings of acts for the statements of chapter 24. -/
namespace Go.Proofs.Ytoimfchhmocgeaa.Abs
open Go Go.RowKit
set_option linter.unusedVariables false
set_option maxRecDepth 100000
set_option maxHeartbeats 2000000
theorem lv59 : leaves Try.prog 10 59 = some [3, 3, 25, 23, 4, 3] := by kernel_rfl
theorem lv52' : leaves Try.prog 10 52 = some [3, 3, 23, 44, 38, 3, 25] := by kernel_rfl
section
variable {H : Type} {enc : TypeId × Value → H} {W : World} {base : Nat} {spare : Nat → Bool} {held : Bool}
theorem read59 {hs fuel : Nat} {cs : List Value} {x : DataW H × List MemPlace} (h : DataW.trod enc Try.prog W base spare held fuel 59 cs = some x) : cs.length = 6 ∧ ∃ p : N59, cs.map (normV hs) = en59 p ∧ okK (kN p) := by
  have hh := leaves_ok 10 59 _ lv59 _ _ _ h
  clear h
  refine ⟨hh.1, ?_⟩
  obtain ⟨v0, cs0, rfl, l0, h0⟩ := LeafOk.next hh
  obtain ⟨v1, cs1, rfl, l1, h1⟩ := LeafOk.next h0
  obtain ⟨v2, cs2, rfl, l2, h2⟩ := LeafOk.next h1
  obtain ⟨v3, cs3, rfl, l3, h3⟩ := LeafOk.next h2
  obtain ⟨v4, cs4, rfl, l4, h4⟩ := LeafOk.next h3
  obtain ⟨v5, cs5, rfl, l5, h5⟩ := LeafOk.next h4
  obtain rfl := LeafOk.done h5
  obtain ⟨n0, rfl, w0⟩ := leaf_int (k := .i64) Try.underlying3 l0
  obtain ⟨n1, rfl, w1⟩ := leaf_int (k := .i64) Try.underlying3 l1
  obtain ⟨n2, rfl, w2⟩ := leaf_int (k := .u64) Try.underlying25 l2
  obtain ⟨n3, rfl, w3⟩ := leaf_int (k := .u32) Try.underlying23 l3
  obtain ⟨n4, rfl⟩ := leaf_bool Try.underlying4 l4
  obtain ⟨n5, rfl, w5⟩ := leaf_int (k := .i64) Try.underlying3 l5
  exact ⟨⟨n0, n1, n2, n3, n4, n5⟩, rfl, wf_i64 w0, wf_u64 w2⟩
theorem read52W {fuel : Nat} {cs : List Value} {x : DataW H × List MemPlace} (h : DataW.trod enc Try.prog W 0 spare held fuel 52 cs = some x) : cs.length = 7 ∧ ∃ p : S52, cs.map (normV W.heap.size) = en52 p ∧ (p.wf ∧ ActI (cx (W.heap.size + 1) (oldW W)) [] p) := by
  have hh := leaves_ok 10 52 _ lv52' _ _ _ h
  clear h
  refine ⟨hh.1, ?_⟩
  obtain ⟨v0, cs0, rfl, l0, h0⟩ := LeafOk.next hh
  obtain ⟨v1, cs1, rfl, l1, h1⟩ := LeafOk.next h0
  obtain ⟨v2, cs2, rfl, l2, h2⟩ := LeafOk.next h1
  obtain ⟨v3, cs3, rfl, l3, h3⟩ := LeafOk.next h2
  obtain ⟨v4, cs4, rfl, l4, h4⟩ := LeafOk.next h3
  obtain ⟨v5, cs5, rfl, l5, h5⟩ := LeafOk.next h4
  obtain ⟨v6, cs6, rfl, l6, h6⟩ := LeafOk.next h5
  obtain rfl := LeafOk.done h6
  obtain ⟨n0, rfl, w0⟩ := leaf_int (k := .i64) Try.underlying3 l0
  obtain ⟨n1, rfl, w1⟩ := leaf_int (k := .i64) Try.underlying3 l1
  obtain ⟨n2, rfl, w2⟩ := leaf_int (k := .u32) Try.underlying23 l2
  obtain ⟨a3, c3, L3, e3, g3, m3, ar3, p3⟩ := arr_read (C := cx (W.heap.size + 1) (oldW W)) (k := 6) (en := en59) (Pr := fun p => okK (kN p)) rfl (fun _ => rfl) Try.underlying44 (by kernel_rfl) (by decide) (fun cs m y h => read59 h) l3
  obtain ⟨a4, c4, L4, e4, g4, m4, ar4, p4⟩ := arr_read (C := cx (W.heap.size + 1) (oldW W)) (k := 5) (en := en27) (Pr := fun p => S27.wf p) rfl (fun _ => rfl) Try.underlying38 (by kernel_rfl) (by decide) (fun cs m y h => read27 h) l4
  obtain ⟨n5, rfl, w5⟩ := leaf_int (k := .i64) Try.underlying3 l5
  obtain ⟨n6, rfl, w6⟩ := leaf_int (k := .u64) Try.underlying25 l6
  refine ⟨⟨n0, n1, n2, ⟨a3, L3.length, c3⟩, ⟨a4, L4.length, c4⟩, n5, n6⟩, ?_, ⟨wf_i64 w0, wf_i64 w1, wf_u32 w2, wf_i64 w5, wf_u64 w6⟩, L3, L4, a3, a4, c3, c4, rfl, rfl, ar3, ar4, p3, fun y hy => ⟨(p4 y hy).1, (p4 y hy).2.1⟩⟩
  simp only [List.map_cons, List.map_nil, e3, e4]
  rfl
end
end Go.Proofs.Ytoimfchhmocgeaa.Abs

/- The book in general: Frozen, Moved, Clear. -/
namespace Go.Proofs.Ytoimfchhmocgeaa.Abs
open Go
set_option linter.unusedVariables false
def aft (q : Int) : Int := if q = 4294967295 then q else IntKind.u32.wrap (q + 1)
theorem gs_a {t a b c : Nat × AObj} {C M H : Hp} : (a :: b :: c :: (M ++ (C ++ (t :: H)))).Perm (t :: a :: b :: c :: (C ++ (M ++ H))) := by
  have h1 : (M ++ (C ++ (t :: H))).Perm (t :: (C ++ (M ++ H))) := (List.perm_append_comm_assoc M C _).trans ((List.Perm.append_left C List.perm_middle).trans List.perm_middle)
  exact (List.Perm.append_left [a, b, c] h1).trans (List.perm_middle (l₁ := [a, b, c]))
theorem gs_c {t x a b c : Nat × AObj} {R M H : Hp} : (a :: b :: c :: (M ++ (t :: x :: (R ++ H)))).Perm (t :: a :: b :: c :: ([x] ++ (R ++ (M ++ H)))) := by
  have h1 : (M ++ (t :: x :: (R ++ H))).Perm (t :: x :: (R ++ (M ++ H))) := List.perm_append_comm_assoc M (t :: x :: R) H
  exact (List.Perm.append_left [a, b, c] h1).trans (List.perm_middle (l₁ := [a, b, c]))
section
variable {B0 : Nat} {old : Nat → Option (List Value)} {n : Nat} {H G CG MG : Hp} {Q : Value → Hp → Prop} {p cb mb cc mc : Nat} {lim win last : Int} {cs ms : List (Kk × Nat × Nat)} {K : Kk} {cl : Kk → Option (Int × Bool)} {mv : Kk → Option (List Int × Bool)}
set_option maxRecDepth 10000
set_option maxHeartbeats 8000000
theorem frozen20G_ct (hM : MvG mv ms mc MG) (h : Q (.bool (moveF (mv K))) ((p, AObj.row [.int .i64 lim, .int .i64 win, .int .i64 last, .map (some cb), .map (some mb)] 5 false) :: (cb, AObj.map (mkH ekM evP cs) cc) :: (mb, AObj.map (mkH ekM evP ms) mc) :: (CG ++ (MG ++ H)))) :
    CallT (cx B0 old) (acall (cx B0 old) ansP (n + 2)) 20 [.pointer (some ⟨p, 0, none⟩), .int .i64 K.bd, .int .u64 K.mac] ((p, AObj.row [.int .i64 lim, .int .i64 win, .int .i64 last, .map (some cb), .map (some mb)] 5 false) :: (cb, AObj.map (mkH ekM evP cs) cc) :: (mb, AObj.map (mkH ekM evP ms) mc) :: (CG ++ (MG ++ H))) Q := by
  refine call_in3 17 rfl Try.func20 rfl rfl ?_
  have hstk := fun {H' : Hp} {Q' : Value → Hp → Prop} => stuck46G_ct (B0 := B0) (old := old) (n := n) (H := H') (Q := Q') (p := p) (cb := cb) (mb := mb) (cc := cc) (lim := lim) (win := win) (last := last) (cs := cs) (K := K) hM
  unfold enK at hstk
  repeat (first | refine Z0 ?_ | (refine ZR ?_; first | refine x1 ?_ | refine x2 ?_ | refine x8 ?_ | refine Z1 ?_ | refine Z2 ?_ | refine x3 fun _ => ?_ | refine x4 fun _ => ?_ | refine x5 fun _ => ?_ | refine Z3 fun _ => ?_ | refine Z4 fun _ => ?_) | refine ZC ?_)
  refine rt_step rfl rfl rfl (st_call rfl rfl rfl rfl (invB45_ct ?_))
  repeat (first | refine Z0 ?_ | (refine ZR ?_; first | refine x1 ?_ | refine x2 ?_ | refine x8 ?_ | refine Z1 ?_ | refine Z2 ?_ | refine x3 fun _ => ?_ | refine x4 fun _ => ?_ | refine x5 fun _ => ?_ | refine Z3 fun _ => ?_ | refine Z4 fun _ => ?_) | refine ZC ?_)
  refine rt_step rfl rfl rfl (st_call rfl rfl rfl rfl (CallT.perm (hstk ?_) bk_p))
  refine RunT.perm ?_ bk_p.symm
  repeat (first | refine Z0 ?_ | (refine ZR ?_; first | refine x1 ?_ | refine x2 ?_ | refine x8 ?_ | refine Z1 ?_ | refine Z2 ?_ | refine x3 fun _ => ?_ | refine x4 fun _ => ?_ | refine x5 fun _ => ?_ | refine Z3 fun _ => ?_ | refine Z4 fun _ => ?_) | refine ZC ?_)
  exact re_1 rfl rfl (List.Sublist.refl _) h
theorem moved18G_ct (hC : ClG cl cs cc CG) (hM : MvG mv ms mc MG) (hl : lenM (mv K) ≤ 2000) (now : Int) (hwn : 0 ≤ win ∧ win ≤ 100000)
    (herr : chkT last now ≠ 0 → Q (.tuple #[.bool false, .int .i64 (chkT last now)]) ((p, AObj.row [.int .i64 lim, .int .i64 win, .int .i64 last, .map (some cb), .map (some mb)] 5 false) :: (cb, AObj.map (mkH ekM evP cs) cc) :: (mb, AObj.map (mkH ekM evP ms) mc) :: (CG ++ (MG ++ H))))
    (hun : chkT last now = 0 → cl K = none → Q (.tuple #[.bool false, .int .i64 8]) ((p, AObj.row [.int .i64 lim, .int .i64 win, .int .i64 last, .map (some cb), .map (some mb)] 5 false) :: (cb, AObj.map (mkH ekM evP cs) cc) :: (mb, AObj.map (mkH ekM evP ms) mc) :: (CG ++ (MG ++ H))))
    (hfz : ∀ q, chkT last now = 0 → cl K = some (q, true) → Q (.tuple #[.bool false, .int .i64 9]) ((p, AObj.row [.int .i64 lim, .int .i64 win, .int .i64 last, .map (some cb), .map (some mb)] 5 false) :: (cb, AObj.map (mkH ekM evP cs) cc) :: (mb, AObj.map (mkH ekM evP ms) mc) :: (CG ++ (MG ++ H))))
    (hQ : ∀ q cs' cc' CG' ms' mc' MG', chkT last now = 0 → cl K = some (q, false) → ClG (updF cl K (some (aft q, tooM lim win now (mv K)))) cs' cc' CG' → MvG (updF mv K (some (moveL win now (mv K) ++ [now], moveF (mv K) || tooM lim win now (mv K)))) ms' mc' MG' →
      Q (.tuple #[.bool (tooM lim win now (mv K)), .int .i64 0]) ((p, AObj.row [.int .i64 lim, .int .i64 win, .int .i64 now, .map (some cb), .map (some mb)] 5 false) :: (cb, AObj.map (mkH ekM evP cs') cc') :: (mb, AObj.map (mkH ekM evP ms') mc') :: (CG' ++ (MG' ++ H)))) :
    CallT (cx B0 old) (acall (cx B0 old) ansP (n + 6)) 18 [.pointer (some ⟨p, 0, none⟩), .int .i64 K.bd, .int .u64 K.mac, .int .i64 now] ((p, AObj.row [.int .i64 lim, .int .i64 win, .int .i64 last, .map (some cb), .map (some mb)] 5 false) :: (cb, AObj.map (mkH ekM evP cs) cc) :: (mb, AObj.map (mkH ekM evP ms) mc) :: (CG ++ (MG ++ H))) Q := by
  refine call_in 57 rfl Try.func18 rfl rfl ?_
  repeat (first | refine Z0 ?_ | (refine ZR ?_; first | refine x1 ?_ | refine x2 ?_ | refine x8 ?_ | refine Z1 ?_ | refine Z2 ?_ | refine x3 fun _ => ?_ | refine x4 fun _ => ?_ | refine x5 fun _ => ?_ | refine Z3 fun _ => ?_ | refine Z4 fun _ => ?_) | refine ZC ?_)
  refine rt_step rfl rfl rfl (st_call rfl rfl rfl rfl (check43_ct now ?_))
  by_cases hck : chkT last now = 0
  rotate_left
  · repeat (first | refine Z0 ?_ | (refine ZR ?_; first | refine x1 ?_ | refine x2 ?_ | refine x8 ?_ | refine Z1 ?_ | refine Z2 ?_ | refine x3 fun _ => ?_ | refine x4 fun _ => ?_ | refine x5 fun _ => ?_ | refine Z3 fun _ => ?_ | refine Z4 fun _ => ?_) | refine ZC ?_)
    rw [show (chkT last now != 0) = true from bne_iff_ne.2 hck]
    repeat (first | refine Z0 ?_ | (refine ZR ?_; first | refine x1 ?_ | refine x2 ?_ | refine x8 ?_ | refine Z1 ?_ | refine Z2 ?_ | refine x3 fun _ => ?_ | refine x4 fun _ => ?_ | refine x5 fun _ => ?_ | refine Z3 fun _ => ?_ | refine Z4 fun _ => ?_) | refine ZC ?_)
    exact re_2 rfl rfl rfl (by exact drop_auto) (herr hck)
  have hnow : 0 ≤ now ∧ now ≤ 1099511627776 := by
    unfold chkT at hck
    by_cases h : now < 0 ∨ now > 1099511627776
    · rw [if_pos h] at hck; cases hck
    · omega
  rw [hck]
  have hlk := lookE_K (C := cx B0 old) (ev := evP) keyMapC cs K false
  rw [ekM_eq] at hlk
  repeat (first | refine Z0 ?_ | (refine ZR ?_; first | refine x1 ?_ | refine x2 ?_ | refine x8 ?_ | refine Z1 ?_ | refine Z2 ?_ | refine x3 fun _ => ?_ | refine x4 fun _ => ?_ | refine x5 fun _ => ?_ | refine Z3 fun _ => ?_ | refine Z4 fun _ => ?_) | refine ZC ?_)
  rename_i t11
  refine ct_draw (masks := [0, 1, 3, 7, 0, 31, 63]) (plan := [0, 1, 2, 3, 4, 5, 6]) (E := []) (by kernel_rfl) (by kernel_rfl) (by kernel_rfl) (by kernel_rfl) ?_
  repeat (first | refine Y0 ?_ | (refine YP ?_; first | refine y1 ?_ | refine y2 ?_ | refine Y1 ?_ | refine Y2 ?_))
  cases hk : cl K with
  | none =>
    rw [hC.lk_none hk] at hlk
    refine pl_R rfl rfl rfl rfl rfl rfl (rd_lookup rfl rfl hm2 hlk) ?_
    repeat (first | refine Y0 ?_ | (refine YP ?_; first | refine y1 ?_ | refine y2 ?_ | refine Y1 ?_ | refine Y2 ?_))
    repeat (first | refine Z0 ?_ | (refine ZR ?_; first | refine x1 ?_ | refine x2 ?_ | refine x8 ?_ | refine Z1 ?_ | refine Z2 ?_ | refine x3 fun _ => ?_ | refine x4 fun _ => ?_ | refine x5 fun _ => ?_ | refine Z3 fun _ => ?_ | refine Z4 fun _ => ?_) | refine ZC ?_)
    exact re_2 rfl rfl rfl (by exact drop_auto) (hun hck hk)
  | some q =>
    obtain ⟨q, f⟩ := q
    obtain ⟨b, Ga, R, e, hga, hpm, hch, _⟩ := hC.look hk
    have hga : Ga = [(b, .row [.int .u32 q, .bool f] 2 false)] := hga
    subst hga
    rw [e] at hlk
    unfold evP at hlk
    simp only [Bool.false_eq_true, if_false] at hlk
    refine pl_R rfl rfl rfl rfl rfl rfl (rd_lookup rfl rfl hm2 hlk) ?_
    have hbm : (b, AObj.row [.int .u32 q, .bool f] 2 false) ∈ CG := hpm.mem_iff.2 (List.Mem.head _)
    cases f with
    | true =>
      have hL0 : ∀ H', (CG ++ (MG ++ H)).Sublist H' → LdT (cx B0 old) 4 H' b 1 (.bool true) := fun H' hs => ld1 (.own _ _ (hs.subset (List.mem_append_left _ hbm))) rfl (sz rfl) rfl
      repeat (first | refine Y0 ?_ | (refine YP ?_; first | refine y1 ?_ | refine y2 ?_ | refine Y1 ?_ | refine Y2 ?_))
      repeat (first | refine Z0 ?_ | (refine ZR ?_; first | refine x1 ?_ | refine x2 ?_ | refine x8 ?_ | refine Z1 ?_ | refine Z2 ?_ | refine x3 fun _ => ?_ | refine x4 fun _ => ?_ | refine x5 fun _ => ?_ | refine Z3 fun _ => ?_ | refine Z4 fun _ => ?_) | refine ZC ?_)
      exact re_2 rfl rfl rfl (List.sublist_cons_self _ _) (hfz q hck hk)
    | false =>
      refine PlanT.perm ?_ (gb_a (H := MG ++ H) hpm)
      repeat (first | refine Y0 ?_ | (refine YP ?_; first | refine y1 ?_ | refine y2 ?_ | refine Y1 ?_ | refine Y2 ?_))
      repeat (first | refine Z0 ?_ | (refine ZR ?_; first | refine x1 ?_ | refine x2 ?_ | refine x8 ?_ | refine Z1 ?_ | refine Z2 ?_ | refine x3 fun _ => ?_ | refine x4 fun _ => ?_ | refine x5 fun _ => ?_ | refine Z3 fun _ => ?_ | refine Z4 fun _ => ?_) | refine ZC ?_)
      refine rt_step rfl rfl rfl (st_call rfl rfl rfl rfl (after_ct q ?_))
      have hq := fun cs' cc' CG' ms' mc' MG' => hQ q cs' cc' CG' ms' mc' MG' hck hk
      rw [show (if q = 4294967295 then q else IntKind.u32.wrap (q + 1)) = aft q from rfl]
      have hmvc := fun {H' : Hp} {Q' : Value → Hp → Prop} => move44G_ct (B0 := B0) (old := old) (n := n) (H := H') (Q := Q') (p := p) (cb := cb) (mb := mb) (cc := cc) (lim := lim) (win := win) (last := now) (cs := cs) (K := K) hM hl now hnow hwn
      unfold enK at hmvc
      generalize tooM lim win now (mv K) = tm at *
      repeat (first | refine Z0 ?_ | (refine ZR ?_; first | refine x1 ?_ | refine x2 ?_ | refine x8 ?_ | refine Z1 ?_ | refine Z2 ?_ | refine x3 fun _ => ?_ | refine x4 fun _ => ?_ | refine x5 fun _ => ?_ | refine Z3 fun _ => ?_ | refine Z4 fun _ => ?_) | refine ZC ?_)
      refine rt_step rfl rfl rfl (st_call rfl rfl rfl rfl (CallT.perm (hmvc (H' := (t11, AObj.row [.int .i64 K.bd, .int .u64 K.mac] 2 false) :: (b, AObj.row [.int .u32 (aft q), .bool false] 2 false) :: (R ++ H)) fun ms' mc' G' hM' => ?_) gs_c))
      refine RunT.perm ?_ gs_c.symm
      repeat (first | refine Z0 ?_ | (refine ZR ?_; first | refine x1 ?_ | refine x2 ?_ | refine x8 ?_ | refine Z1 ?_ | refine Z2 ?_ | refine x3 fun _ => ?_ | refine x4 fun _ => ?_ | refine x5 fun _ => ?_ | refine Z3 fun _ => ?_ | refine Z4 fun _ => ?_) | refine ZC ?_)
      exact re_2 rfl rfl rfl (by exact drop_auto) (hq cs cc ([(b, AObj.row [.int .u32 (aft q), .bool tm] 2 false)] ++ R) ms' mc' G' (hch _ _ rfl) hM')
end
end Go.Proofs.Ytoimfchhmocgeaa.Abs

/- The book in general: Clear, Copy. -/
namespace Go.Proofs.Ytoimfchhmocgeaa.Abs
open Go
set_option linter.unusedVariables false
theorem gs_d {t a b c : Nat × AObj} {C M X R H : Hp} (hp : M.Perm (X ++ R)) : (t :: a :: b :: c :: (C ++ (X ++ (R ++ H)))).Perm (t :: a :: b :: c :: (C ++ (M ++ H))) := by
  have h2 : (X ++ (R ++ H)).Perm (M ++ H) := by
    have := hp.symm.append_right H
    rwa [List.append_assoc] at this
  exact List.Perm.append_left (t :: a :: b :: c :: C) h2
section
variable {B0 : Nat} {old : Nat → Option (List Value)} {n : Nat} {H G CG MG : Hp} {Q : Value → Hp → Prop} {p cb mb cc mc : Nat} {lim win last : Int} {cs ms : List (Kk × Nat × Nat)} {K : Kk} {cl : Kk → Option (Int × Bool)} {mv : Kk → Option (List Int × Bool)}
set_option maxRecDepth 10000
set_option maxHeartbeats 8000000
theorem clear22G_ct (hC : ClG cl cs cc CG) (hM : MvG mv ms mc MG) (hun : moveF (mv K) = false → Q (.int .i64 8) ((p, AObj.row [.int .i64 lim, .int .i64 win, .int .i64 last, .map (some cb), .map (some mb)] 5 false) :: (cb, AObj.map (mkH ekM evP cs) cc) :: (mb, AObj.map (mkH ekM evP ms) mc) :: (CG ++ (MG ++ H))))
    (hQ : ∀ CG' ms' MG', moveF (mv K) = true → ClG (updF cl K ((cl K).map fun q => (q.1, false))) cs cc CG' → MvG (updF mv K none) ms' mc MG' → Q (.int .i64 0) ((p, AObj.row [.int .i64 lim, .int .i64 win, .int .i64 last, .map (some cb), .map (some mb)] 5 false) :: (cb, AObj.map (mkH ekM evP cs) cc) :: (mb, AObj.map (mkH ekM evP ms') mc) :: (CG' ++ (MG' ++ H)))) :
    CallT (cx B0 old) (acall (cx B0 old) ansP (n + 2)) 22 [.pointer (some ⟨p, 0, none⟩), .int .i64 K.bd, .int .u64 K.mac] ((p, AObj.row [.int .i64 lim, .int .i64 win, .int .i64 last, .map (some cb), .map (some mb)] 5 false) :: (cb, AObj.map (mkH ekM evP cs) cc) :: (mb, AObj.map (mkH ekM evP ms) mc) :: (CG ++ (MG ++ H))) Q := by
  refine call_in3 34 rfl Try.func22 rfl rfl ?_
  have hstk := fun {H' : Hp} {Q' : Value → Hp → Prop} => stuck46G_ct (B0 := B0) (old := old) (n := n) (H := H') (Q := Q') (p := p) (cb := cb) (mb := mb) (cc := cc) (lim := lim) (win := win) (last := last) (cs := cs) (K := K) hM
  unfold enK at hstk
  repeat (first | refine Z0 ?_ | (refine ZR ?_; first | refine x1 ?_ | refine x2 ?_ | refine x8 ?_ | refine Z1 ?_ | refine Z2 ?_ | refine x3 fun _ => ?_ | refine x4 fun _ => ?_ | refine x5 fun _ => ?_ | refine Z3 fun _ => ?_ | refine Z4 fun _ => ?_) | refine ZC ?_)
  refine rt_step rfl rfl rfl (st_call rfl rfl rfl rfl (invB45_ct ?_))
  repeat (first | refine Z0 ?_ | (refine ZR ?_; first | refine x1 ?_ | refine x2 ?_ | refine x8 ?_ | refine Z1 ?_ | refine Z2 ?_ | refine x3 fun _ => ?_ | refine x4 fun _ => ?_ | refine x5 fun _ => ?_ | refine Z3 fun _ => ?_ | refine Z4 fun _ => ?_) | refine ZC ?_)
  refine rt_step rfl rfl rfl (st_call rfl rfl rfl rfl (CallT.perm (hstk ?_) gs_a))
  refine RunT.perm ?_ gs_a.symm
  cases hf : moveF (mv K) with
  | false =>
    repeat (first | refine Z0 ?_ | (refine ZR ?_; first | refine x1 ?_ | refine x2 ?_ | refine x8 ?_ | refine Z1 ?_ | refine Z2 ?_ | refine x3 fun _ => ?_ | refine x4 fun _ => ?_ | refine x5 fun _ => ?_ | refine Z3 fun _ => ?_ | refine Z4 fun _ => ?_) | refine ZC ?_)
    exact re_1 rfl rfl (List.sublist_cons_self _ _) (hun hf)
  | true =>
    obtain ⟨a, hka⟩ : ∃ a, mv K = some a := by
      cases hk : mv K with
      | none => rw [hk] at hf; cases hf
      | some a => exact ⟨a, rfl⟩
    obtain ⟨_, Ga, R, _, _, hpm, _, hdl, _⟩ := hM.look hka
    have hlk := lookE_K (C := cx B0 old) (ev := evP) keyMapC cs K false
    rw [ekM_eq] at hlk
    repeat (first | refine Z0 ?_ | (refine ZR ?_; first | refine x1 ?_ | refine x2 ?_ | refine x8 ?_ | refine Z1 ?_ | refine Z2 ?_ | refine x3 fun _ => ?_ | refine x4 fun _ => ?_ | refine x5 fun _ => ?_ | refine Z3 fun _ => ?_ | refine Z4 fun _ => ?_) | refine ZC ?_)
    refine ct_draw (masks := [0, 1, 3, 7, 0, 31]) (plan := [0, 1, 2, 3, 4, 5]) (E := []) (by kernel_rfl) (by kernel_rfl) (by kernel_rfl) (by kernel_rfl) ?_
    repeat (first | refine Y0 ?_ | (refine YP ?_; first | refine y1 ?_ | refine y2 ?_ | refine Y1 ?_ | refine Y2 ?_))
    refine pl_S0 rfl rfl rfl rfl rfl (st_delete rfl rfl (delE_K keyMapM ms K) sw3 ⟨by exact rec_auto, ?_⟩)
    refine PlanT.perm ?_ (gs_d hpm)
    repeat (first | refine Y0 ?_ | (refine YP ?_; first | refine y1 ?_ | refine y2 ?_ | refine Y1 ?_ | refine Y2 ?_))
    repeat (first | refine Z0 ?_ | (refine ZR ?_; first | refine x1 ?_ | refine x2 ?_ | refine x8 ?_ | refine Z1 ?_ | refine Z2 ?_ | refine x3 fun _ => ?_ | refine x4 fun _ => ?_ | refine x5 fun _ => ?_ | refine Z3 fun _ => ?_ | refine Z4 fun _ => ?_) | refine ZC ?_)
    refine ct_draw (masks := [0, 1, 3, 7, 0, 31, 63]) (plan := [0, 1, 2, 3, 4, 5, 6]) (E := []) (by kernel_rfl) (by kernel_rfl) (by kernel_rfl) (by kernel_rfl) ?_
    repeat (first | refine Y0 ?_ | (refine YP ?_; first | refine y1 ?_ | refine y2 ?_ | refine Y1 ?_ | refine Y2 ?_))
    cases hk : cl K with
    | none =>
      rw [hC.lk_none hk] at hlk
      refine pl_R rfl rfl rfl rfl rfl rfl (rd_lookup rfl rfl hm2 hlk) ?_
      repeat (first | refine Y0 ?_ | (refine YP ?_; first | refine y1 ?_ | refine y2 ?_ | refine Y1 ?_ | refine Y2 ?_))
      repeat (first | refine Z0 ?_ | (refine ZR ?_; first | refine x1 ?_ | refine x2 ?_ | refine x8 ?_ | refine Z1 ?_ | refine Z2 ?_ | refine x3 fun _ => ?_ | refine x4 fun _ => ?_ | refine x5 fun _ => ?_ | refine Z3 fun _ => ?_ | refine Z4 fun _ => ?_) | refine ZC ?_)
      have h := hQ CG (delH ms K) R hf (hC.congr fun j => by
        by_cases hj : j = K
        · subst hj; rw [updF_eq, hk]; rfl
        · rw [updF_ne _ _ hj]) hdl
      exact re_1 rfl rfl (by exact drop_auto) h
    | some q =>
      obtain ⟨q, f⟩ := q
      obtain ⟨b, Gb, R2, e, hga, hpm2, hch, _⟩ := hC.look hk
      have hga : Gb = [(b, .row [.int .u32 q, .bool f] 2 false)] := hga
      subst hga
      rw [e] at hlk
      unfold evP at hlk
      simp only [Bool.false_eq_true, if_false] at hlk
      refine pl_R rfl rfl rfl rfl rfl rfl (rd_lookup rfl rfl hm2 hlk) ?_
      refine PlanT.perm ?_ (gb_a hpm2)
      repeat (first | refine Y0 ?_ | (refine YP ?_; first | refine y1 ?_ | refine y2 ?_ | refine Y1 ?_ | refine Y2 ?_))
      repeat (first | refine Z0 ?_ | (refine ZR ?_; first | refine x1 ?_ | refine x2 ?_ | refine x8 ?_ | refine Z1 ?_ | refine Z2 ?_ | refine x3 fun _ => ?_ | refine x4 fun _ => ?_ | refine x5 fun _ => ?_ | refine Z3 fun _ => ?_ | refine Z4 fun _ => ?_) | refine ZC ?_)
      have h := hQ ([(b, AObj.row [.int .u32 q, .bool false] 2 false)] ++ R2) (delH ms K) R hf (by rw [hk]; exact hch (q, false) _ rfl) hdl
      rw [List.append_assoc] at h
      exact re_1 rfl rfl (by exact drop_auto) h
/-- Where the entries of a copied map lie. -/
theorem clone59_ct {L : List Int} {v : Value} (ho : OwnI L v G) (hL : L.length ≤ 2000) (hQ : ∀ v' G', OwnI L v' G' → Q v' (G' ++ (G ++ H))) : CallT (cx B0 old) (acall (cx B0 old) ansP (n + 1)) 59 [v] (G ++ H) Q := by
  refine call_in1 8 rfl Try.func59 rfl rfl ?_
  cases ho with
  | nil =>
    repeat (first | refine Z0 ?_ | (refine ZR ?_; first | refine x1 ?_ | refine x2 ?_ | refine x8 ?_ | refine Z1 ?_ | refine Z2 ?_ | refine x3 fun _ => ?_ | refine x4 fun _ => ?_ | refine x5 fun _ => ?_ | refine Z3 fun _ => ?_ | refine Z4 fun _ => ?_) | refine ZC ?_)
    exact re_1 rfl rfl (List.Sublist.refl _) (hQ _ _ .nil)
  | emp b o =>
    repeat (first | refine Z0 ?_ | (refine ZR ?_; first | refine x1 ?_ | refine x2 ?_ | refine x8 ?_ | refine Z1 ?_ | refine Z2 ?_ | refine x3 fun _ => ?_ | refine x4 fun _ => ?_ | refine x5 fun _ => ?_ | refine Z3 fun _ => ?_ | refine Z4 fun _ => ?_) | refine ZC ?_)
    rename_i b2
    refine rt_step rfl rfl rfl (st_appE (M := []) (pre := []) (b := b2) (H0 := [(b, o)] ++ H) rfl rfl (ap rfl) .nil (by decide) fun v' G' o' => ?_)
    obtain ⟨ad2, c2, e2, _⟩ := o'.own.arrW (C := cx B0 old) enV_len
    subst e2
    repeat (first | refine Z0 ?_ | (refine ZR ?_; first | refine x1 ?_ | refine x2 ?_ | refine x8 ?_ | refine Z1 ?_ | refine Z2 ?_ | refine x3 fun _ => ?_ | refine x4 fun _ => ?_ | refine x5 fun _ => ?_ | refine Z3 fun _ => ?_ | refine Z4 fun _ => ?_) | refine ZC ?_)
    exact re_1 rfl rfl (List.Sublist.refl _) (hQ _ G' o')
  | el _ b es junk =>
    have hw := (OwnI.el L b es junk).own.arrW (C := cx B0 old) enV_len
    obtain ⟨ad1, c1, e1, g1⟩ := hw
    cases e1
    repeat (first | refine Z0 ?_ | (refine ZR ?_; first | refine x1 ?_ | refine x2 ?_ | refine x8 ?_ | refine Z1 ?_ | refine Z2 ?_ | refine x3 fun _ => ?_ | refine x4 fun _ => ?_ | refine x5 fun _ => ?_ | refine Z3 fun _ => ?_ | refine Z4 fun _ => ?_) | refine ZC ?_)
    rename_i b2
    refine rt_step rfl rfl rfl (st_appE (M := L) (pre := []) (b := b2) (H0 := [(b, AObj.row (L.flatMap enV ++ junk) es true)] ++ H) rfl rfl (ap rfl) (g1 [_] H) (Nat.le_trans (Nat.mul_le_mul_right _ (show 2 * (0 + L.length) + 192 ≤ 6000 by omega)) (by decide)) fun v' G' o' => ?_)
    obtain ⟨ad2, c2, e2, _⟩ := o'.own.arrW (C := cx B0 old) enV_len
    subst e2
    repeat (first | refine Z0 ?_ | (refine ZR ?_; first | refine x1 ?_ | refine x2 ?_ | refine x8 ?_ | refine Z1 ?_ | refine Z2 ?_ | refine x3 fun _ => ?_ | refine x4 fun _ => ?_ | refine x5 fun _ => ?_ | refine Z3 fun _ => ?_ | refine Z4 fun _ => ?_) | refine ZC ?_)
    exact re_1 rfl rfl (List.Sublist.refl _) (hQ _ G' o')
end
end Go.Proofs.Ytoimfchhmocgeaa.Abs

/- The book in general: Copy. -/
namespace Go.Proofs.Ytoimfchhmocgeaa.Abs
open Go
set_option linter.unusedVariables false
/-- Parts of memory in another order. -/
theorem pmF (f : Nat → Hp) {a b : List Nat} {H : Hp} (h : a.Perm b) : (a.foldr (fun i t => f i ++ t) H).Perm (b.foldr (fun i t => f i ++ t) H) := by
  induction h with
  | nil => exact List.Perm.refl _
  | cons x _ ih => exact List.Perm.append_left (f x) ih
  | swap x y l => exact List.perm_append_comm_assoc (f y) (f x) _
  | trans _ _ ih1 ih2 => exact ih1.trans ih2
theorem cp_1 {a b c d e f g : Nat × AObj} {M C2 C H : Hp} : (a :: b :: c :: d :: e :: f :: g :: (M ++ (C2 ++ (C ++ H)))).Perm (a :: b :: c :: d :: e :: f :: g :: (C2 ++ (C ++ (M ++ H)))) :=
  pmF (fun i => match i with | 0 => [a, b, c, d, e, f, g] | 1 => M | 2 => C2 | _ => C) (a := [0, 1, 2, 3]) (b := [0, 2, 3, 1]) (by decide)
theorem cp_2 {i m2 c2 q p c m : Nat × AObj} {M2 M C2 C H : Hp} : (i :: q :: c2 :: m2 :: (C2 ++ (M2 ++ (p :: c :: m :: (C ++ (M ++ H)))))).Perm (i :: m2 :: c2 :: q :: p :: c :: m :: (M2 ++ (M ++ (C2 ++ (C ++ H))))) :=
  pmF (fun j => match j with | 0 => [i] | 1 => [m2] | 2 => [c2] | 3 => [q] | 4 => [p, c, m] | 5 => M2 | 6 => M | 7 => C2 | _ => C) (a := [0, 3, 2, 1, 7, 5, 4, 8, 6]) (b := [0, 1, 2, 3, 4, 5, 6, 7, 8]) (by decide)
theorem cp_3 {t i m2 c2 q p c m x : Nat × AObj} {V R M2 M C2 C H : Hp} (hp : M.Perm ((x :: V) ++ R)) : (V ++ (t :: i :: m2 :: c2 :: q :: p :: c :: m :: x :: (M2 ++ (R ++ (C2 ++ (C ++ H)))))).Perm (t :: i :: m2 :: c2 :: q :: p :: c :: m :: (M2 ++ (M ++ (C2 ++ (C ++ H))))) := by
  have h1 : (t :: i :: m2 :: c2 :: q :: p :: c :: m :: (M2 ++ (M ++ (C2 ++ (C ++ H))))).Perm (t :: i :: m2 :: c2 :: q :: p :: c :: m :: (M2 ++ ((x :: V) ++ (R ++ (C2 ++ (C ++ H)))))) := by
    refine List.Perm.append_left (t :: i :: m2 :: c2 :: q :: p :: c :: m :: M2) ?_
    have := hp.append_right (C2 ++ (C ++ H))
    rwa [List.append_assoc] at this
  refine List.Perm.trans ?_ h1.symm
  exact pmF (fun j => match j with | 0 => [t, i, m2, c2, q, p, c, m] | 1 => [x] | 2 => V | 3 => M2 | _ => R) (a := [2, 0, 1, 3, 4]) (b := [0, 3, 1, 2, 4]) (by decide)
theorem cp_4 {t i m2 c2 q p c m x : Nat × AObj} {W V Z : Hp} : (t :: i :: m2 :: c2 :: q :: p :: c :: m :: x :: (W ++ (V ++ Z))).Perm (W ++ (V ++ (t :: i :: m2 :: c2 :: q :: p :: c :: m :: x :: Z))) :=
  pmF (fun j => match j with | 0 => [t, i, m2, c2, q, p, c, m, x] | 1 => W | _ => V) (a := [0, 1, 2]) (b := [1, 2, 0]) (by decide)
theorem cp_5 {y t i m2 c2 q p c m x : Nat × AObj} {W V R M2 M C2 C H : Hp} (hp : M.Perm ((x :: V) ++ R)) : (t :: i :: m2 :: c2 :: q :: p :: c :: m :: (y :: (W ++ (M2 ++ (M ++ (C2 ++ (C ++ H))))))).Perm (y :: t :: i :: m2 :: c2 :: q :: p :: c :: m :: x :: (W ++ (V ++ (M2 ++ (R ++ (C2 ++ (C ++ H))))))) := by
  have h1 : (t :: i :: m2 :: c2 :: q :: p :: c :: m :: (y :: (W ++ (M2 ++ (M ++ (C2 ++ (C ++ H))))))).Perm (t :: i :: m2 :: c2 :: q :: p :: c :: m :: (y :: (W ++ (M2 ++ ((x :: V) ++ (R ++ (C2 ++ (C ++ H)))))))) := by
    refine List.Perm.append_left [t, i, m2, c2, q, p, c, m, y] (List.Perm.append_left W (List.Perm.append_left M2 ?_))
    have := hp.append_right (C2 ++ (C ++ H))
    rwa [List.append_assoc] at this
  refine h1.trans ?_
  exact pmF (fun j => match j with | 0 => [t, i, m2, c2, q, p, c, m] | 1 => [y] | 2 => W | 3 => M2 | 4 => [x] | 5 => V | _ => R) (a := [0, 1, 2, 3, 4, 5, 6]) (b := [1, 0, 4, 2, 5, 3, 6]) (by decide)
section
variable {B0 : Nat} {old : Nat → Option (List Value)} {n : Nat} {H CG MG : Hp} {Q : Value → Hp → Prop} {p cb mb cc mc : Nat} {lim win last : Int} {cs ms : List (Kk × Nat × Nat)} {cl : Kk → Option (Int × Bool)} {mv : Kk → Option (List Int × Bool)}
set_option maxRecDepth 10000
set_option maxHeartbeats 16000000
theorem copy33G_ct (hC : ClG cl cs cc CG) (hM : MvG mv ms mc MG) (hl : ∀ k, lenM (mv k) ≤ 2000)
    (hQ : ∀ p2 cb2 mb2 cs2 cc2 CG2 ms2 mc2 MG2, ClG cl cs2 cc2 CG2 → MvG mv ms2 mc2 MG2 → Q (.pointer (some ⟨p2, 0, none⟩))
      (((p2, AObj.row [.int .i64 lim, .int .i64 win, .int .i64 last, .map (some cb2), .map (some mb2)] 5 false) :: (cb2, AObj.map (mkH ekM evP cs2) cc2) :: (mb2, AObj.map (mkH ekM evP ms2) mc2) :: (CG2 ++ (MG2 ++ ((p, AObj.row [.int .i64 lim, .int .i64 win, .int .i64 last, .map (some cb), .map (some mb)] 5 false) :: (cb, AObj.map (mkH ekM evP cs) cc) :: (mb, AObj.map (mkH ekM evP ms) mc) :: (CG ++ (MG ++ H)))))))) :
    CallT (cx B0 old) (acall (cx B0 old) ansP (n + 2)) 33 [.pointer (some ⟨p, 0, none⟩)] ((p, AObj.row [.int .i64 lim, .int .i64 win, .int .i64 last, .map (some cb), .map (some mb)] 5 false) :: (cb, AObj.map (mkH ekM evP cs) cc) :: (mb, AObj.map (mkH ekM evP ms) mc) :: (CG ++ (MG ++ H))) Q := by
  refine call_in1 58 rfl Try.func33 rfl rfl ?_
  repeat (first | refine Z0 ?_ | (refine ZR ?_; first | refine x1 ?_ | refine x2 ?_ | refine x8 ?_ | refine Z1 ?_ | refine Z2 ?_ | refine x3 fun _ => ?_ | refine x4 fun _ => ?_ | refine x5 fun _ => ?_ | refine Z3 fun _ => ?_ | refine Z4 fun _ => ?_) | refine ZC ?_)
  refine rt_step rfl rfl rfl (st_call rfl rfl rfl rfl (invB45_ct ?_))
  repeat (first | refine Z0 ?_ | (refine ZR ?_; first | refine x1 ?_ | refine x2 ?_ | refine x8 ?_ | refine Z1 ?_ | refine Z2 ?_ | refine x3 fun _ => ?_ | refine x4 fun _ => ?_ | refine x5 fun _ => ?_ | refine Z3 fun _ => ?_ | refine Z4 fun _ => ?_) | refine ZC ?_)
  rename_i p2 cb2 mb2
  refine rt_step rfl rfl rfl (st_range rfl hm4 rfl fun it => ?_)
  repeat (first | refine Z0 ?_ | (refine ZR ?_; first | refine x1 ?_ | refine x2 ?_ | refine x8 ?_ | refine Z1 ?_ | refine Z2 ?_ | refine x3 fun _ => ?_ | refine x4 fun _ => ?_ | refine x5 fun _ => ?_ | refine Z3 fun _ => ?_ | refine Z4 fun _ => ?_) | refine ZC ?_)
  refine ct_midB (ι := List (Kk × Nat × Nat) × Nat × Hp) (fun j => ClG cl j.1 j.2.1 j.2.2) (fun _ => [(3, .pointer (some ⟨p2, 0, none⟩)), (0, .pointer (some ⟨p, 0, none⟩))])
    (fun j => (mb2, AObj.map (mkH ekM evP []) 0) :: (cb2, AObj.map (mkH ekM evP j.1) j.2.1) :: (p2, AObj.row [.int .i64 lim, .int .i64 win, .int .i64 last, .map (some cb2), .map (some mb2)] 5 false) :: ((p, AObj.row [.int .i64 lim, .int .i64 win, .int .i64 last, .map (some cb), .map (some mb)] 5 false) :: (cb, AObj.map (mkH ekM evP cs) cc) :: (mb, AObj.map (mkH ekM evP ms) mc) :: (j.2.2 ++ (CG ++ (MG ++ H))))) ?_ ?_
  · refine loop_ind (ι := List Kk × List Nat × List (Kk × Nat × Nat) × Nat × Hp) ([], [], [], 0, []) (fun j => ((cs.map (·.1)).filter fun k => decide (k ∉ j.1)).length) (fun j => ClG (fun k => if k ∈ j.1 then cl k else none) j.2.2.1 j.2.2.2.1 j.2.2.2.2 ∧ Seen cs j.1 j.2.1)
      (fun j => [(22, .pointer (some ⟨it, 0, none⟩)), (3, .pointer (some ⟨p2, 0, none⟩)), (0, .pointer (some ⟨p, 0, none⟩))])
      (fun j => (it, .iter (some cb) cc j.2.1 cc) :: (mb2, AObj.map (mkH ekM evP []) 0) :: (cb2, AObj.map (mkH ekM evP j.2.2.1) j.2.2.2.1) :: (p2, AObj.row [.int .i64 lim, .int .i64 win, .int .i64 last, .map (some cb2), .map (some mb2)] 5 false) :: ((p, AObj.row [.int .i64 lim, .int .i64 win, .int .i64 last, .map (some cb), .map (some mb)] 5 false) :: (cb, AObj.map (mkH ekM evP cs) cc) :: (mb, AObj.map (mkH ekM evP ms) mc) :: (j.2.2.2.2 ++ (CG ++ (MG ++ H)))))
      ⟨(MpI.nil 0).congr fun k => (if_neg (fun h => by cases h)).symm, Seen.nil _⟩ (by repeat (first | exact SubL.nil | refine SubL.cons rfl ?_)) (List.Sublist.refl _) ?_
    rintro ⟨vk, vs, cs2, cc2, CG2⟩ ⟨hI, hsn⟩
    dsimp only at hI hsn ⊢
    repeat (first | refine Z0 ?_ | (refine ZR ?_; first | refine x1 ?_ | refine x2 ?_ | refine x8 ?_ | refine Z1 ?_ | refine Z2 ?_ | refine x3 fun _ => ?_ | refine x4 fun _ => ?_ | refine x5 fun _ => ?_ | refine Z3 fun _ => ?_ | refine Z4 fun _ => ?_) | refine ZC ?_)
    refine rt_step rfl rfl rfl (st_nextH rfl hm4 hC.born (fun hall => ?_) (fun q hq hnq => ?_))
    · repeat (first | refine Z0 ?_ | (refine ZR ?_; first | refine x1 ?_ | refine x2 ?_ | refine x8 ?_ | refine Z1 ?_ | refine Z2 ?_ | refine x3 fun _ => ?_ | refine x4 fun _ => ?_ | refine x5 fun _ => ?_ | refine Z3 fun _ => ?_ | refine Z4 fun _ => ?_) | refine ZC ?_)
      refine ⟨(cs2, cc2, CG2), hI.congr fun k => ?_, by repeat (first | exact SubL.nil | refine SubL.cons rfl ?_), by exact drop_auto⟩
      by_cases hv : k ∈ vk
      · rw [if_pos hv]
      · rw [if_neg hv]
        cases hck : cl k with
        | none => rfl
        | some a =>
          obtain ⟨b, m, hm⟩ := hC.dom k a hck
          exact absurd ((hsn _ hm).1 (hall _ hm)) hv
    obtain ⟨k, b, bo⟩ := q
    dsimp only at hnq ⊢
    have hkv : k ∉ vk := fun h => hnq ((hsn _ hq).2 h)
    obtain ⟨⟨sq, f⟩, hck⟩ := hC.mem hq
    have hdec := flt_dec (L := cs.map (·.1)) (List.mem_map.2 ⟨_, hq, rfl⟩) hkv
    have hsn2 := hsn.cons hC.born hC.uq hq
    obtain ⟨b2, Ga, R, hb2, hga, hpm, _⟩ := hC.look hck
    obtain rfl : b2 = b := Option.some.inj (hb2.symm.trans (hC.uq.lkH hq))
    have hga : Ga = [(b2, .row [.int .u32 sq, .bool f] 2 false)] := hga
    subst hga
    have hbm : (b2, AObj.row [.int .u32 sq, .bool f] 2 false) ∈ CG := hpm.mem_iff.2 (List.Mem.head _)
    have hL0 : ∀ H', (CG ++ (MG ++ H)).Sublist H' → LdT (cx B0 old) 94 H' b2 0 (.agg ⟨[.int .u32 sq, .bool f]⟩) := fun H' hs => ldW (.own _ _ (hs.subset (List.mem_append_left _ hbm))) rfl (sz rfl) rfl
    rw [ekM_eq, evP_eq]
    repeat (first | refine Z0 ?_ | (refine ZR ?_; first | refine x1 ?_ | refine x2 ?_ | refine x8 ?_ | refine Z1 ?_ | refine Z2 ?_ | refine x3 fun _ => ?_ | refine x4 fun _ => ?_ | refine x5 fun _ => ?_ | refine Z3 fun _ => ?_ | refine Z4 fun _ => ?_) | refine ZC ?_)
    refine rt_r rfl rfl rfl (rd_entryH (vs := vs) (p := (k, b2, bo)) rfl hm0 hm5 hC.born hq) ?_
    dsimp only
    rw [ekM_eq, evP_eq]
    repeat (first | refine Z0 ?_ | (refine ZR ?_; first | refine x1 ?_ | refine x2 ?_ | refine x8 ?_ | refine Z1 ?_ | refine Z2 ?_ | refine x3 fun _ => ?_ | refine x4 fun _ => ?_ | refine x5 fun _ => ?_ | refine Z3 fun _ => ?_ | refine Z4 fun _ => ?_) | refine ZC ?_)
    rename_i b6
    refine rt_step0 rfl rfl (st_update rfl rfl rfl (updE_K keyMapC cs2 cc2 k b6) sw4 ?_)
    have hnew := hI.new (k := k) (if_neg hkv) (b' := b6) (show PCl b6 (sq, f) [(b6, AObj.row [.int .u32 sq, .bool f] 2 false)] from rfl)
    generalize updH cs2 cc2 k b6 = cs3 at *
    generalize updC cs2 cc2 k = cc3 at *
    refine RunT.perm ?_ (List.perm_middle (l₁ := [_, _, _, _, _, _, _, _]))
    repeat (first | refine Z0 ?_ | (refine ZR ?_; first | refine x1 ?_ | refine x2 ?_ | refine x8 ?_ | refine Z1 ?_ | refine Z2 ?_ | refine x3 fun _ => ?_ | refine x4 fun _ => ?_ | refine x5 fun _ => ?_ | refine Z3 fun _ => ?_ | refine Z4 fun _ => ?_) | refine ZC ?_)
    exact ⟨(k :: vk, vs ++ [bo], cs3, cc3, [(b6, AObj.row [.int .u32 sq, .bool f] 2 false)] ++ CG2), ⟨hnew.congr fun j => by
      by_cases hj : j = k
      · subst hj
        rw [updF_eq, if_pos (List.mem_cons_self ..), hck]
      · rw [updF_ne _ _ hj]
        have : (j ∈ k :: vk) ↔ (j ∈ vk) := by simp [hj]
        simp only [this], hsn2⟩, hdec, by repeat (first | exact SubL.nil | refine SubL.cons rfl ?_), by exact drop_auto⟩
  rintro ⟨cs2, cc2, CG2⟩ hC2
  dsimp only at hC2 ⊢
  repeat (first | refine Z0 ?_ | (refine ZR ?_; first | refine x1 ?_ | refine x2 ?_ | refine x8 ?_ | refine Z1 ?_ | refine Z2 ?_ | refine x3 fun _ => ?_ | refine x4 fun _ => ?_ | refine x5 fun _ => ?_ | refine Z3 fun _ => ?_ | refine Z4 fun _ => ?_) | refine ZC ?_)
  refine rt_step rfl rfl rfl (st_range rfl hm5 rfl fun it2 => ?_)
  repeat (first | refine Z0 ?_ | (refine ZR ?_; first | refine x1 ?_ | refine x2 ?_ | refine x8 ?_ | refine Z1 ?_ | refine Z2 ?_ | refine x3 fun _ => ?_ | refine x4 fun _ => ?_ | refine x5 fun _ => ?_ | refine Z3 fun _ => ?_ | refine Z4 fun _ => ?_) | refine ZC ?_)
  refine CodeT.perm ?_ cp_1
  refine loop_ind (ι := List Kk × List Nat × List (Kk × Nat × Nat) × Nat × Hp) ([], [], [], 0, []) (fun j => ((ms.map (·.1)).filter fun k => decide (k ∉ j.1)).length) (fun j => MvG (fun k => if k ∈ j.1 then mv k else none) j.2.2.1 j.2.2.2.1 j.2.2.2.2 ∧ Seen ms j.1 j.2.1)
    (fun j => [(38, .pointer (some ⟨it2, 0, none⟩)), (3, .pointer (some ⟨p2, 0, none⟩)), (0, .pointer (some ⟨p, 0, none⟩))])
    (fun j => (it2, .iter (some mb) mc j.2.1 mc) :: (mb2, AObj.map (mkH ekM evP j.2.2.1) j.2.2.2.1) :: (cb2, AObj.map (mkH ekM evP cs2) cc2) :: (p2, AObj.row [.int .i64 lim, .int .i64 win, .int .i64 last, .map (some cb2), .map (some mb2)] 5 false) :: ((p, AObj.row [.int .i64 lim, .int .i64 win, .int .i64 last, .map (some cb), .map (some mb)] 5 false) :: (cb, AObj.map (mkH ekM evP cs) cc) :: (mb, AObj.map (mkH ekM evP ms) mc) :: (j.2.2.2.2 ++ (MG ++ (CG2 ++ (CG ++ H))))))
    ⟨(MpI.nil 0).congr fun k => (if_neg (fun h => by cases h)).symm, Seen.nil _⟩ (by repeat (first | exact SubL.nil | refine SubL.cons rfl ?_)) (List.Sublist.refl _) ?_
  rintro ⟨vk, vs, ms2, mc2, MG2⟩ ⟨hI, hsn⟩
  dsimp only at hI hsn ⊢
  repeat (first | refine Z0 ?_ | (refine ZR ?_; first | refine x1 ?_ | refine x2 ?_ | refine x8 ?_ | refine Z1 ?_ | refine Z2 ?_ | refine x3 fun _ => ?_ | refine x4 fun _ => ?_ | refine x5 fun _ => ?_ | refine Z3 fun _ => ?_ | refine Z4 fun _ => ?_) | refine ZC ?_)
  refine rt_step rfl rfl rfl (st_nextH rfl hm5 hM.born (fun hall => ?_) (fun q hq hnq => ?_))
  · refine RunT.perm ?_ cp_2
    repeat (first | refine Z0 ?_ | (refine ZR ?_; first | refine x1 ?_ | refine x2 ?_ | refine x8 ?_ | refine Z1 ?_ | refine Z2 ?_ | refine x3 fun _ => ?_ | refine x4 fun _ => ?_ | refine x5 fun _ => ?_ | refine Z3 fun _ => ?_ | refine Z4 fun _ => ?_) | refine ZC ?_)
    have hfin : MvG mv ms2 mc2 MG2 := hI.congr fun k => by
      by_cases hv : k ∈ vk
      · rw [if_pos hv]
      · rw [if_neg hv]
        cases hck : mv k with
        | none => rfl
        | some a =>
          obtain ⟨b, m, hm⟩ := hM.dom k a hck
          exact absurd ((hsn _ hm).1 (hall _ hm)) hv
    have h := hQ p2 cb2 mb2 cs2 cc2 CG2 ms2 mc2 MG2 hC2 hfin
    exact re_1 rfl rfl (List.sublist_cons_self _ _) h
  obtain ⟨k, b, bo⟩ := q
  dsimp only at hnq ⊢
  have hkv : k ∉ vk := fun h => hnq ((hsn _ hq).2 h)
  obtain ⟨⟨L, f⟩, hck⟩ := hM.mem hq
  have hdec := flt_dec (L := ms.map (·.1)) (List.mem_map.2 ⟨_, hq, rfl⟩) hkv
  have hsn2 := hsn.cons hM.born hM.uq hq
  obtain ⟨b2, Ga, R, hb2, ⟨v, Gv, ho, rfl⟩, hpm, _⟩ := hM.look hck
  obtain rfl : b2 = b := Option.some.inj (hb2.symm.trans (hM.uq.lkH hq))
  dsimp only at ho hpm
  have hlL : L.length ≤ 2000 := by
    have := hl k
    rw [hck] at this
    exact this
  have hbm : (b2, AObj.row [v, .bool f] 2 false) ∈ MG := hpm.mem_iff.2 (List.Mem.head _)
  obtain ⟨adv, cv, ev, _⟩ := ho.own.arrW (C := cx B0 old) enV_len
  subst ev
  have hL0 : ∀ H', (MG ++ (CG2 ++ (CG ++ H))).Sublist H' → LdT (cx B0 old) 62 H' b2 0 (.slice adv L.length cv) := fun H' hs => ld1 (.own _ _ (hs.subset (List.mem_append_left _ hbm))) rfl (sz rfl) rfl
  have hL1 : ∀ H', (MG ++ (CG2 ++ (CG ++ H))).Sublist H' → LdT (cx B0 old) 4 H' b2 1 (.bool f) := fun H' hs => ld1 (.own _ _ (hs.subset (List.mem_append_left _ hbm))) rfl (sz rfl) rfl
  rw [ekM_eq, evP_eq]
  repeat (first | refine Z0 ?_ | (refine ZR ?_; first | refine x1 ?_ | refine x2 ?_ | refine x8 ?_ | refine Z1 ?_ | refine Z2 ?_ | refine x3 fun _ => ?_ | refine x4 fun _ => ?_ | refine x5 fun _ => ?_ | refine Z3 fun _ => ?_ | refine Z4 fun _ => ?_) | refine ZC ?_)
  refine rt_r rfl rfl rfl (rd_entryH (vs := vs) (p := (k, b2, bo)) rfl hm0 hm6 hM.born hq) ?_
  dsimp only
  rw [ekM_eq, evP_eq]
  repeat (first | refine Z0 ?_ | (refine ZR ?_; first | refine x1 ?_ | refine x2 ?_ | refine x8 ?_ | refine Z1 ?_ | refine Z2 ?_ | refine x3 fun _ => ?_ | refine x4 fun _ => ?_ | refine x5 fun _ => ?_ | refine Z3 fun _ => ?_ | refine Z4 fun _ => ?_) | refine ZC ?_)
  refine ct_draw (masks := [0, 1, 0, 0, 8, 24, 56, 120, 0, 256, 768, 1792, 4088, 8184, 16383]) (plan := [0, 1, 2, 3, 4, 5, 6, 8, 9, 10, 11, 7, 12, 13, 14]) (E := []) (by kernel_rfl) (by kernel_rfl) (by kernel_rfl) (by kernel_rfl) ?_
  repeat (first | refine Y0 ?_ | (refine YP ?_; first | refine y1 ?_ | refine y2 ?_ | refine Y1 ?_ | refine Y2 ?_))
  refine PlanT.perm ?_ (cp_3 hpm)
  clear hL0 hL1
  refine pl_S rfl rfl rfl rfl rfl rfl (st_call rfl rfl rfl rfl (clone59_ct ho hlL fun v' G' o' => ⟨by exact rec_auto, ?_⟩))
  refine PlanT.perm ?_ cp_4
  obtain ⟨ad2, c2, e2, _⟩ := o'.own.arrW (C := cx B0 old) enV_len
  subst e2
  repeat (first | refine Y0 ?_ | (refine YP ?_; first | refine y1 ?_ | refine y2 ?_ | refine Y1 ?_ | refine Y2 ?_))
  refine pl_S rfl rfl rfl rfl rfl rfl (st_box rfl (sz rfl) rfl rfl fun b7 => ⟨by exact rec_auto, ?_⟩)
  repeat (first | refine Y0 ?_ | (refine YP ?_; first | refine y1 ?_ | refine y2 ?_ | refine Y1 ?_ | refine Y2 ?_))
  refine pl_S0 rfl rfl rfl rfl rfl (st_update rfl rfl rfl (updE_K keyMapM ms2 mc2 k b7) sw3 ⟨by exact rec_auto, ?_⟩)
  have hnew := hI.new (k := k) (if_neg hkv) (b' := b7) (show PMv b7 (L, f) ((b7, AObj.row [.slice ad2 L.length c2, .bool f] 2 false) :: G') from ⟨_, _, o', rfl⟩)
  generalize updH ms2 mc2 k b7 = ms3 at *
  generalize updC ms2 mc2 k = mc3 at *
  refine PlanT.perm ?_ (cp_5 hpm)
  repeat (first | refine Y0 ?_ | (refine YP ?_; first | refine y1 ?_ | refine y2 ?_ | refine Y1 ?_ | refine Y2 ?_))
  repeat (first | refine Z0 ?_ | (refine ZR ?_; first | refine x1 ?_ | refine x2 ?_ | refine x8 ?_ | refine Z1 ?_ | refine Z2 ?_ | refine x3 fun _ => ?_ | refine x4 fun _ => ?_ | refine x5 fun _ => ?_ | refine Z3 fun _ => ?_ | refine Z4 fun _ => ?_) | refine ZC ?_)
  exact ⟨(k :: vk, vs ++ [bo], ms3, mc3, ((b7, AObj.row [.slice ad2 L.length c2, .bool f] 2 false) :: G') ++ MG2), ⟨hnew.congr fun j => by
    by_cases hj : j = k
    · subst hj
      rw [updF_eq, if_pos (List.mem_cons_self ..), hck]
    · rw [updF_ne _ _ hj]
      have : (j ∈ k :: vk) ↔ (j ∈ vk) := by simp [hj]
      simp only [this], hsn2⟩, hdec, by repeat (first | exact SubL.nil | refine SubL.cons rfl ?_), (by dsimp only; rw [List.append_assoc]; exact drop_auto)⟩
end
end Go.Proofs.Ytoimfchhmocgeaa.Abs
