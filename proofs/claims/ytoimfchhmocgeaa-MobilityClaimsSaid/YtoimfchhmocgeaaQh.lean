/- The book in general: Settle. -/
import Derived.Test.YtoimfchhmocgeaaQg
import Derived.Test.YtoimfchhmocgeaaQl
import Derived.Test.YtoimfchhmocgeaaQp
namespace Go.Proofs.Ytoimfchhmocgeaa.Abs
open Go
set_option linter.unusedVariables false
def rvOf (B : List S27) (k : Kk) : S27 := match B.find? fun r => decide (kR r = k) with
  | some r => r
  | none => stR0
/-- What the rules make of an address. -/
def resK (lim win self now : Int) (cl : Kk → Option (Int × Bool)) (mv : Kk → Option (List Int × Bool)) (B : List S27) (k : Kk) : BkS := rule0 lim win self now (cl k) (clM win now (mv k)) (rvOf B k)
theorem updF_upd {α : Type} (s : Kk → Option α) (k : Kk) (a b : Option α) : updF (updF s k a) k b = updF s k b := funext fun j => by
  unfold updF
  split <;> rfl
theorem updF_self {α : Type} (s : Kk → Option α) (k : Kk) : updF s k (s k) = s := funext fun j => by
  unfold updF
  split
  · rename_i h; rw [h]
  · rfl
theorem srt_not {ks : List Kk} {i : Nat} {k : Kk} (h : SrtR ks) (hk : ks[i]? = some k) : k ∉ ks.take i := fun hm => by
  obtain ⟨j, hj⟩ := List.mem_iff_getElem?.1 hm
  have hjl := (List.getElem?_eq_some_iff.1 hj).1
  rw [List.length_take] at hjl
  rw [List.getElem?_take_of_lt (by omega)] at hj
  have hil := (List.getElem?_eq_some_iff.1 hk).1
  have := List.pairwise_iff_getElem.1 h j i (by rw [List.length_map]; omega) (by rw [List.length_map]; omega) (by omega)
  rw [List.getElem_map, List.getElem_map] at this
  obtain ⟨_, e1⟩ := List.getElem?_eq_some_iff.1 hj
  obtain ⟨_, e2⟩ := List.getElem?_eq_some_iff.1 hk
  rw [e1, e2] at this
  omega
theorem find_take {B : List S27} {i : Nat} {r : S27} (h : SrtR (B.map kR)) (hr : B[i]? = some r) (k : Kk) : (B.take (i + 1)).find? (fun r => decide (kR r = k)) = if k = kR r then some r else (B.take i).find? fun r => decide (kR r = k) := by
  have htk : B.take (i + 1) = B.take i ++ [r] := by rw [List.take_add_one, hr]; rfl
  rw [htk, List.find?_append]
  by_cases hk : k = kR r
  · rw [if_pos hk]
    have hno : (B.take i).find? (fun r => decide (kR r = k)) = none := by
      rw [List.find?_eq_none]
      intro x hx he
      have he := of_decide_eq_true he
      have hn := srt_not (k := kR r) h (by rw [List.getElem?_map, hr]; rfl)
      rw [← List.map_take] at hn
      exact hn (by rw [← hk, ← he]; exact List.mem_map_of_mem hx)
    rw [hno, List.find?_cons_of_pos (by simp [hk])]
    rfl
  · rw [if_neg hk, List.find?_cons_of_neg (by simpa using fun e => hk e.symm)]
    simp
theorem gb_f {a b c x y : Nat × AObj} {C M H : Hp} : (a :: b :: c :: (C ++ (M ++ (x :: y :: H)))).Perm (x :: y :: a :: b :: c :: (C ++ (M ++ H))) := mvF (A := [a, b, c]) (D := [x, y])
theorem gb_g {s a b c x t : Nat × AObj} {C M V Y : Hp} : (s :: (V ++ (a :: b :: c :: (C ++ (M ++ (x :: t :: Y)))))).Perm (s :: a :: b :: c :: (C ++ (M ++ (x :: t :: (V ++ Y))))) := by
  have := List.perm_append_comm_assoc V ([a, b, c] ++ (C ++ (M ++ [x, t]))) Y
  refine List.Perm.cons s ?_
  simpa [List.append_assoc] using this
theorem gb_h {a b c : Nat × AObj} {C M V Y : Hp} : (V ++ (a :: b :: c :: (C ++ (M ++ Y)))).Perm (a :: b :: c :: (C ++ (M ++ (V ++ Y)))) := by
  have := List.perm_append_comm_assoc V ([a, b, c] ++ (C ++ M)) Y
  simpa [List.append_assoc] using this
section
variable {B0 : Nat} {old : Nat → Option (List Value)} {n : Nat} {H CG MG : Hp} {Q : Value → Hp → Prop} {p cb mb cc mc : Nat} {lim win last : Int} {cs ms : List (Kk × Nat × Nat)} {cl : Kk → Option (Int × Bool)} {mv : Kk → Option (List Int × Bool)}
set_option maxRecDepth 10000
set_option maxHeartbeats 32000000
theorem ClG.lookV (h : ClG cl cs cc CG) (K : Kk) : ∃ b0, (∀ q, cl K = some q → lkH cs K = some b0) ∧ lookE (cx B0 old) 82 (mkH ekM evP cs) (ekM K) false = some (clV (cl K) b0) := by
  have hlk := lookE_K (C := cx B0 old) (ev := evP) keyMapC cs K false
  cases hk : cl K with
  | none =>
    rw [h.lk_none hk] at hlk
    exact ⟨0, fun q e => (by cases e), hlk⟩
  | some q =>
    obtain ⟨b, Ga, R0, e, _⟩ := h.look hk
    rw [e] at hlk
    exact ⟨b, fun q e => (by assumption), hlk⟩
theorem rvLookG {hs : List (Kk × S27 × Nat)} {B : List S27} (h : ∀ k, lkH hs k = B.find? fun r => decide (kR r = k)) (K : Kk) : lookE (cx B0 old) 104 (mkH ekM evR hs) (ekM K) false = some (.agg ⟨en27 (rvOf B K)⟩) := by
  refine (lookE_K (C := cx B0 old) (ev := evR) keyMapR hs K false).trans ?_
  rw [h K]
  unfold rvOf
  cases B.find? (fun r => decide (kR r = K)) <;> rfl
theorem settle21G_ct (hC : ClG cl cs cc CG) (hM : MvG mv ms mc MG) (hl : ∀ k, lenM (mv k) ≤ 2000) (self now : Int) (hck : chkT last now = 0) (hwn : 0 ≤ win ∧ win ≤ 100000) {A : List N59} {B : List S27} (hA1 : A.length ≤ 1000) (hB1 : B.length ≤ 1000)
    (hwA : ∀ x ∈ A, okK (kN x)) (hwB : ∀ x ∈ B, okK (kR x)) {adn adr : Option Addr} {cn cr : Nat} (hn : Arr (cx B0 old) H adn 6 en59 A) (hrv : Arr (cx B0 old) H adr 5 en27 B)
    (hbad : ¬ (SrtR (A.map kN) ∧ SrtR (B.map kR)) → Q (.tuple #[.slice none 0 0, .int .i64 10]) ((p, AObj.row [.int .i64 lim, .int .i64 win, .int .i64 last, .map (some cb), .map (some mb)] 5 false) :: (cb, AObj.map (mkH ekM evP cs) cc) :: (mb, AObj.map (mkH ekM evP ms) mc) :: (CG ++ (MG ++ H))))
    (hQ : SrtR (A.map kN) → SrtR (B.map kR) → ∀ v G cs' cc' CG' ms' mc' MG', Own en59 6 (A.filter fun x => (resK lim win self now cl mv B (kN x)).2.2) v G →
      ClG (fun k => if k ∈ A.map kN then (resK lim win self now cl mv B k).1 else none) cs' cc' CG' → MvG (fun k => if k ∈ A.map kN then (resK lim win self now cl mv B k).2.1 else clM win now (mv k)) ms' mc' MG' →
      Q (.tuple #[v, .int .i64 0]) (G ++ ((p, AObj.row [.int .i64 lim, .int .i64 win, .int .i64 now, .map (some cb), .map (some mb)] 5 false) :: (cb, AObj.map (mkH ekM evP cs') cc') :: (mb, AObj.map (mkH ekM evP ms') mc') :: (CG' ++ (MG' ++ H))))) :
    CallT (cx B0 old) (acall (cx B0 old) ansP (n + 8)) 21 [.pointer (some ⟨p, 0, none⟩), .int .u32 self, .slice adn A.length cn, .slice adr B.length cr, .int .i64 now] ((p, AObj.row [.int .i64 lim, .int .i64 win, .int .i64 last, .map (some cb), .map (some mb)] 5 false) :: (cb, AObj.map (mkH ekM evP cs) cc) :: (mb, AObj.map (mkH ekM evP ms) mc) :: (CG ++ (MG ++ H))) Q := by
  have hnow : 0 ≤ now ∧ now ≤ 1099511627776 := by
    unfold chkT at hck
    by_cases h : now < 0 ∨ now > 1099511627776
    · rw [if_pos h] at hck; cases hck
    · omega
  refine call_in 122 rfl Try.func21 rfl rfl ?_
  repeat (first | refine Z0 ?_ | (refine ZR ?_; first | refine x1 ?_ | refine x2 ?_ | refine x8 ?_ | refine Z1 ?_ | refine Z2 ?_ | refine x3 fun _ => ?_ | refine x4 fun _ => ?_ | refine x5 fun _ => ?_ | refine Z3 fun _ => ?_ | refine Z4 fun _ => ?_) | refine ZC ?_)
  refine rt_step rfl rfl rfl (st_call rfl rfl rfl rfl (check43_ct now ?_))
  rw [hck]
  repeat (first | refine Z0 ?_ | (refine ZR ?_; first | refine x1 ?_ | refine x2 ?_ | refine x8 ?_ | refine Z1 ?_ | refine Z2 ?_ | refine x3 fun _ => ?_ | refine x4 fun _ => ?_ | refine x5 fun _ => ?_ | refine Z3 fun _ => ?_ | refine Z4 fun _ => ?_) | refine ZC ?_)
  refine rt_step rfl rfl rfl (st_call rfl rfl rfl rfl (keys47G_ct (n := n + 3) (hn.weak (by exact drop_auto)) hA1 hwA (fun hb => ?_) (fun hsA v G1 o1 => ?_)))
  · repeat (first | refine Z0 ?_ | (refine ZR ?_; first | refine x1 ?_ | refine x2 ?_ | refine x8 ?_ | refine Z1 ?_ | refine Z2 ?_ | refine x3 fun _ => ?_ | refine x4 fun _ => ?_ | refine x5 fun _ => ?_ | refine Z3 fun _ => ?_ | refine Z4 fun _ => ?_) | refine ZC ?_)
    refine rt_step rfl rfl rfl (st_call rfl rfl rfl rfl (keys49G_ct (n := n + 3) (hrv.weak (by exact drop_auto)) hB1 hwB (fun hb2 => ?_) (fun hsB v G2 o2 => ?_)))
    · repeat (first | refine Z0 ?_ | (refine ZR ?_; first | refine x1 ?_ | refine x2 ?_ | refine x8 ?_ | refine Z1 ?_ | refine Z2 ?_ | refine x3 fun _ => ?_ | refine x4 fun _ => ?_ | refine x5 fun _ => ?_ | refine Z3 fun _ => ?_ | refine Z4 fun _ => ?_) | refine ZC ?_)
      exact re_2 rfl rfl rfl (by exact drop_auto) (hbad fun h => hb h.1)
    · obtain ⟨ad2, c2, e2, _⟩ := o2.arrW (C := cx B0 old) enK_len
      subst e2
      repeat (first | refine Z0 ?_ | (refine ZR ?_; first | refine x1 ?_ | refine x2 ?_ | refine x8 ?_ | refine Z1 ?_ | refine Z2 ?_ | refine x3 fun _ => ?_ | refine x4 fun _ => ?_ | refine x5 fun _ => ?_ | refine Z3 fun _ => ?_ | refine Z4 fun _ => ?_) | refine ZC ?_)
      exact re_2 rfl rfl rfl (by exact drop_auto) (hbad fun h => hb h.1)
  obtain ⟨ks, hks⟩ : ∃ ks, A.map kN = ks := ⟨_, rfl⟩
  have hkl : ks.length = A.length := by rw [← hks, List.length_map]
  rw [hks] at o1 hsA hbad hQ
  obtain ⟨ad1, c1, e1, ga1⟩ := o1.arrW (C := cx B0 old) enK_len
  subst e1
  repeat (first | refine Z0 ?_ | (refine ZR ?_; first | refine x1 ?_ | refine x2 ?_ | refine x8 ?_ | refine Z1 ?_ | refine Z2 ?_ | refine x3 fun _ => ?_ | refine x4 fun _ => ?_ | refine x5 fun _ => ?_ | refine Z3 fun _ => ?_ | refine Z4 fun _ => ?_) | refine ZC ?_)
  refine rt_step rfl rfl rfl (st_call rfl rfl rfl rfl (keys49G_ct (n := n + 3) (hrv.weak (by exact drop_auto)) hB1 hwB (fun hb2 => ?_) (fun hsB v G2 o2 => ?_)))
  · repeat (first | refine Z0 ?_ | (refine ZR ?_; first | refine x1 ?_ | refine x2 ?_ | refine x8 ?_ | refine Z1 ?_ | refine Z2 ?_ | refine x3 fun _ => ?_ | refine x4 fun _ => ?_ | refine x5 fun _ => ?_ | refine Z3 fun _ => ?_ | refine Z4 fun _ => ?_) | refine ZC ?_)
    exact re_2 rfl rfl rfl (by exact drop_auto) (hbad fun h => hb2 h.2)
  clear hbad
  obtain ⟨ad2, c2, e2, ga2⟩ := o2.arrW (C := cx B0 old) enK_len
  subst e2
  refine RunT.perm ?_ mvG
  repeat (first | refine Z0 ?_ | (refine ZR ?_; first | refine x1 ?_ | refine x2 ?_ | refine x8 ?_ | refine Z1 ?_ | refine Z2 ?_ | refine x3 fun _ => ?_ | refine x4 fun _ => ?_ | refine x5 fun _ => ?_ | refine Z3 fun _ => ?_ | refine Z4 fun _ => ?_) | refine ZC ?_)
  refine rt_step rfl rfl rfl (st_call rfl rfl rfl rfl (clean51G_ct (n := n + 2) hC hM hl ks (by omega) ((ga1 G2 H).arr enK_len) now hnow hwn fun w cs1 cc1 CG1 ms1 mc1 MG1 hC1 hM1 => ?_))
  clear hC hM
  repeat (first | refine Z0 ?_ | (refine ZR ?_; first | refine x1 ?_ | refine x2 ?_ | refine x8 ?_ | refine Z1 ?_ | refine Z2 ?_ | refine x3 fun _ => ?_ | refine x4 fun _ => ?_ | refine x5 fun _ => ?_ | refine Z3 fun _ => ?_ | refine Z4 fun _ => ?_) | refine ZC ?_)
  rename_i rb
  refine ct_midB (ι := List (Kk × S27 × Nat) × Nat) (fun t => Uq t.1 ∧ ∀ k, lkH t.1 k = B.find? fun r => decide (kR r = k)) (fun _ => [(17, .map (some rb)), (13, .slice ad1 ks.length c1), (4, .int .i64 now), (2, .slice adn A.length cn), (1, .int .u32 self), (0, .pointer (some ⟨p, 0, none⟩))]) (fun t => (rb, AObj.map (mkH ekM evR t.1) t.2) :: ((p, AObj.row [.int .i64 lim, .int .i64 win, .int .i64 now, .map (some cb), .map (some mb)] 5 false) :: (cb, AObj.map (mkH ekM evP cs1) cc1) :: (mb, AObj.map (mkH ekM evP ms1) mc1) :: (CG1 ++ (MG1 ++ (G2 ++ (G1 ++ H)))))) ?_ ?_
  · have hml : (B.map kR).length = B.length := List.length_map ..
    refine loop_ind (ι := Nat × List (Kk × S27 × Nat) × Nat) (0, [], 0) (fun i => B.length - i.1) (fun i => i.1 ≤ B.length ∧ Uq i.2.1 ∧ ∀ k, lkH i.2.1 k = (B.take i.1).find? fun r => decide (kR r = k))
      (fun i => [(64, .int .i64 (i.1 : Int)), (63, .int .i64 ((B.map kR).length : Int)), (62, .slice ad2 (B.map kR).length c2), (17, .map (some rb)), (13, .slice ad1 ks.length c1), (4, .int .i64 now), (3, .slice adr B.length cr), (2, .slice adn A.length cn), (1, .int .u32 self), (0, .pointer (some ⟨p, 0, none⟩))])
      (fun i => (rb, AObj.map (mkH ekM evR i.2.1) i.2.2) :: ((p, AObj.row [.int .i64 lim, .int .i64 win, .int .i64 now, .map (some cb), .map (some mb)] 5 false) :: (cb, AObj.map (mkH ekM evP cs1) cc1) :: (mb, AObj.map (mkH ekM evP ms1) mc1) :: (CG1 ++ (MG1 ++ (G2 ++ (G1 ++ H)))))) ⟨Nat.zero_le _, List.nodup_nil, fun k => rfl⟩ (by repeat (first | exact SubL.nil | refine SubL.cons rfl ?_)) (List.Sublist.refl _) ?_
    rintro ⟨i, hs, hc⟩ ⟨hi, hu, hlk⟩
    dsimp only at hi hu hlk ⊢
    repeat (first | refine Z0 ?_ | (refine ZR ?_; first | refine x1 ?_ | refine x2 ?_ | refine x8 ?_ | refine Z1 ?_ | refine Z2 ?_ | refine x3 fun _ => ?_ | refine x4 fun _ => ?_ | refine x5 fun _ => ?_ | refine Z3 fun _ => ?_ | refine Z4 fun _ => ?_) | refine ZC ?_)
    refine ct_condT te_d rfl (fun hlt => ?_) (fun hlt => ?_)
    rotate_left
    · obtain rfl : i = B.length := by omega
      rw [List.take_length] at hlk
      repeat (first | refine Z0 ?_ | (refine ZR ?_; first | refine x1 ?_ | refine x2 ?_ | refine x8 ?_ | refine Z1 ?_ | refine Z2 ?_ | refine x3 fun _ => ?_ | refine x4 fun _ => ?_ | refine x5 fun _ => ?_ | refine Z3 fun _ => ?_ | refine Z4 fun _ => ?_) | refine ZC ?_)
      exact ⟨(hs, hc), ⟨hu, hlk⟩, by repeat (first | exact SubL.nil | refine SubL.cons rfl ?_), by exact drop_auto⟩
    obtain ⟨r, hr⟩ : ∃ r, B[i]? = some r := ⟨_, List.getElem?_eq_getElem (by omega)⟩
    have hkr : (B.map kR)[i]? = some (kR r) := by rw [List.getElem?_map, hr]; rfl
    obtain ⟨b1, i1, e1, hL0⟩ := ((ga2 [] (G1 ++ H)).arr enK_len).ldW 91 hkr rfl (sz rfl)
    subst e1
    obtain ⟨b2, i2, e2, hL1⟩ := hrv.ldW 27 hr rfl (sz rfl)
    subst e2
    unfold enK at hL0
    unfold en27 at hL1
    have hft := find_take hsB hr
    repeat (first | refine Z0 ?_ | (refine ZR ?_; first | refine x1 ?_ | refine x2 ?_ | refine x8 ?_ | refine Z1 ?_ | refine Z2 ?_ | refine x3 fun _ => ?_ | refine x4 fun _ => ?_ | refine x5 fun _ => ?_ | refine Z3 fun _ => ?_ | refine Z4 fun _ => ?_) | refine ZC ?_)
    refine ct_draw (masks := [0, 0, 0, 0, 12, 28, 63]) (plan := [0, 1, 2, 3, 4, 5, 6]) (E := []) (by kernel_rfl) (by kernel_rfl) (by kernel_rfl) (by kernel_rfl) ?_
    repeat (first | refine Y0 ?_ | (refine YP ?_; first | refine y1 ?_ | refine y2 ?_ | refine Y1 ?_ | refine Y2 ?_))
    refine pl_S0 rfl rfl rfl rfl rfl (st_update rfl rfl rfl (updE_K (ev := evR) keyMapR hs hc (kR r) r) sw1 ⟨by exact rec_auto, ?_⟩)
    repeat (first | refine Y0 ?_ | (refine YP ?_; first | refine y1 ?_ | refine y2 ?_ | refine Y1 ?_ | refine Y2 ?_))
    repeat (first | refine Z0 ?_ | (refine ZR ?_; first | refine x1 ?_ | refine x2 ?_ | refine x8 ?_ | refine Z1 ?_ | refine Z2 ?_ | refine x3 fun _ => ?_ | refine x4 fun _ => ?_ | refine x5 fun _ => ?_ | refine Z3 fun _ => ?_ | refine Z4 fun _ => ?_) | refine ZC ?_)
    exact ⟨(i + 1, updH hs hc (kR r) r, updC hs hc (kR r)), ⟨by dsimp only; omega, hu.upd, fun k => by
      dsimp only
      rw [lkH_upd hu, hlk k, hft k]⟩, by dsimp only; omega, by repeat (first | exact SubL.nil | refine SubL.cons rfl ?_), by exact drop_auto⟩
  rintro ⟨hs, rc⟩ ⟨hu, hlk⟩
  dsimp only at hu hlk ⊢
  repeat (first | refine Z0 ?_ | (refine ZR ?_; first | refine x1 ?_ | refine x2 ?_ | refine x8 ?_ | refine Z1 ?_ | refine Z2 ?_ | refine x3 fun _ => ?_ | refine x4 fun _ => ?_ | refine x5 fun _ => ?_ | refine Z3 fun _ => ?_ | refine Z4 fun _ => ?_) | refine ZC ?_)
  refine rt_step rfl rfl rfl (st_call rfl rfl rfl rfl (rules52_ct fun tb => ?_))
  repeat (first | refine Z0 ?_ | (refine ZR ?_; first | refine x1 ?_ | refine x2 ?_ | refine x8 ?_ | refine Z1 ?_ | refine Z2 ?_ | refine x3 fun _ => ?_ | refine x4 fun _ => ?_ | refine x5 fun _ => ?_ | refine Z3 fun _ => ?_ | refine Z4 fun _ => ?_) | refine ZC ?_)
  obtain ⟨clF1, hclF⟩ : ∃ g, g = resK lim win self now cl mv B := ⟨_, rfl⟩
  rw [← hclF] at hQ
  refine CodeT.perm ?_ gb_f
  refine loop_ind (ι := Nat × Value × Hp × List (Kk × Nat × Nat) × Nat × Hp × List (Kk × Nat × Nat) × Nat × Hp) (0, .slice none 0 0, [], cs1, cc1, CG1, ms1, mc1, MG1) (fun j => ks.length - j.1)
    (fun j => j.1 ≤ ks.length ∧ Own en59 6 ((A.take j.1).filter fun x => (clF1 (kN x)).2.2) j.2.1 j.2.2.1 ∧ ClG (fun k => if k ∈ ks.take j.1 then (clF1 k).1 else if k ∈ ks then cl k else none) j.2.2.2.1 j.2.2.2.2.1 j.2.2.2.2.2.1 ∧
      MvG (fun k => if k ∈ ks.take j.1 then (clF1 k).2.1 else clM win now (mv k)) j.2.2.2.2.2.2.1 j.2.2.2.2.2.2.2.1 j.2.2.2.2.2.2.2.2)
    (fun j => [(79, .int .i64 (j.1 : Int)), (78, .int .i64 (ks.length : Int)), (77, .slice ad1 ks.length c1), (21, .slice (some ⟨tb, 0, none⟩) 4 4), (20, j.2.1), (17, .map (some rb)), (4, .int .i64 now), (2, .slice adn A.length cn), (1, .int .u32 self), (0, .pointer (some ⟨p, 0, none⟩))])
    (fun j => ((p, AObj.row [.int .i64 lim, .int .i64 win, .int .i64 now, .map (some cb), .map (some mb)] 5 false) :: (cb, AObj.map (mkH ekM evP j.2.2.2.1) j.2.2.2.2.1) :: (mb, AObj.map (mkH ekM evP j.2.2.2.2.2.2.1) j.2.2.2.2.2.2.2.1) :: (j.2.2.2.2.2.1 ++ (j.2.2.2.2.2.2.2.2 ++ (j.2.2.1 ++ ((tb, AObj.row [.func (.func 65) #[] #[], .func (.func 66) #[] #[], .func (.func 68) #[] #[], .func (.func 69) #[] #[]] 1 false) :: (rb, AObj.map (mkH ekM evR hs) rc) :: (G2 ++ (G1 ++ H))))))))
    ⟨Nat.zero_le _, Own.nil, hC1.congr fun k => (if_neg (fun h => by cases h)).symm, hM1.congr fun k => (if_neg (fun h => by cases h)).symm⟩ (by repeat (first | exact SubL.nil | refine SubL.cons rfl ?_)) (List.Sublist.refl _) ?_
  clear hC1 hM1
  rintro ⟨i, v, Gv, cs2, cc2, CG2, ms2, mc2, MG2⟩ ⟨hi, ov, hC, hM⟩
  dsimp only at hi ov hC hM ⊢
  obtain ⟨adv, cv, ev, _⟩ := ov.arrW (C := cx B0 old) en59_len
  subst ev
  repeat (first | refine Z0 ?_ | (refine ZR ?_; first | refine x1 ?_ | refine x2 ?_ | refine x8 ?_ | refine Z1 ?_ | refine Z2 ?_ | refine x3 fun _ => ?_ | refine x4 fun _ => ?_ | refine x5 fun _ => ?_ | refine Z3 fun _ => ?_ | refine Z4 fun _ => ?_) | refine ZC ?_)
  refine ct_condT te_d rfl (fun hlt => ?_) (fun hlt => ?_)
  rotate_left
  · obtain rfl : i = ks.length := by omega
    rw [List.take_length] at hC hM
    rw [List.take_of_length_le (by omega)] at ov
    have h := hQ hsA hsB _ Gv cs2 cc2 CG2 ms2 mc2 MG2 ov (hC.congr fun k => by
      by_cases hk : k ∈ ks
      · rw [if_pos hk, if_pos hk]
      · rw [if_neg hk, if_neg hk, if_neg hk]) hM
    rw [List.take_of_length_le (by omega)]
    refine CodeT.perm ?_ gb_h
    repeat (first | refine Z0 ?_ | (refine ZR ?_; first | refine x1 ?_ | refine x2 ?_ | refine x8 ?_ | refine Z1 ?_ | refine Z2 ?_ | refine x3 fun _ => ?_ | refine x4 fun _ => ?_ | refine x5 fun _ => ?_ | refine Z3 fun _ => ?_ | refine Z4 fun _ => ?_) | refine ZC ?_)
    exact re_2 rfl rfl rfl (by exact drop_auto) h
  have hil : i < A.length := by omega
  obtain ⟨x, hx⟩ : ∃ x, A[i]? = some x := ⟨_, List.getElem?_eq_getElem hil⟩
  obtain ⟨K, hK⟩ : ∃ K, kN x = K := ⟨_, rfl⟩
  have hkx : ks[i]? = some K := by rw [← hks, List.getElem?_map, hx, ← hK]; rfl
  have hKm : K ∈ ks := List.mem_iff_getElem?.2 ⟨i, hkx⟩
  have hKn := srt_not hsA hkx
  have htkA : A.take (i + 1) = A.take i ++ [x] := by rw [List.take_add_one, hx]; rfl
  have htk : ks.take (i + 1) = ks.take i ++ [K] := by rw [List.take_add_one, hkx]; rfl
  obtain ⟨b1, i1, e1, hL0⟩ := ((ga1 [] H).arr enK_len).ldW 91 hkx rfl (sz rfl)
  subst e1
  unfold enK at hL0
  obtain ⟨bN, oN, eN, hL1⟩ := hn.ldW 59 hx rfl (sz rfl)
  subst eN
  unfold en59 at hL1
  have hclK : (if K ∈ ks.take i then (clF1 K).1 else if K ∈ ks then cl K else none) = cl K := by rw [if_neg hKn, if_pos hKm]
  have hmvK : (if K ∈ ks.take i then (clF1 K).2.1 else clM win now (mv K)) = clM win now (mv K) := by rw [if_neg hKn]
  have hres : clF1 K = rule0 lim win self now (cl K) (clM win now (mv K)) (rvOf B K) := by rw [hclF]; rfl
  have hnext : ∀ (a : Option (Int × Bool)), (clF1 K).1 = a → ∀ k, updF (fun k => if k ∈ ks.take i then (clF1 k).1 else if k ∈ ks then cl k else none) K a k = if k ∈ ks.take (i + 1) then (clF1 k).1 else if k ∈ ks then cl k else none := fun a ha k => by
    rw [htk]
    by_cases hk : k = K
    · subst hk
      rw [updF_eq, if_pos (by simp), ha]
    · rw [updF_ne _ _ hk]
      have : (k ∈ ks.take i ++ [K]) ↔ k ∈ ks.take i := by simp [hk]
      simp only [this]
  have hnextM : ∀ (a : Option (List Int × Bool)), (clF1 K).2.1 = a → ∀ k, updF (fun k => if k ∈ ks.take i then (clF1 k).2.1 else clM win now (mv k)) K a k = if k ∈ ks.take (i + 1) then (clF1 k).2.1 else clM win now (mv k) := fun a ha k => by
    rw [htk]
    by_cases hk : k = K
    · subst hk
      rw [updF_eq, if_pos (by simp), ha]
    · rw [updF_ne _ _ hk]
      have : (k ∈ ks.take i ++ [K]) ↔ k ∈ ks.take i := by simp [hk]
      simp only [this]
  have hfil : (A.take (i + 1)).filter (fun x => (clF1 (kN x)).2.2) = (A.take i).filter (fun x => (clF1 (kN x)).2.2) ++ nearL x (clF1 K).2.2 := by
    rw [htkA, List.filter_append, ← hK]
    congr 1
  have hgl : ((A.take i).filter fun x => (clF1 (kN x)).2.2).length ≤ 1000 := Nat.le_trans (List.length_filter_le _ _) (by rw [List.length_take]; omega)
  generalize ((A.take i).filter fun x => (clF1 (kN x)).2.2) = gvs at *
  generalize hcl0 : (fun k => if k ∈ ks.take i then (clF1 k).1 else if k ∈ ks then cl k else none) = cl2 at *
  generalize hmv0 : (fun k => if k ∈ ks.take i then (clF1 k).2.1 else clM win now (mv k)) = mv2' at *
  have hclK : cl2 K = cl K := by rw [← hcl0]; exact hclK
  have hmvK : mv2' K = clM win now (mv K) := by rw [← hmv0]; exact hmvK
  obtain ⟨b0, hb0, hlkC⟩ := hC.lookV (B0 := B0) (old := old) K
  have hlr := rvLookG (B0 := B0) (old := old) hlk K
  obtain ⟨cp, hcp⟩ : ∃ cp, clV (cl2 K) b0 = .pointer cp := by cases cl2 K <;> exact ⟨_, rfl⟩
  rw [hcp, ekM_eq] at hlkC
  rw [ekM_eq] at hlr
  obtain ⟨r, hr⟩ : ∃ r, rvOf B K = r := ⟨_, rfl⟩
  rw [hr] at hlr hres
  unfold en27 at hlr
  repeat (first | refine Z0 ?_ | (refine ZR ?_; first | refine x1 ?_ | refine x2 ?_ | refine x8 ?_ | refine Z1 ?_ | refine Z2 ?_ | refine x3 fun _ => ?_ | refine x4 fun _ => ?_ | refine x5 fun _ => ?_ | refine Z3 fun _ => ?_ | refine Z4 fun _ => ?_) | refine ZC ?_)
  refine ct_draw (masks := [0, 0, 2, 6, 14, 0, 62, 0, 0, 384, 0, 0, 4095, 0, 16383]) (plan := [0, 1, 2, 3, 4, 5, 6, 7, 8, 9, 10, 11, 12, 13, 14]) (E := []) (by kernel_rfl) (by kernel_rfl) (by kernel_rfl) (by kernel_rfl) ?_
  repeat (first | refine Y0 ?_ | (refine YP ?_; first | refine y1 ?_ | refine y2 ?_ | refine Y1 ?_ | refine Y2 ?_))
  refine pl_R rfl rfl rfl rfl rfl rfl (rd_lookup rfl rfl (by exact in_auto) hlkC) ?_
  repeat (first | refine Y0 ?_ | (refine YP ?_; first | refine y1 ?_ | refine y2 ?_ | refine Y1 ?_ | refine Y2 ?_))
  refine pl_R rfl rfl rfl rfl rfl rfl (rd_lookup rfl rfl (by exact in_auto) hlr) ?_
  refine y1 ?_
  refine y1 ?_
  refine pl_p rfl rfl rfl rfl rfl rfl (p_buildS (r := enX K (.pointer cp) r self now) rfl (zr rfl) rfl rfl (by kernel_rfl) (by kernel_rfl)) ?_
  unfold enX
  refine pl_S rfl rfl rfl rfl rfl rfl (st_alloc (zr rfl) fun xb => ⟨rec_rd (rd_lookup rfl rfl (by exact in_auto) hlr) (rec_rd (by apply rd_at rfl; (repeat (first | exact l1 rfl (sz rfl) rfl | exact lW rfl (sz rfl) rfl | exact lP rfl (sz rfl) rfl | exact hL0 _ (by exact drop_auto) | exact hL1 _ (by exact drop_auto) | exact hL2 _ (by exact drop_auto) | exact hL3 _ (by exact drop_auto) | exact hL4 _ (by exact drop_auto) | exact hL5 _ (by exact drop_auto) | exact hA0 _ _ (by omega) (by exact in_auto) | exact hA1 _ _ (by omega) (by exact in_auto) | exact hA2 _ _ (by omega) (by exact in_auto) | exact hA3 _ _ (by omega) (by exact in_auto) | apply lds | apply ldA))) (rec_rd (rd_lookup rfl rfl (by exact in_auto) hlkC) (by exact rec_auto))), ?_⟩)
  refine y3 ?_
  repeat (first | refine Y0 ?_ | (refine YP ?_; first | refine y1 ?_ | refine y2 ?_ | refine Y1 ?_ | refine Y2 ?_))
  repeat (first | refine Z0 ?_ | (refine ZR ?_; first | refine x1 ?_ | refine x2 ?_ | refine x8 ?_ | refine Z1 ?_ | refine Z2 ?_ | refine x3 fun _ => ?_ | refine x4 fun _ => ?_ | refine x5 fun _ => ?_ | refine Z3 fun _ => ?_ | refine Z4 fun _ => ?_) | refine ZC ?_)
  refine CodeT.perm ?_ gb_f
  obtain ⟨res, hre⟩ : ∃ res, clF1 K = res := ⟨_, rfl⟩
  rw [hre] at hres hfil hnext hnextM
  have hn1 := hnext _ rfl
  have hn2 := hnextM _ rfl
  clear hnext hnextM hlkC hlr hL0
  rw [hclK] at hcp hb0
  have hCs : ClG (updF cl2 K (cl K)) cs2 cc2 CG2 := by rw [← hclK, updF_self]; exact hC
  refine ct_midN (ι := List (Kk × Nat × Nat) × Nat × Hp × List (Kk × Nat × Nat) × Nat × Hp × Value × Hp) (fun t => ClG (updF cl2 K res.1) t.1 t.2.1 t.2.2.1 ∧ MvG (updF mv2' K res.2.1) t.2.2.2.1 t.2.2.2.2.1 t.2.2.2.2.2.1 ∧ Own en59 6 (gvs ++ nearL x res.2.2) t.2.2.2.2.2.2.1 t.2.2.2.2.2.2.2)
    (fun t => [(79, .int .i64 (i : Int)), (78, .int .i64 (ks.length : Int)), (77, .slice (some ⟨b1, i1, none⟩) ks.length c1), (21, .slice (some ⟨tb, 0, none⟩) 4 4), (20, t.2.2.2.2.2.2.1), (17, .map (some rb)), (4, .int .i64 now), (2, .slice (some ⟨bN, oN, none⟩) A.length cn), (1, .int .u32 self), (0, .pointer (some ⟨p, 0, none⟩))])
    (fun t => ((p, AObj.row [.int .i64 lim, .int .i64 win, .int .i64 now, .map (some cb), .map (some mb)] 5 false) :: (cb, AObj.map (mkH ekM evP t.1) t.2.1) :: (mb, AObj.map (mkH ekM evP t.2.2.2.1) t.2.2.2.2.1) :: (t.2.2.1 ++ (t.2.2.2.2.2.1 ++ (t.2.2.2.2.2.2.2 ++ ((tb, AObj.row [.func (.func 65) #[] #[], .func (.func 66) #[] #[], .func (.func 68) #[] #[], .func (.func 69) #[] #[]] 1 false) :: (rb, AObj.map (mkH ekM evR hs) rc) :: (G2 ++ (G1 ++ H)))))))) ?_ ?_
  rotate_left
  · rintro ⟨cs', cc', CG', ms', mc', MG', v', G'⟩ ⟨h1, h2, h3⟩ l' H' hs1 hs2
    dsimp only at h1 h2 h3 hs1 hs2 ⊢
    refine Zo (Zl (CodeT.weak ?_ hs1 hs2))
    clear hs1 hs2
    repeat (first | refine Z0 ?_ | (refine ZR ?_; first | refine x1 ?_ | refine x2 ?_ | refine x8 ?_ | refine Z1 ?_ | refine Z2 ?_ | refine x3 fun _ => ?_ | refine x4 fun _ => ?_ | refine x5 fun _ => ?_ | refine Z3 fun _ => ?_ | refine Z4 fun _ => ?_) | refine ZC ?_)
    exact ⟨(i + 1, v', G', cs', cc', CG', ms', mc', MG'), ⟨by dsimp only; omega, by dsimp only; rw [hfil]; exact h3, h1.congr hn1, h2.congr hn2⟩, by dsimp only; omega, by repeat (first | exact SubL.nil | refine SubL.cons rfl ?_), List.Sublist.refl _⟩
  have hlen0 : lenM (clM win now (mv K)) ≤ 2000 := Nat.le_trans (clM_len win now (mv K)) (hl K)
  refine loop_ind (ι := Nat × Option (List Int × Bool) × List (Kk × Nat × Nat) × Nat × Hp) (0, clM win now (mv K), ms2, mc2, MG2) (fun t => 4 - t.1) (fun t => t.1 ≤ 3 ∧ MvG (updF mv2' K t.2.1) t.2.2.1 t.2.2.2.1 t.2.2.2.2 ∧ res = ruleK t.1 lim win self now (cl K) t.2.1 r ∧ (t.1 ≤ 2 → lenM t.2.1 ≤ 2000))
    (fun t => [(99, .int .i64 (t.1 : Int)), (98, .int .i64 ((4 : Nat) : Int)), (97, .slice (some ⟨tb, 0, none⟩) 4 4), (24, .pointer (some ⟨xb, 0, none⟩)), (22, .int .i64 (i : Int)), (79, .int .i64 (i : Int)), (78, .int .i64 (ks.length : Int)), (77, .slice (some ⟨b1, i1, none⟩) ks.length c1), (21, .slice (some ⟨tb, 0, none⟩) 4 4), (20, .slice adv gvs.length cv), (17, .map (some rb)), (4, .int .i64 now), (2, .slice (some ⟨bN, oN, none⟩) A.length cn), (1, .int .u32 self), (0, .pointer (some ⟨p, 0, none⟩))])
    (fun t => ((p, AObj.row [.int .i64 lim, .int .i64 win, .int .i64 now, .map (some cb), .map (some mb)] 5 false) :: (cb, AObj.map (mkH ekM evP cs2) cc2) :: (mb, AObj.map (mkH ekM evP t.2.2.1) t.2.2.2.1) :: (CG2 ++ (t.2.2.2.2 ++ ((xb, AObj.row (enX K (.pointer cp) r self now) 10 false) :: (_, AObj.row [.int .i64 K.bd, .int .u64 K.mac] 2 false) :: (Gv ++ ((tb, AObj.row [.func (.func 65) #[] #[], .func (.func 66) #[] #[], .func (.func 68) #[] #[], .func (.func 69) #[] #[]] 1 false) :: (rb, AObj.map (mkH ekM evR hs) rc) :: (G2 ++ (G1 ++ H)))))))))
    ⟨Nat.zero_le _, by dsimp only; rw [← hmvK, updF_self]; exact hM, hres, fun _ => hlen0⟩ (by repeat (first | exact SubL.nil | refine SubL.cons rfl ?_)) (by exact drop_auto) ?_
  rintro ⟨i0, mv', ms', mc', MG'⟩ ⟨hi0, hM', hres, hl'⟩
  dsimp only at hi0 hM' hres hl' ⊢
  have h65 := fun {H' : Hp} {Q' : Value → Hp → Prop} h => rule65G_ct (n := n + 6) (B0 := B0) (old := old) (H := H') (Q := Q') (p := p) (cb := cb) (mb := mb) (lim := lim) (win := win) (last := now) (MG := MG') (mc := mc') (ms := ms') (K := K) (b0 := b0) hC r self now (by rw [hclK]; exact hb0) h
  have h66 := fun {H' : Hp} {Q' : Value → Hp → Prop} => rule66G_ct (n := n + 5) (B0 := B0) (old := old) (H := H') (Q := Q') (p := p) (cb := cb) (mb := mb) (lim := lim) (win := win) (last := now) (CG := CG2) (cc := cc2) (cs := cs2) (K := K) (b0 := b0) hM' (cl K) r self now
  have h68 := fun {H' : Hp} {Q' : Value → Hp → Prop} h => rule68G_ct (n := n + 1) (B0 := B0) (old := old) (H := H') (Q := Q') (p := p) (cb := cb) (mb := mb) (lim := lim) (win := win) (last := now) (CG := CG2) (cc := cc2) (cs := cs2) (K := K) (b0 := b0) hM' h (cl K) r self now hnow hwn
  have h69 := fun {H' : Hp} {Q' : Value → Hp → Prop} h => rule69G_ct (n := n + 3) (B0 := B0) (old := old) (H := H') (Q := Q') (p := p) (cb := cb) (mb := mb) (lim := lim) (win := win) (last := now) (MG := MG') (mc := mc') (ms := ms') (K := K) (b0 := b0) hC r self now (by rw [hclK]; exact hb0) h
  rw [hclK, hcp] at h65 h69
  rw [hcp, updF_eq] at h66 h68
  rw [updF_upd] at h68
  unfold enX at h65 h66 h68 h69 ⊢
  have hi4 : i0 = 0 ∨ i0 = 1 ∨ i0 = 2 ∨ i0 = 3 := by omega
  rcases hi4 with rfl | rfl | rfl | rfl
  · clear h66 h68 h69
    repeat (first | refine Z0 ?_ | (refine ZR ?_; first | refine x1 ?_ | refine x2 ?_ | refine x8 ?_ | refine Z1 ?_ | refine Z2 ?_ | refine x3 fun _ => ?_ | refine x4 fun _ => ?_ | refine x5 fun _ => ?_ | refine Z3 fun _ => ?_ | refine Z4 fun _ => ?_) | refine ZC ?_)
    refine rt_step rfl rfl rfl (st_call rfl rfl rfl rfl (h65 ?_))
    clear h65
    unfold ruleK rule0 at hres
    generalize clF (cl K) = fl at *
    cases fl
    · rw [if_neg (by decide)] at hres
      repeat (first | refine Z0 ?_ | (refine ZR ?_; first | refine x1 ?_ | refine x2 ?_ | refine x8 ?_ | refine Z1 ?_ | refine Z2 ?_ | refine x3 fun _ => ?_ | refine x4 fun _ => ?_ | refine x5 fun _ => ?_ | refine Z3 fun _ => ?_ | refine Z4 fun _ => ?_) | refine ZC ?_)
      exact ⟨(1, mv', ms', mc', MG'), ⟨by dsimp only; omega, hM', hres, fun _ => hl' (by omega)⟩, by dsimp only; omega, by repeat (first | exact SubL.nil | refine SubL.cons rfl ?_), by exact drop_auto⟩
    · rw [if_pos rfl] at hres
      have hr' := hres
      repeat (first | refine Z0 ?_ | (refine ZR ?_; first | refine x1 ?_ | refine x2 ?_ | refine x8 ?_ | refine Z1 ?_ | refine Z2 ?_ | refine x3 fun _ => ?_ | refine x4 fun _ => ?_ | refine x5 fun _ => ?_ | refine Z3 fun _ => ?_ | refine Z4 fun _ => ?_) | refine ZC ?_)
      exact ⟨rfl, (cs2, cc2, CG2, ms', mc', MG', _, Gv), ⟨by rw [hr']; exact hCs, by rw [hr']; exact hM', by rw [hr']; simpa [nearL] using ov⟩, by repeat (first | exact SubL.nil | refine SubL.cons rfl ?_), by exact drop_auto⟩
  · clear h65 h68 h69
    repeat (first | refine Z0 ?_ | (refine ZR ?_; first | refine x1 ?_ | refine x2 ?_ | refine x8 ?_ | refine Z1 ?_ | refine Z2 ?_ | refine x3 fun _ => ?_ | refine x4 fun _ => ?_ | refine x5 fun _ => ?_ | refine Z3 fun _ => ?_ | refine Z4 fun _ => ?_) | refine ZC ?_)
    refine rt_step rfl rfl rfl (st_call rfl rfl rfl rfl (h66 ?_))
    clear h66
    unfold ruleK rule1 at hres
    generalize (contB (cl K) r && moveF mv') = fl at *
    cases fl
    · rw [if_neg (by decide)] at hres
      repeat (first | refine Z0 ?_ | (refine ZR ?_; first | refine x1 ?_ | refine x2 ?_ | refine x8 ?_ | refine Z1 ?_ | refine Z2 ?_ | refine x3 fun _ => ?_ | refine x4 fun _ => ?_ | refine x5 fun _ => ?_ | refine Z3 fun _ => ?_ | refine Z4 fun _ => ?_) | refine ZC ?_)
      exact ⟨(2, mv', ms', mc', MG'), ⟨by dsimp only; omega, hM', hres, fun _ => hl' (by omega)⟩, by dsimp only; omega, by repeat (first | exact SubL.nil | refine SubL.cons rfl ?_), by exact drop_auto⟩
    · rw [if_pos rfl] at hres
      have hr' := hres
      repeat (first | refine Z0 ?_ | (refine ZR ?_; first | refine x1 ?_ | refine x2 ?_ | refine x8 ?_ | refine Z1 ?_ | refine Z2 ?_ | refine x3 fun _ => ?_ | refine x4 fun _ => ?_ | refine x5 fun _ => ?_ | refine Z3 fun _ => ?_ | refine Z4 fun _ => ?_) | refine ZC ?_)
      refine RunT.perm ?_ gb_g
      refine rt_step rfl rfl rfl (st_appP (M := [x]) (c := 1) (pre := [_]) ov en59_len en59_one rfl rfl (ap rfl) (arrW_one (a := x) en59_len hm0) (Nat.le_trans (Nat.mul_le_mul_right _ (show 2 * (gvs.length + [x].length) + 192 ≤ 6000 by simp only [List.length_singleton]; omega)) (by decide)) fun v2 G3 o3 => ?_)
      refine RunT.perm ?_ gb_g.symm
      repeat (first | refine Z0 ?_ | (refine ZR ?_; first | refine x1 ?_ | refine x2 ?_ | refine x8 ?_ | refine Z1 ?_ | refine Z2 ?_ | refine x3 fun _ => ?_ | refine x4 fun _ => ?_ | refine x5 fun _ => ?_ | refine Z3 fun _ => ?_ | refine Z4 fun _ => ?_) | refine ZC ?_)
      exact ⟨rfl, (cs2, cc2, CG2, ms', mc', MG', v2, G3), ⟨by rw [hr']; exact hCs, by rw [hr']; exact hM', by rw [hr']; exact o3⟩, by repeat (first | exact SubL.nil | refine SubL.cons rfl ?_), by exact drop_auto⟩
  · clear h65 h66 h69
    repeat (first | refine Z0 ?_ | (refine ZR ?_; first | refine x1 ?_ | refine x2 ?_ | refine x8 ?_ | refine Z1 ?_ | refine Z2 ?_ | refine x3 fun _ => ?_ | refine x4 fun _ => ?_ | refine x5 fun _ => ?_ | refine Z3 fun _ => ?_ | refine Z4 fun _ => ?_) | refine ZC ?_)
    unfold ruleK rule2 at hres
    refine rt_step rfl rfl rfl (st_call rfl rfl rfl rfl (h68 (hl' (by decide)) (fun hno => ?_) (fun hyes ms3 mc3 MG3 hM2 => ?_)))
    · clear h68
      rw [hno, if_neg (by decide)] at hres
      repeat (first | refine Z0 ?_ | (refine ZR ?_; first | refine x1 ?_ | refine x2 ?_ | refine x8 ?_ | refine Z1 ?_ | refine Z2 ?_ | refine x3 fun _ => ?_ | refine x4 fun _ => ?_ | refine x5 fun _ => ?_ | refine Z3 fun _ => ?_ | refine Z4 fun _ => ?_) | refine ZC ?_)
      exact ⟨(3, mv', ms', mc', MG'), ⟨by dsimp only; omega, hM', hres, fun h => absurd h (by dsimp only; omega)⟩, by dsimp only; omega, by repeat (first | exact SubL.nil | refine SubL.cons rfl ?_), by exact drop_auto⟩
    · clear h68
      rw [hyes, if_pos rfl] at hres
      have hM3 : MvG (updF mv2' K (mv2 lim win now mv')) ms3 mc3 MG3 := hM2
      clear hM2
      generalize tooM lim win now mv' = fl at *
      cases fl
      · rw [if_neg (by decide)] at hres
        repeat (first | refine Z0 ?_ | (refine ZR ?_; first | refine x1 ?_ | refine x2 ?_ | refine x8 ?_ | refine Z1 ?_ | refine Z2 ?_ | refine x3 fun _ => ?_ | refine x4 fun _ => ?_ | refine x5 fun _ => ?_ | refine Z3 fun _ => ?_ | refine Z4 fun _ => ?_) | refine ZC ?_)
        exact ⟨(3, mv2 lim win now mv', ms3, mc3, MG3), ⟨by dsimp only; omega, hM3, hres, fun h => absurd h (by dsimp only; omega)⟩, by dsimp only; omega, by repeat (first | exact SubL.nil | refine SubL.cons rfl ?_), by exact drop_auto⟩
      · rw [if_pos rfl] at hres
        have hr' := hres
        repeat (first | refine Z0 ?_ | (refine ZR ?_; first | refine x1 ?_ | refine x2 ?_ | refine x8 ?_ | refine Z1 ?_ | refine Z2 ?_ | refine x3 fun _ => ?_ | refine x4 fun _ => ?_ | refine x5 fun _ => ?_ | refine Z3 fun _ => ?_ | refine Z4 fun _ => ?_) | refine ZC ?_)
        refine RunT.perm ?_ gb_g
        refine rt_step rfl rfl rfl (st_appP (M := [x]) (c := 1) (pre := [_]) ov en59_len en59_one rfl rfl (ap rfl) (arrW_one (a := x) en59_len hm0) (Nat.le_trans (Nat.mul_le_mul_right _ (show 2 * (gvs.length + [x].length) + 192 ≤ 6000 by simp only [List.length_singleton]; omega)) (by decide)) fun v2 G3 o3 => ?_)
        refine RunT.perm ?_ gb_g.symm
        repeat (first | refine Z0 ?_ | (refine ZR ?_; first | refine x1 ?_ | refine x2 ?_ | refine x8 ?_ | refine Z1 ?_ | refine Z2 ?_ | refine x3 fun _ => ?_ | refine x4 fun _ => ?_ | refine x5 fun _ => ?_ | refine Z3 fun _ => ?_ | refine Z4 fun _ => ?_) | refine ZC ?_)
        exact ⟨rfl, (cs2, cc2, CG2, ms3, mc3, MG3, v2, G3), ⟨by rw [hr']; exact hCs, by rw [hr']; exact hM3, by rw [hr']; exact o3⟩, by repeat (first | exact SubL.nil | refine SubL.cons rfl ?_), by exact drop_auto⟩
  · clear h65 h66 h68
    repeat (first | refine Z0 ?_ | (refine ZR ?_; first | refine x1 ?_ | refine x2 ?_ | refine x8 ?_ | refine Z1 ?_ | refine Z2 ?_ | refine x3 fun _ => ?_ | refine x4 fun _ => ?_ | refine x5 fun _ => ?_ | refine Z3 fun _ => ?_ | refine Z4 fun _ => ?_) | refine ZC ?_)
    unfold ruleK rule3 at hres
    refine rt_step rfl rfl rfl (st_call rfl rfl rfl rfl (h69 fun cs3 cc3 CG3 hC3 => ?_))
    clear h69
    generalize nextM (seqO (cl K)) (cl K).isSome self r = nx at *
    obtain ⟨sq, stays⟩ := nx
    dsimp only at hres hC3 ⊢
    have hr' := hres
    cases stays
    · repeat (first | refine Z0 ?_ | (refine ZR ?_; first | refine x1 ?_ | refine x2 ?_ | refine x8 ?_ | refine Z1 ?_ | refine Z2 ?_ | refine x3 fun _ => ?_ | refine x4 fun _ => ?_ | refine x5 fun _ => ?_ | refine Z3 fun _ => ?_ | refine Z4 fun _ => ?_) | refine ZC ?_)
      refine RunT.perm ?_ gb_g
      refine rt_step rfl rfl rfl (st_appP (M := [x]) (c := 1) (pre := [_]) ov en59_len en59_one rfl rfl (ap rfl) (arrW_one (a := x) en59_len hm0) (Nat.le_trans (Nat.mul_le_mul_right _ (show 2 * (gvs.length + [x].length) + 192 ≤ 6000 by simp only [List.length_singleton]; omega)) (by decide)) fun v2 G3 o3 => ?_)
      refine RunT.perm ?_ gb_g.symm
      repeat (first | refine Z0 ?_ | (refine ZR ?_; first | refine x1 ?_ | refine x2 ?_ | refine x8 ?_ | refine Z1 ?_ | refine Z2 ?_ | refine x3 fun _ => ?_ | refine x4 fun _ => ?_ | refine x5 fun _ => ?_ | refine Z3 fun _ => ?_ | refine Z4 fun _ => ?_) | refine ZC ?_)
      exact ⟨rfl, (cs3, cc3, CG3, ms', mc', MG', v2, G3), ⟨by rw [hr']; exact hC3, by rw [hr']; exact hM', by rw [hr']; exact o3⟩, by repeat (first | exact SubL.nil | refine SubL.cons rfl ?_), by exact drop_auto⟩
    · repeat (first | refine Z0 ?_ | (refine ZR ?_; first | refine x1 ?_ | refine x2 ?_ | refine x8 ?_ | refine Z1 ?_ | refine Z2 ?_ | refine x3 fun _ => ?_ | refine x4 fun _ => ?_ | refine x5 fun _ => ?_ | refine Z3 fun _ => ?_ | refine Z4 fun _ => ?_) | refine ZC ?_)
      exact ⟨rfl, (cs3, cc3, CG3, ms', mc', MG', _, Gv), ⟨by rw [hr']; exact hC3, by rw [hr']; exact hM', by rw [hr']; simpa [nearL] using ov⟩, by repeat (first | exact SubL.nil | refine SubL.cons rfl ?_), by exact drop_auto⟩
end
end Go.Proofs.Ytoimfchhmocgeaa.Abs

/- The book in general as one thing. -/
namespace Go.Proofs.Ytoimfchhmocgeaa.Abs
open Go
set_option linter.unusedVariables false
theorem rk_inj {a b : Kk} (ha : okK a) (hb : okK b) (h : rkK a = rkK b) : a = b := by
  unfold okK at ha hb
  unfold rkK at h
  exact KkM.eta (by omega) (by omega)
theorem srt_mk {ks : List Kk} (h : (ks.map rkK).Pairwise (· ≤ ·)) (hn : ks.Nodup) (hok : ∀ k ∈ ks, okK k) : SrtR ks := by
  unfold SrtR
  rw [List.pairwise_map] at h ⊢
  rw [List.pairwise_iff_getElem] at h ⊢
  intro i j hi hj hij
  have h1 := h i j hi hj hij
  have h2 : rkK ks[i] ≠ rkK ks[j] := fun e => by
    have := rk_inj (hok _ (List.getElem_mem hi)) (hok _ (List.getElem_mem hj)) e
    have := (List.getElem_inj hn).1 this
    omega
  omega
/-- Lists in order with the same members are the same. -/
theorem srt_eq : ∀ {a b : List Kk}, SrtR a → SrtR b → (∀ k, k ∈ a ↔ k ∈ b) → a = b
  | [], [], _, _, _ => rfl
  | [], y :: b, _, _, h => by cases (h y).2 (List.mem_cons_self ..)
  | x :: a, [], _, _, h => by cases (h x).1 (List.mem_cons_self ..)
  | x :: a, y :: b, ha, hb, h => by
    unfold SrtR at ha hb
    rw [List.map_cons, List.pairwise_cons] at ha hb
    have hxa : ∀ k ∈ a, rkK x < rkK k := fun k hk => ha.1 _ (List.mem_map_of_mem hk)
    have hyb : ∀ k ∈ b, rkK y < rkK k := fun k hk => hb.1 _ (List.mem_map_of_mem hk)
    have hxy : x = y := by
      rcases List.mem_cons.1 ((h x).1 (List.mem_cons_self ..)) with e | e
      · exact e
      · rcases List.mem_cons.1 ((h y).2 (List.mem_cons_self ..)) with e2 | e2
        · exact e2.symm
        · have h1 := hyb x e
          have h2 := hxa y e2
          omega
    subst hxy
    rw [srt_eq (a := a) (b := b) ha.2 hb.2 fun k => by
      have hk := h k
      rw [List.mem_cons, List.mem_cons] at hk
      constructor
      · intro hm
        rcases hk.1 (.inr hm) with e | e
        · subst e; exact absurd (hxa _ hm) (by omega)
        · exact e
      · intro hm
        rcases hk.2 (.inr hm) with e | e
        · subst e; exact absurd (hyb _ hm) (by omega)
        · exact e]
theorem srt_sub {a b : List Kk} (h : SrtR b) (hs : a.Sublist b) : SrtR a := List.Pairwise.sublist (hs.map _) h
theorem rule0_gone {lim win self now : Int} {cl : Option (Int × Bool)} {mv : Option (List Int × Bool)} {r : S27} : ((rule0 lim win self now cl mv r).2.2 = true → (rule0 lim win self now cl mv r).1 = none ∧ r.a3 ≠ 0) ∧ ((rule0 lim win self now cl mv r).2.2 = false → (rule0 lim win self now cl mv r).1 ≠ none) := by
  have hct : contB cl r = true → cl = none ∧ r.a3 ≠ 0 := fun h => by
    unfold contB at h
    cases cl with
    | some q => simp at h
    | none =>
      simp only [Option.isNone_none, Bool.true_and, Bool.and_eq_true, bne_iff_ne, ne_eq] at h
      exact ⟨rfl, h.1⟩
  have h3 : ∀ mv', ((rule3 self cl mv' r).2.2 = true → (rule3 self cl mv' r).1 = none ∧ r.a3 ≠ 0) ∧ ((rule3 self cl mv' r).2.2 = false → (rule3 self cl mv' r).1 ≠ none) := fun mv' => by
    have hz : r.a3 = 0 → (nextM (seqO cl) cl.isSome self r).2 = true := fun h => by unfold nextM; rw [if_pos h]
    unfold rule3
    generalize nextM (seqO cl) cl.isSome self r = R at *
    obtain ⟨q, b⟩ := R
    dsimp only [decC] at hz ⊢
    cases b with
    | true => exact ⟨fun h => (by cases h), fun _ => by simp⟩
    | false => exact ⟨fun _ => ⟨rfl, fun h => (by cases hz h)⟩, fun h => (by cases h)⟩
  unfold rule0
  by_cases hf : clF cl = true
  · rw [if_pos hf]
    refine ⟨fun h => (by cases h), fun _ => ?_⟩
    cases cl with
    | none => cases hf
    | some q => simp
  · rw [if_neg hf]
    unfold rule1
    by_cases h1 : (contB cl r && moveF mv) = true
    · rw [if_pos h1]
      rw [Bool.and_eq_true] at h1
      exact ⟨fun _ => hct h1.1, fun h => (by cases h)⟩
    · rw [if_neg h1]
      unfold rule2
      by_cases h2 : contB cl r = true
      · rw [if_pos h2]
        by_cases h4 : tooM lim win now mv = true
        · rw [if_pos h4]
          exact ⟨fun _ => hct h2, fun h => (by cases h)⟩
        · rw [if_neg h4]
          exact h3 _
      · rw [if_neg h2]
        exact h3 _
theorem rule0_len (lim win self now : Int) (cl : Option (Int × Bool)) (mv : Option (List Int × Bool)) (r : S27) : lenM (rule0 lim win self now cl (clM win now mv) r).2.1 ≤ lenM mv + 1 := settle_len lim win self now cl mv true (some r)
/-- A book in memory. -/
def BkG (lim win : Int) (p : Nat) (last : Int) (cl : Kk → Option (Int × Bool)) (mv : Kk → Option (List Int × Bool)) (G : Hp) : Prop := ∃ cb mb cs cc ms mc CG MG, ClG cl cs cc CG ∧ MvG mv ms mc MG ∧ G = ((p, AObj.row [.int .i64 lim, .int .i64 win, .int .i64 last, .map (some cb), .map (some mb)] 5 false) :: (cb, AObj.map (mkH ekM evP cs) cc) :: (mb, AObj.map (mkH ekM evP ms) mc) :: (CG ++ MG))
/-- The addresses with claims are among so many. -/
def CovK (L : List Kk) (cl : Kk → Option (Int × Bool)) : Prop := L.length ≤ 1000 ∧ (∀ k ∈ L, okK k) ∧ ∀ k a, cl k = some a → k ∈ L
def clG' (cl : Kk → Option (Int × Bool)) (k : Kk) : Int × Bool := (cl k).getD (0, false)
section
variable {B0 : Nat} {old : Nat → Option (List Value)} {n : Nat} {H G : Hp} {Q : Value → Hp → Prop} {p : Nat} {lim win last : Int} {cl : Kk → Option (Int × Bool)} {mv : Kk → Option (List Int × Bool)} {L : List Kk}
set_option maxRecDepth 10000
set_option maxHeartbeats 8000000
theorem newGW (a b : Int) (ha : 1 ≤ a ∧ a ≤ 100) (hb : 1 ≤ b ∧ b ≤ 10000) (hQ : ∀ p G, BkG a b p 0 (fun _ => none) (fun _ => none) G → Q (.tuple #[.pointer (some ⟨p, 0, none⟩), .int .i64 0]) (G ++ H)) :
    CallT (cx B0 old) (acall (cx B0 old) ansP (n + 1)) 15 [.int .i64 a, .int .i64 b] H Q := by
  refine CallT.permPost (newB15_ct (Q := fun v H' => ∃ p cb mb, v = .tuple #[.pointer (some ⟨p, 0, none⟩), .int .i64 0] ∧ H' = ((p, .row [.int .i64 a, .int .i64 b, .int .i64 0, .map (some cb), .map (some mb)] 5 false) :: (mb, .map (mkH ekM evP []) 0) :: (cb, .map (mkH ekM evP []) 0) :: H)) a b ha hb fun p cb mb => ⟨p, cb, mb, rfl, rfl⟩) ?_
  rintro v H' ⟨p, cb, mb, rfl, rfl⟩
  exact ⟨_, (List.Perm.swap _ _ _).cons _, hQ p _ ⟨cb, mb, [], 0, [], 0, [], [], MpI.nil 0, MpI.nil 0, rfl⟩⟩
theorem settleGW (hB : BkG lim win p last cl mv G) (hl : ∀ k, lenM (mv k) ≤ 2000) (self now : Int) (hck : chkT last now = 0) (hwn : 0 ≤ win ∧ win ≤ 100000) {A : List N59} {B : List S27} (hA1 : A.length ≤ 1000) (hB1 : B.length ≤ 1000)
    (hwA : ∀ x ∈ A, okK (kN x)) (hwB : ∀ x ∈ B, okK (kR x)) {adn adr : Option Addr} {cn cr : Nat} (hn : Arr (cx B0 old) H adn 6 en59 A) (hrv : Arr (cx B0 old) H adr 5 en27 B)
    (hbad : ¬ (SrtR (A.map kN) ∧ SrtR (B.map kR)) → Q (.tuple #[.slice none 0 0, .int .i64 10]) (G ++ H))
    (hQ : SrtR (A.map kN) → SrtR (B.map kR) → ∀ v Gv G', Own en59 6 (A.filter fun x => (resK lim win self now cl mv B (kN x)).2.2) v Gv →
      BkG lim win p now (fun k => if k ∈ A.map kN then (resK lim win self now cl mv B k).1 else none) (fun k => if k ∈ A.map kN then (resK lim win self now cl mv B k).2.1 else clM win now (mv k)) G' →
      Q (.tuple #[v, .int .i64 0]) (Gv ++ (G' ++ H))) :
    CallT (cx B0 old) (acall (cx B0 old) ansP (n + 8)) 21 [.pointer (some ⟨p, 0, none⟩), .int .u32 self, .slice adn A.length cn, .slice adr B.length cr, .int .i64 now] (G ++ H) Q := by
  obtain ⟨cb, mb, cs, cc, ms, mc, CG, MG, hC, hM, rfl⟩ := hB
  rw [bk_as] at hbad ⊢
  refine settle21G_ct hC hM hl self now hck hwn hA1 hB1 hwA hwB hn hrv hbad fun h1 h2 v Gv cs' cc' CG' ms' mc' MG' ho hC' hM' => ?_
  have h := hQ h1 h2 v Gv _ ho ⟨cb, mb, cs', cc', ms', mc', CG', MG', hC', hM', rfl⟩
  rw [bk_as] at h
  exact h
theorem claimsGW (hB : BkG lim win p last cl mv G) (hL : CovK L cl) (hQ : ∀ ks v Gv, (∀ k, k ∈ ks ↔ cl k ≠ none) → SrtR ks → Own en57 4 (ks.map (clmO (clG' cl))) v Gv → Q v (Gv ++ (G ++ H))) :
    CallT (cx B0 old) (acall (cx B0 old) ansP (n + 2016)) 25 [.pointer (some ⟨p, 0, none⟩)] (G ++ H) Q := by
  obtain ⟨cb, mb, cs, cc, ms, mc, CG, MG, hC, hM, rfl⟩ := hB
  rw [bk_as] at hQ ⊢
  have hlen := hC.len hL.2.2
  have hcl : cs.length ≤ 2000 := by have := hL.1; omega
  have hkey : ∀ q ∈ cs, q.1 ∈ L := fun q hq => by
    obtain ⟨a, ha⟩ := hC.pc.some q hq
    exact hL.2.2 _ _ ha
  refine claims25_ct (n := n + 2009) (clG' cl) hC.born hC.uq hcl (fun ks hp => sortT (fun x hx => by
    obtain ⟨q, hq, e⟩ := List.mem_map.1 (hp.mem_iff.1 hx)
    exact hL.2.1 _ (by rw [← e]; exact hkey q hq)) (by rw [hp.length_eq, List.length_map]; exact hcl)) (fun q hq => ?_) fun ks v Gv hp hs ho => ?_
  · obtain ⟨k, b, m⟩ := q
    obtain ⟨⟨sq, f⟩, ha⟩ := hC.mem hq
    obtain ⟨b2, Ga, R, e1, hga, hpm, _⟩ := hC.look ha
    obtain rfl : b2 = b := Option.some.inj (e1.symm.trans (hC.uq.lkH hq))
    have hga : Ga = [(b2, .row [.int .u32 sq, .bool f] 2 false)] := hga
    subst hga
    have hf : clG' cl k = (sq, f) := by unfold clG'; rw [ha]; rfl
    rw [hf]
    exact List.mem_append_left _ (hpm.mem_iff.2 (List.Mem.head _))
  · have hmem : ∀ k, k ∈ ks ↔ cl k ≠ none := fun k => by
      rw [hp.mem_iff]
      constructor
      · intro h
        obtain ⟨q, hq, e⟩ := List.mem_map.1 h
        obtain ⟨a, ha⟩ := hC.pc.some q hq
        rw [e] at ha
        rw [ha]; simp
      · intro h
        cases hk : cl k with
        | none => exact absurd hk h
        | some a =>
          obtain ⟨b, m, hm⟩ := hC.dom k a hk
          exact List.mem_map.2 ⟨_, hm, rfl⟩
    refine hQ ks v Gv hmem (srt_mk hs (hp.nodup_iff.2 hC.uq) fun k hk => ?_) ho
    cases hk2 : cl k with
    | none => exact absurd hk2 ((hmem k).1 hk)
    | some a => exact hL.2.1 _ (hL.2.2 k a hk2)
end
end Go.Proofs.Ytoimfchhmocgeaa.Abs

/- The contract of the statement MobilityClaims. -/
namespace Go.Proofs.Ytoimfchhmocgeaa.Abs
open Go
set_option linter.unusedVariables false
/-- What an act's slices hold. -/
def ActI (C : Ctx) (H : Hp) (x : S52) : Prop := ∃ (A : List N59) (B : List S27) (adn adr : Option Addr) (cn cr : Nat), x.a3 = (adn, A.length, cn) ∧ x.a4 = (adr, B.length, cr) ∧ Arr C H adn 6 en59 A ∧ Arr C H adr 5 en27 B ∧ (∀ y ∈ A, okK (kN y)) ∧ ∀ y ∈ B, okK (kR y)
theorem N59_ext {a b : N59} (h0 : a.a0 = b.a0) (h1 : a.a1 = b.a1) (h2 : a.a2 = b.a2) (h3 : a.a3 = b.a3) (h4 : a.a4 = b.a4) (h5 : a.a5 = b.a5) : a = b := by
  obtain ⟨a0, a1, a2, a3, a4, a5⟩ := a
  obtain ⟨b0, b1, b2, b3, b4, b5⟩ := b
  simp only at h0 h1 h2 h3 h4 h5
  subst h0 h1 h2 h3 h4 h5
  rfl
theorem leaf59_ne {a b : N59} (h : a ≠ b) : leafsEq (en59 a) (en59 b) = false := by
  cases e : leafsEq (en59 a) (en59 b) with
  | false => rfl
  | true =>
    simp only [leafsEq, leafEq, en59, Bool.and_true, Bool.and_eq_true, beq_iff_eq] at e
    exact absurd (N59_ext (by simp_all) (by simp_all) (by simp_all) (by simp_all) (by simp_all) (by simp_all)) h
theorem filter_at {α : Type} {f : α → Bool} {A : List α} {i : Nat} {x : α} (hx : A[i]? = some x) (hf : f x = true) : (A.filter f)[((A.take i).filter f).length]? = some x := by
  have e : A = A.take i ++ x :: A.drop (i + 1) := by
    obtain ⟨hl, rfl⟩ := List.getElem?_eq_some_iff.1 hx
    rw [← List.drop_eq_getElem_cons hl, List.take_append_drop]
  have : (A.filter f) = (A.take i).filter f ++ x :: (A.drop (i + 1)).filter f := by
    conv => lhs; rw [e]
    rw [List.filter_append, List.filter_cons_of_pos hf]
  rw [this, List.getElem?_append_right (Nat.le_refl _), Nat.sub_self]
  rfl
theorem filter_step {α : Type} (f : α → Bool) {A : List α} {i : Nat} {x : α} (hx : A[i]? = some x) : ((A.take (i + 1)).filter f).length = ((A.take i).filter f).length + (if f x = true then 1 else 0) := by
  have htk : A.take (i + 1) = A.take i ++ [x] := by rw [List.take_add_one, hx]; rfl
  rw [htk, List.filter_append, List.length_append]
  cases h : f x
  · rw [List.filter_cons_of_neg (by simp [h])]; rfl
  · rw [List.filter_cons_of_pos h]; rfl
section
variable {B0 : Nat} {old : Nat → Option (List Value)} {n : Nat} {H : Hp} {Q : Value → Hp → Prop}
set_option maxRecDepth 10000
set_option maxHeartbeats 32000000
theorem rivalled27_ct {adr : Option Addr} {cr : Nat} {B : List S27} (hB : Arr (cx B0 old) H adr 5 en27 B) (hl : B.length ≤ 100000) (y : N59) {r0 : S27} (hr0 : r0 ∈ B) (hk : kR r0 = kN y) (h3 : r0.a3 ≠ 0) (hQ : Q (.bool true) H) :
    CallT (cx B0 old) (acall (cx B0 old) ansP (n + 1)) 27 [.slice adr B.length cr, .agg ⟨en59 y⟩] H Q := by
  refine call_in2 38 rfl Try.func27 rfl rfl ?_
  unfold en59
  repeat (first | refine Z0 ?_ | (refine ZR ?_; first | refine x1 ?_ | refine x2 ?_ | refine x8 ?_ | refine Z1 ?_ | refine Z2 ?_ | refine x3 fun _ => ?_ | refine x4 fun _ => ?_ | refine x5 fun _ => ?_ | refine Z3 fun _ => ?_ | refine Z4 fun _ => ?_) | refine ZC ?_)
  rename_i t3
  obtain ⟨j0, hj0⟩ := List.mem_iff_getElem?.1 hr0
  refine loop_ind (ι := Nat) 0 (fun i => B.length - i) (fun i => i ≤ j0) (fun i => [(5, .int .i64 (i : Int)), (3, .pointer (some ⟨t3, 0, none⟩)), (0, .slice adr B.length cr)])
    (fun _ => (t3, AObj.row [.int .i64 y.a0, .int .i64 y.a1, .int .u64 y.a2, .int .u32 y.a3, .bool y.a4, .int .i64 y.a5] 6 false) :: H) (Nat.zero_le _) (by repeat (first | exact SubL.nil | refine SubL.cons rfl ?_)) (List.Sublist.refl _) ?_
  have hjl := (List.getElem?_eq_some_iff.1 hj0).1
  intro i hi
  repeat (first | refine Z0 ?_ | (refine ZR ?_; first | refine x1 ?_ | refine x2 ?_ | refine x8 ?_ | refine Z1 ?_ | refine Z2 ?_ | refine x3 fun _ => ?_ | refine x4 fun _ => ?_ | refine x5 fun _ => ?_ | refine Z3 fun _ => ?_ | refine Z4 fun _ => ?_) | refine ZC ?_)
  rw [show decide ((i : Int) < (B.length : Int)) = true from decide_eq_true (by omega)]
  repeat (first | refine Z0 ?_ | (refine ZR ?_; first | refine x1 ?_ | refine x2 ?_ | refine x8 ?_ | refine Z1 ?_ | refine Z2 ?_ | refine x3 fun _ => ?_ | refine x4 fun _ => ?_ | refine x5 fun _ => ?_ | refine Z3 fun _ => ?_ | refine Z4 fun _ => ?_) | refine ZC ?_)
  obtain ⟨r, hr⟩ : ∃ r, B[i]? = some r := ⟨_, List.getElem?_eq_getElem (by omega)⟩
  obtain ⟨b1, o1, e1, hL0⟩ := hB.ldF 3 0 hr rfl rfl rfl (sz rfl)
  obtain ⟨b2, o2, e2, hL1⟩ := hB.ldF 25 1 hr rfl rfl rfl (sz rfl)
  obtain ⟨b3, o3, e3, hL2⟩ := hB.ldF 23 3 hr rfl rfl rfl (sz rfl)
  subst e1
  cases e2
  cases e3
  refine ct_draw (masks := [0, 0, 3, 7, 15, 0, 32, 127, 255, 511, 511, 2047, 4095, 8191, 511, 16895, 65535, 131071, 262143, 524287, 524287, 2097151, 4194303, 8388607, 16777215, 33554431]) (plan := [0, 1, 2, 3, 4, 5, 6, 7, 8, 9, 10, 11, 12, 13, 14, 15, 16, 17, 18, 19, 20, 21, 22, 23, 24, 25]) (E := []) (by kernel_rfl) (by kernel_rfl) (by kernel_rfl) (by kernel_rfl) ?_
  repeat (first | refine Y0 ?_ | (refine YP ?_; first | refine y1 ?_ | refine y2 ?_ | refine Y1 ?_ | refine Y2 ?_))
  by_cases hm : (r.a0 = y.a0 ∧ r.a1 = y.a2) ∧ r.a3 ≠ 0
  · rw [show (r.a0 == y.a0) = true from beq_iff_eq.2 hm.1.1]
    repeat (first | refine Y0 ?_ | (refine YP ?_; first | refine y1 ?_ | refine y2 ?_ | refine Y1 ?_ | refine Y2 ?_))
    rw [show (r.a1 == y.a2) = true from beq_iff_eq.2 hm.1.2]
    repeat (first | refine Y0 ?_ | (refine YP ?_; first | refine y1 ?_ | refine y2 ?_ | refine Y1 ?_ | refine Y2 ?_))
    rw [show (r.a3 != 0) = true from bne_iff_ne.2 hm.2]
    repeat (first | refine Y0 ?_ | (refine YP ?_; first | refine y1 ?_ | refine y2 ?_ | refine Y1 ?_ | refine Y2 ?_))
    repeat (first | refine Z0 ?_ | (refine ZR ?_; first | refine x1 ?_ | refine x2 ?_ | refine x8 ?_ | refine Z1 ?_ | refine Z2 ?_ | refine x3 fun _ => ?_ | refine x4 fun _ => ?_ | refine x5 fun _ => ?_ | refine Z3 fun _ => ?_ | refine Z4 fun _ => ?_) | refine ZC ?_)
    exact re_1 rfl rfl (List.sublist_cons_self _ _) hQ
  have hne : i ≠ j0 := fun e => by
    subst e
    obtain rfl : r = r0 := Option.some.inj (hr.symm.trans hj0)
    exact hm ⟨⟨congrArg Kk.bd hk, congrArg Kk.mac hk⟩, h3⟩
  by_cases h0 : r.a0 = y.a0
  · rw [show (r.a0 == y.a0) = true from beq_iff_eq.2 h0]
    repeat (first | refine Y0 ?_ | (refine YP ?_; first | refine y1 ?_ | refine y2 ?_ | refine Y1 ?_ | refine Y2 ?_))
    by_cases h1 : r.a1 = y.a2
    · rw [show (r.a1 == y.a2) = true from beq_iff_eq.2 h1]
      repeat (first | refine Y0 ?_ | (refine YP ?_; first | refine y1 ?_ | refine y2 ?_ | refine Y1 ?_ | refine Y2 ?_))
      rw [show (r.a3 != 0) = false from bne_eq_false_iff_eq.2 (Classical.byContradiction fun g => hm ⟨⟨h0, h1⟩, g⟩)]
      repeat (first | refine Y0 ?_ | (refine YP ?_; first | refine y1 ?_ | refine y2 ?_ | refine Y1 ?_ | refine Y2 ?_))
      repeat (first | refine Z0 ?_ | (refine ZR ?_; first | refine x1 ?_ | refine x2 ?_ | refine x8 ?_ | refine Z1 ?_ | refine Z2 ?_ | refine x3 fun _ => ?_ | refine x4 fun _ => ?_ | refine x5 fun _ => ?_ | refine Z3 fun _ => ?_ | refine Z4 fun _ => ?_) | refine ZC ?_)
      exact ⟨i + 1, by omega, by omega, by repeat (first | exact SubL.nil | refine SubL.cons rfl ?_), by exact drop_auto⟩
    · rw [show (r.a1 == y.a2) = false from beq_eq_false_iff_ne.2 h1]
      repeat (first | refine Y0 ?_ | (refine YP ?_; first | refine y1 ?_ | refine y2 ?_ | refine Y1 ?_ | refine Y2 ?_))
      repeat (first | refine Z0 ?_ | (refine ZR ?_; first | refine x1 ?_ | refine x2 ?_ | refine x8 ?_ | refine Z1 ?_ | refine Z2 ?_ | refine x3 fun _ => ?_ | refine x4 fun _ => ?_ | refine x5 fun _ => ?_ | refine Z3 fun _ => ?_ | refine Z4 fun _ => ?_) | refine ZC ?_)
      exact ⟨i + 1, by omega, by omega, by repeat (first | exact SubL.nil | refine SubL.cons rfl ?_), by exact drop_auto⟩
  · rw [show (r.a0 == y.a0) = false from beq_eq_false_iff_ne.2 h0]
    repeat (first | refine Y0 ?_ | (refine YP ?_; first | refine y1 ?_ | refine y2 ?_ | refine Y1 ?_ | refine Y2 ?_))
    repeat (first | refine Z0 ?_ | (refine ZR ?_; first | refine x1 ?_ | refine x2 ?_ | refine x8 ?_ | refine Z1 ?_ | refine Z2 ?_ | refine x3 fun _ => ?_ | refine x4 fun _ => ?_ | refine x5 fun _ => ?_ | refine Z3 fun _ => ?_ | refine Z4 fun _ => ?_) | refine ZC ?_)
    exact ⟨i + 1, by omega, by omega, by repeat (first | exact SubL.nil | refine SubL.cons rfl ?_), by exact drop_auto⟩
end
end Go.Proofs.Ytoimfchhmocgeaa.Abs

/- The contract of the statement MobilityClaims, the walk. -/
namespace Go.Proofs.Ytoimfchhmocgeaa.Abs
open Go
set_option linter.unusedVariables false
theorem pk_a {t : Nat × AObj} {V G X : Hp} : (G ++ (V ++ (t :: X))).Perm (V ++ (G ++ (t :: X))) := List.perm_append_comm_assoc G V (t :: X)
theorem rv_some {B : List S27} {k : Kk} (h : (rvOf B k).a3 ≠ 0) : ∃ r ∈ B, kR r = k ∧ r.a3 ≠ 0 := by
  unfold rvOf at h
  cases e : B.find? (fun r => decide (kR r = k)) with
  | none => rw [e] at h; exact absurd rfl h
  | some r =>
    rw [e] at h
    have h2 := List.find?_some e
    exact ⟨r, List.mem_of_find?_eq_some e, by simpa using h2, h⟩
theorem srt_nodup {ks : List Kk} (h : SrtR ks) : ks.Nodup := by
  unfold SrtR at h
  rw [List.pairwise_map] at h
  exact h.imp fun {a b} h e => by rw [e] at h; omega
section
variable {B0 : Nat} {old : Nat → Option (List Value)} {n : Nat} {H : Hp} {Q : Value → Hp → Prop}
set_option maxRecDepth 10000
set_option maxHeartbeats 32000000
theorem claims5_ct {ad : Option Addr} {c : Nat} {L : List S52} (hL : Arr (cx B0 old) H ad 7 en52 L) (hact : ∀ x ∈ L, ActI (cx B0 old) H x) (a b : Int) (hQ : ∀ H', Q (.bool true) H') :
    CallT (cx B0 old) (acall (cx B0 old) ansP (n + 2018)) 5 [.int .i64 a, .int .i64 b, .slice ad L.length c] H Q := by
  refine call_in3 162 rfl Try.func5 rfl rfl ?_
  repeat (first | refine Z0 ?_ | (refine ZR ?_; first | refine x1 ?_ | refine x2 ?_ | refine x8 ?_ | refine Z1 ?_ | refine Z2 ?_ | refine x3 fun _ => ?_ | refine x4 fun _ => ?_ | refine x5 fun _ => ?_ | refine Z3 fun _ => ?_ | refine Z4 fun _ => ?_) | refine ZC ?_)
  refine rt_step rfl rfl rfl (st_call rfl rfl rfl rfl (known4_ct ?_))
  repeat (first | refine Z0 ?_ | (refine ZR ?_; first | refine x1 ?_ | refine x2 ?_ | refine x8 ?_ | refine Z1 ?_ | refine Z2 ?_ | refine x3 fun _ => ?_ | refine x4 fun _ => ?_ | refine x5 fun _ => ?_ | refine Z3 fun _ => ?_ | refine Z4 fun _ => ?_) | refine ZC ?_)
  refine rt_step rfl rfl rfl (st_call rfl rfl rfl rfl (pick24_ct a 100 (by decide) (by decide) fun lim0 hl0 hl1 => ?_))
  repeat (first | refine Z0 ?_ | (refine ZR ?_; first | refine x1 ?_ | refine x2 ?_ | refine x8 ?_ | refine Z1 ?_ | refine Z2 ?_ | refine x3 fun _ => ?_ | refine x4 fun _ => ?_ | refine x5 fun _ => ?_ | refine Z3 fun _ => ?_ | refine Z4 fun _ => ?_) | refine ZC ?_)
  refine rt_step rfl rfl rfl (st_call rfl rfl rfl rfl (pick24_ct b 10000 (by decide) (by decide) fun win0 hw0 hw1 => ?_))
  repeat (first | refine Z0 ?_ | (refine ZR ?_; first | refine x1 ?_ | refine x2 ?_ | refine x8 ?_ | refine Z1 ?_ | refine Z2 ?_ | refine x3 fun _ => ?_ | refine x4 fun _ => ?_ | refine x5 fun _ => ?_ | refine Z3 fun _ => ?_ | refine Z4 fun _ => ?_) | refine ZC ?_)
  obtain ⟨lim, hlim⟩ : ∃ lim, 1 + lim0 = lim := ⟨_, rfl⟩
  obtain ⟨win, hwin⟩ : ∃ win, 1 + win0 = win := ⟨_, rfl⟩
  rw [hlim, hwin]
  refine rt_step rfl rfl rfl (st_call rfl rfl rfl rfl (newGW lim win (by omega) (by omega) fun p G hB => ?_))
  repeat (first | refine Z0 ?_ | (refine ZR ?_; first | refine x1 ?_ | refine x2 ?_ | refine x8 ?_ | refine Z1 ?_ | refine Z2 ?_ | refine x3 fun _ => ?_ | refine x4 fun _ => ?_ | refine x5 fun _ => ?_ | refine Z3 fun _ => ?_ | refine Z4 fun _ => ?_) | refine ZC ?_)
  refine ct_condT te_d rfl (fun hc => ?_) (fun hc => ?_)
  · repeat (first | refine Z0 ?_ | (refine ZR ?_; first | refine x1 ?_ | refine x2 ?_ | refine x8 ?_ | refine Z1 ?_ | refine Z2 ?_ | refine x3 fun _ => ?_ | refine x4 fun _ => ?_ | refine x5 fun _ => ?_ | refine Z3 fun _ => ?_ | refine Z4 fun _ => ?_) | refine ZC ?_)
    exact re_1 rfl rfl (List.Sublist.refl _) (hQ _)
  repeat (first | refine Z0 ?_ | (refine ZR ?_; first | refine x1 ?_ | refine x2 ?_ | refine x8 ?_ | refine Z1 ?_ | refine Z2 ?_ | refine x3 fun _ => ?_ | refine x4 fun _ => ?_ | refine x5 fun _ => ?_ | refine Z3 fun _ => ?_ | refine Z4 fun _ => ?_) | refine ZC ?_)
  refine loop_ind (ι := Nat × (Kk → Option (Int × Bool)) × (Kk → Option (List Int × Bool)) × Int × Hp × List Kk) (0, (fun _ => none), (fun _ => none), 0, G, []) (fun j => L.length - j.1)
    (fun j => j.1 ≤ L.length ∧ BkG lim win p j.2.2.2.1 j.2.1 j.2.2.1 j.2.2.2.2.1 ∧ CovK j.2.2.2.2.2 j.2.1 ∧ (∀ k, lenM (j.2.2.1 k) ≤ j.1) ∧ 0 ≤ j.2.2.2.1 ∧ j.2.2.2.1 ≤ 3 * j.1)
    (fun j => [(10, .int .i64 (j.1 : Int)), (8, .pointer (some ⟨p, 0, none⟩)), (7, .bool true), (2, .slice ad L.length c)]) (fun j => j.2.2.2.2.1 ++ H)
    ⟨Nat.zero_le _, hB, ⟨Nat.zero_le _, fun k h => (by cases h), fun k a h => (by cases h)⟩, fun k => Nat.le_refl _, Int.le_refl _, Int.le_refl _⟩ (by repeat (first | exact SubL.nil | refine SubL.cons rfl ?_)) (List.Sublist.refl _) ?_
  clear hB
  rintro ⟨i, cl, mv, last, G, Kl⟩ ⟨hi, hB, hcov, hmv, hla, hla2⟩
  dsimp only at hi hB hcov hmv hla hla2 ⊢
  repeat (first | refine Z0 ?_ | (refine ZR ?_; first | refine x1 ?_ | refine x2 ?_ | refine x8 ?_ | refine Z1 ?_ | refine Z2 ?_ | refine x3 fun _ => ?_ | refine x4 fun _ => ?_ | refine x5 fun _ => ?_ | refine Z3 fun _ => ?_ | refine Z4 fun _ => ?_) | refine ZC ?_)
  refine ct_condT te_d rfl (fun hlt => ?_) (fun hlt => ?_)
  rotate_left
  · repeat (first | refine Z0 ?_ | (refine ZR ?_; first | refine x1 ?_ | refine x2 ?_ | refine x8 ?_ | refine Z1 ?_ | refine Z2 ?_ | refine x3 fun _ => ?_ | refine x4 fun _ => ?_ | refine x5 fun _ => ?_ | refine Z3 fun _ => ?_ | refine Z4 fun _ => ?_) | refine ZC ?_)
    exact re_1 rfl rfl (List.Sublist.refl _) (hQ _)
  obtain ⟨x, hx⟩ : ∃ x, L[i]? = some x := ⟨_, List.getElem?_eq_getElem (by omega)⟩
  obtain ⟨A, B, adn, adr, cn, cr, e3, e4, hA, hBr, hwA, hwB⟩ := hact x (List.mem_iff_getElem?.2 ⟨i, hx⟩)
  obtain ⟨b1, o1, e1, hL0⟩ := hL.ldW 52 hx rfl (sz rfl)
  subst e1
  obtain ⟨kd, sp, self, s3, s4, bd, mac⟩ := x
  dsimp only at e3 e4
  subst e3
  subst e4
  unfold en52 at hL0
  dsimp only at hL0
  repeat (first | refine Z0 ?_ | (refine ZR ?_; first | refine x1 ?_ | refine x2 ?_ | refine x8 ?_ | refine Z1 ?_ | refine Z2 ?_ | refine x3 fun _ => ?_ | refine x4 fun _ => ?_ | refine x5 fun _ => ?_ | refine Z3 fun _ => ?_ | refine Z4 fun _ => ?_) | refine ZC ?_)
  rename_i t11
  obtain ⟨ROW, hROW⟩ : ∃ ROW, AObj.row [.int .i64 kd, .int .i64 sp, .int .u32 self, .slice adn A.length cn, .slice adr B.length cr, .int .i64 bd, .int .u64 mac] 7 false = ROW := ⟨_, rfl⟩
  by_cases hA30 : A.length > 30
  · rw [show decide ((A.length : Int) > 30) = true from decide_eq_true (by omega)]
    repeat (first | refine Z0 ?_ | (refine ZR ?_; first | refine x1 ?_ | refine x2 ?_ | refine x8 ?_ | refine Z1 ?_ | refine Z2 ?_ | refine x3 fun _ => ?_ | refine x4 fun _ => ?_ | refine x5 fun _ => ?_ | refine Z3 fun _ => ?_ | refine Z4 fun _ => ?_) | refine ZC ?_)
    exact re_1 rfl rfl (List.Sublist.refl _) (hQ _)
  rw [show decide ((A.length : Int) > 30) = false from decide_eq_false (by omega)]
  repeat (first | refine Z0 ?_ | (refine ZR ?_; first | refine x1 ?_ | refine x2 ?_ | refine x8 ?_ | refine Z1 ?_ | refine Z2 ?_ | refine x3 fun _ => ?_ | refine x4 fun _ => ?_ | refine x5 fun _ => ?_ | refine Z3 fun _ => ?_ | refine Z4 fun _ => ?_) | refine ZC ?_)
  by_cases hB30 : B.length > 30
  · rw [show decide ((B.length : Int) > 30) = true from decide_eq_true (by omega)]
    repeat (first | refine Z0 ?_ | (refine ZR ?_; first | refine x1 ?_ | refine x2 ?_ | refine x8 ?_ | refine Z1 ?_ | refine Z2 ?_ | refine x3 fun _ => ?_ | refine x4 fun _ => ?_ | refine x5 fun _ => ?_ | refine Z3 fun _ => ?_ | refine Z4 fun _ => ?_) | refine ZC ?_)
    exact re_1 rfl rfl (List.Sublist.refl _) (hQ _)
  rw [show decide ((B.length : Int) > 30) = false from decide_eq_false (by omega)]
  repeat (first | refine Z0 ?_ | (refine ZR ?_; first | refine x1 ?_ | refine x2 ?_ | refine x8 ?_ | refine Z1 ?_ | refine Z2 ?_ | refine x3 fun _ => ?_ | refine x4 fun _ => ?_ | refine x5 fun _ => ?_ | refine Z3 fun _ => ?_ | refine Z4 fun _ => ?_) | refine ZC ?_)
  rw [hROW]
  refine rt_step rfl rfl rfl (st_call rfl rfl rfl rfl (CallT.perm (claimsGW (n := n + 1) (H := (t11, ROW) :: H) hB hcov fun ks0 v0 Gv0 hm0' hs0 ho0 => ?_) List.perm_middle))
  obtain ⟨adc, cc0, ec, gc0⟩ := ho0.arrW (C := cx B0 old) en57_len
  subst ec
  rw [← hROW]
  repeat (first | refine Z0 ?_ | (refine ZR ?_; first | refine x1 ?_ | refine x2 ?_ | refine x8 ?_ | refine Z1 ?_ | refine Z2 ?_ | refine x3 fun _ => ?_ | refine x4 fun _ => ?_ | refine x5 fun _ => ?_ | refine Z3 fun _ => ?_ | refine Z4 fun _ => ?_) | refine ZC ?_)
  rw [hROW]
  have hck : chkT last (3 * (i : Int)) = 0 := by unfold chkT; rw [if_neg (by omega), if_neg (by omega)]
  refine rt_step rfl rfl rfl (st_call rfl rfl rfl rfl (CallT.perm (settleGW (n := n + 2009) (H := Gv0 ++ ((t11, ROW) :: H)) hB (fun k => by have := hmv k; omega) self (3 * (i : Int)) hck ⟨by omega, by omega⟩ (by omega) (by omega) hwA hwB (hA.weak (by exact drop_auto)) (hBr.weak (by exact drop_auto)) (fun hbad => ?_) fun hsA hsB v Gv G' ho hB' => ?_) pk_a))
  · rw [← hROW]
    repeat (first | refine Z0 ?_ | (refine ZR ?_; first | refine x1 ?_ | refine x2 ?_ | refine x8 ?_ | refine Z1 ?_ | refine Z2 ?_ | refine x3 fun _ => ?_ | refine x4 fun _ => ?_ | refine x5 fun _ => ?_ | refine Z3 fun _ => ?_ | refine Z4 fun _ => ?_) | refine ZC ?_)
    rw [hROW]
    refine rt_step rfl rfl rfl (st_call rfl rfl rfl rfl (claimsGW (n := n + 1) (H := Gv0 ++ ((t11, ROW) :: H)) hB hcov fun ks1 v1 Gv1 hm1 hs1 ho1 => ?_))
    obtain rfl : ks1 = ks0 := srt_eq hs1 hs0 fun k => (hm1 k).trans (hm0' k).symm
    obtain ⟨ad1, c1, e1, g1⟩ := ho1.arrW (C := cx B0 old) en57_len
    subst e1
    repeat (first | refine Z0 ?_ | (refine ZR ?_; first | refine x1 ?_ | refine x2 ?_ | refine x8 ?_ | refine Z1 ?_ | refine Z2 ?_ | refine x3 fun _ => ?_ | refine x4 fun _ => ?_ | refine x5 fun _ => ?_ | refine Z3 fun _ => ?_ | refine Z4 fun _ => ?_) | refine ZC ?_)
    have hkl : (ks1.map (clmO (clG' cl))).length ≤ 1000 := by
      rw [List.length_map]
      refine Nat.le_trans (nd_len (m := Kl) (srt_nodup hs1) fun k hk => ?_) hcov.1
      cases hk2 : cl k with
      | none => exact absurd hk2 ((hm1 k).1 hk)
      | some a => exact hcov.2.2 k a hk2
    refine rt_step rfl rfl rfl (st_call rfl rfl rfl rfl (same26_ct ((g1 [] (G ++ (Gv0 ++ ((t11, ROW) :: H)))).arr en57_len) (((gc0 [] ((t11, ROW) :: H)).arr en57_len).weak (by exact drop_auto)) (by omega) ?_))
    repeat (first | refine Z0 ?_ | (refine ZR ?_; first | refine x1 ?_ | refine x2 ?_ | refine x8 ?_ | refine Z1 ?_ | refine Z2 ?_ | refine x3 fun _ => ?_ | refine x4 fun _ => ?_ | refine x5 fun _ => ?_ | refine Z3 fun _ => ?_ | refine Z4 fun _ => ?_) | refine ZC ?_)
    exact ⟨(i + 1, cl, mv, last, G, Kl), ⟨by dsimp only; omega, hB, hcov, fun k => Nat.le_succ_of_le (hmv k), hla, by dsimp only; omega⟩, by dsimp only; omega, by repeat (first | exact SubL.nil | refine SubL.cons rfl ?_), by exact drop_auto⟩
  have hres := fun k => rule0_gone (lim := lim) (win := win) (self := self) (now := 3 * (i : Int)) (cl := cl k) (mv := clM win (3 * (i : Int)) (mv k)) (r := rvOf B k)
  have hrl := fun k => rule0_len lim win self (3 * (i : Int)) (cl k) (mv k) (rvOf B k)
  have hcl3 := fun k => clM_len win (3 * (i : Int)) (mv k)
  change ∀ k, ((resK lim win self (3 * (i : Int)) cl mv B k).2.2 = true → (resK lim win self (3 * (i : Int)) cl mv B k).1 = none ∧ (rvOf B k).a3 ≠ 0) ∧ ((resK lim win self (3 * (i : Int)) cl mv B k).2.2 = false → (resK lim win self (3 * (i : Int)) cl mv B k).1 ≠ none) at hres
  change ∀ k, lenM (resK lim win self (3 * (i : Int)) cl mv B k).2.1 ≤ lenM (mv k) + 1 at hrl
  generalize resK lim win self (3 * (i : Int)) cl mv B = res at *
  obtain ⟨gv, hgv⟩ : ∃ gv : N59 → Bool, (fun x => (res (kN x)).2.2) = gv := ⟨_, rfl⟩
  rw [hgv] at ho
  have hcov' : CovK (A.map kN) (fun k => if k ∈ A.map kN then (res k).1 else none) := ⟨by rw [List.length_map]; omega, fun k hk => by
    obtain ⟨y, hy, e⟩ := List.mem_map.1 hk
    rw [← e]; exact hwA y hy, fun k a h => by
    by_cases hk : k ∈ A.map kN
    · exact hk
    · have h : (if k ∈ A.map kN then (res k).1 else none) = some a := h
      rw [if_neg hk] at h; cases h⟩
  have hmv' : ∀ k, lenM ((fun k => if k ∈ A.map kN then (res k).2.1 else clM win (3 * (i : Int)) (mv k)) k) ≤ i + 1 := fun k => by
    have h0 := hmv k
    have h1 := hrl k
    have h2 := hcl3 k
    show lenM (if k ∈ A.map kN then (res k).2.1 else clM win (3 * (i : Int)) (mv k)) ≤ i + 1
    by_cases hk : k ∈ A.map kN
    · rw [if_pos hk]; omega
    · rw [if_neg hk]; omega
  generalize (fun k => if k ∈ A.map kN then (res k).2.1 else clM win (3 * (i : Int)) (mv k)) = mvN at *
  obtain ⟨adg, cg, eg, gg⟩ := ho.arrW (C := cx B0 old) en59_len
  subst eg
  rw [← hROW]
  repeat (first | refine Z0 ?_ | (refine ZR ?_; first | refine x1 ?_ | refine x2 ?_ | refine x8 ?_ | refine Z1 ?_ | refine Z2 ?_ | refine x3 fun _ => ?_ | refine x4 fun _ => ?_ | refine x5 fun _ => ?_ | refine Z3 fun _ => ?_ | refine Z4 fun _ => ?_) | refine ZC ?_)
  rw [hROW]
  refine rt_step rfl rfl rfl (st_call rfl rfl rfl rfl (CallT.perm (claimsGW (n := n + 1) (H := Gv ++ (Gv0 ++ ((t11, ROW) :: H))) hB' hcov' fun ks2 v2 Gv2 hm2' hs2 ho2 => ?_) (List.perm_append_comm_assoc _ _ _)))
  obtain rfl : ks2 = (A.filter fun x => !gv x).map kN := srt_eq hs2 (srt_sub hsA (List.filter_sublist.map _)) fun k => by
    refine (hm2' k).trans ⟨fun h => ?_, fun hm => ?_⟩
    · by_cases hk : k ∈ A.map kN
      · rw [if_pos hk] at h
        obtain ⟨y, hy, e⟩ := List.mem_map.1 hk
        refine List.mem_map.2 ⟨y, List.mem_filter.2 ⟨hy, ?_⟩, e⟩
        rw [← hgv]
        dsimp only
        rw [e]
        cases h2 : (res k).2.2 with
        | false => rfl
        | true => exact absurd ((hres k).1 h2).1 h
      · rw [if_neg hk] at h; exact absurd rfl h
    · obtain ⟨y, hy, e⟩ := List.mem_map.1 hm
      obtain ⟨hy1, hy2⟩ := List.mem_filter.1 hy
      have hk : k ∈ A.map kN := by rw [← e]; exact List.mem_map_of_mem hy1
      rw [if_pos hk]
      refine (hres k).2 ?_
      rw [← hgv] at hy2
      dsimp only at hy2
      rw [e] at hy2
      simpa using hy2
  generalize (fun k => if k ∈ A.map kN then (res k).1 else none) = clN at *
  obtain ⟨ad2, c2, e2, g2⟩ := ho2.arrW (C := cx B0 old) en57_len
  rw [List.length_map, List.length_map] at e2
  subst e2
  have hga : Arr (cx B0 old) (Gv2 ++ (G' ++ (Gv ++ (Gv0 ++ ((t11, ROW) :: H))))) adg 6 en59 (A.filter gv) := ((gg [] (Gv0 ++ ((t11, ROW) :: H))).arr en59_len).weak (by exact drop_auto)
  have hca : Arr (cx B0 old) (Gv2 ++ (G' ++ (Gv ++ (Gv0 ++ ((t11, ROW) :: H))))) ad2 4 en57 (((A.filter fun x => !gv x).map kN).map (clmO (clG' clN))) := (g2 [] _).arr en57_len
  clear gg g2 gc0 ho0 hB
  repeat (first | refine Z0 ?_ | (refine ZR ?_; first | refine x1 ?_ | refine x2 ?_ | refine x8 ?_ | refine Z1 ?_ | refine Z2 ?_ | refine x3 fun _ => ?_ | refine x4 fun _ => ?_ | refine x5 fun _ => ?_ | refine Z3 fun _ => ?_ | refine Z4 fun _ => ?_) | refine ZC ?_)
  rw [← hROW] at hga hca ⊢
  refine loop_ind (ι := Nat) 0 (fun j => A.length - j) (fun j => j ≤ A.length)
    (fun j => [(18, .int .i64 (j : Int)), (17, .int .i64 (((A.take j).filter fun x => !gv x).length : Int)), (16, .int .i64 (((A.take j).filter gv).length : Int)), (15, .slice ad2 (A.filter fun x => !gv x).length c2), (13, .slice adg (A.filter gv).length cg), (11, .pointer (some ⟨t11, 0, none⟩)), (10, .int .i64 (i : Int)), (8, .pointer (some ⟨p, 0, none⟩)), (7, .bool true), (2, .slice (some ⟨b1, o1, none⟩) L.length c)])
    (fun _ => Gv2 ++ (G' ++ (Gv ++ (Gv0 ++ ((t11, AObj.row [.int .i64 kd, .int .i64 sp, .int .u32 self, .slice adn A.length cn, .slice adr B.length cr, .int .i64 bd, .int .u64 mac] 7 false) :: H))))) (Nat.zero_le _) (by repeat (first | exact SubL.nil | refine SubL.cons rfl ?_)) (List.Sublist.refl _) ?_
  intro j hj
  repeat (first | refine Z0 ?_ | (refine ZR ?_; first | refine x1 ?_ | refine x2 ?_ | refine x8 ?_ | refine Z1 ?_ | refine Z2 ?_ | refine x3 fun _ => ?_ | refine x4 fun _ => ?_ | refine x5 fun _ => ?_ | refine Z3 fun _ => ?_ | refine Z4 fun _ => ?_) | refine ZC ?_)
  refine ct_condT te_d rfl (fun hjl => ?_) (fun hjl => ?_)
  rotate_left
  · obtain rfl : j = A.length := by omega
    rw [List.take_length]
    repeat (first | refine Z0 ?_ | (refine ZR ?_; first | refine x1 ?_ | refine x2 ?_ | refine x8 ?_ | refine Z1 ?_ | refine Z2 ?_ | refine x3 fun _ => ?_ | refine x4 fun _ => ?_ | refine x5 fun _ => ?_ | refine Z3 fun _ => ?_ | refine Z4 fun _ => ?_) | refine ZC ?_)
    rw [show (((A.filter gv).length : Int) != ((A.filter gv).length : Int)) = false by simp]
    repeat (first | refine Z0 ?_ | (refine ZR ?_; first | refine x1 ?_ | refine x2 ?_ | refine x8 ?_ | refine Z1 ?_ | refine Z2 ?_ | refine x3 fun _ => ?_ | refine x4 fun _ => ?_ | refine x5 fun _ => ?_ | refine Z3 fun _ => ?_ | refine Z4 fun _ => ?_) | refine ZC ?_)
    rw [show (((A.filter fun x => !gv x).length : Int) != ((A.filter fun x => !gv x).length : Int)) = false by simp]
    repeat (first | refine Z0 ?_ | (refine ZR ?_; first | refine x1 ?_ | refine x2 ?_ | refine x8 ?_ | refine Z1 ?_ | refine Z2 ?_ | refine x3 fun _ => ?_ | refine x4 fun _ => ?_ | refine x5 fun _ => ?_ | refine Z3 fun _ => ?_ | refine Z4 fun _ => ?_) | refine ZC ?_)
    exact ⟨(i + 1, clN, mvN, 3 * (i : Int), G', A.map kN), ⟨by dsimp only; omega, hB', hcov', hmv', by dsimp only; omega, by dsimp only; omega⟩, by dsimp only; omega, by repeat (first | exact SubL.nil | refine SubL.cons rfl ?_), by exact drop_auto⟩
  obtain ⟨y, hy⟩ : ∃ y, A[j]? = some y := ⟨_, List.getElem?_eq_getElem (by omega)⟩
  obtain ⟨b2, o2, e2, hL1⟩ := hA.ldW 59 hy rfl (sz rfl)
  subst e2
  have hs1 := filter_step gv hy
  have hs2 := filter_step (fun x => !gv x) hy
  have hl1 := List.length_filter_le gv A
  have hl2 := List.length_filter_le (fun x => !gv x) A
  have hl3 := List.length_filter_le gv (A.take j)
  have hl4 := List.length_filter_le (fun x => !gv x) (A.take j)
  rw [List.length_take] at hl3 hl4
  unfold en59 at hL1
  clear hL0
  cases hgy : gv y with
  | true =>
    rw [hgy] at hs1 hs2
    have hat := filter_at (f := gv) hy hgy
    have hkl := (List.getElem?_eq_some_iff.1 hat).1
    obtain ⟨b3, o3, e3, hL0⟩ := hga.ldW 59 hat rfl (sz rfl)
    subst e3
    have hlf := leaf59 y
    unfold en59 at hL0 hlf
    have hrv : (rvOf B (kN y)).a3 ≠ 0 := ((hres (kN y)).1 (by rw [← hgv] at hgy; exact hgy)).2
    obtain ⟨r0, hr0, hk0, h30⟩ := rv_some hrv
    have hri := fun {H' : Hp} {Q' : Value → Hp → Prop} h => rivalled27_ct (B0 := B0) (old := old) (n := n + 2016) (H := H') (Q := Q') (adr := adr) (cr := cr) (B := B) h (by omega) y hr0 hk0 h30
    unfold en59 at hri
    repeat (first | refine Z0 ?_ | (refine ZR ?_; first | refine x1 ?_ | refine x2 ?_ | refine x8 ?_ | refine Z1 ?_ | refine Z2 ?_ | refine x3 fun _ => ?_ | refine x4 fun _ => ?_ | refine x5 fun _ => ?_ | refine Z3 fun _ => ?_ | refine Z4 fun _ => ?_) | refine ZC ?_)
    refine ct_draw (masks := [0, 0, 2, 7, 15, 31, 31, 127, 255, 31, 1023, 2047]) (plan := [0, 1, 2, 3, 4, 5, 6, 7, 8, 9, 10, 11]) (E := []) (by kernel_rfl) (by kernel_rfl) (by kernel_rfl) (by kernel_rfl) ?_
    repeat (first | refine Y0 ?_ | (refine YP ?_; first | refine y1 ?_ | refine y2 ?_ | refine Y1 ?_ | refine Y2 ?_))
    rw [show decide ((((A.take j).filter gv).length : Int) < ((A.filter gv).length : Int)) = true from decide_eq_true (by omega)]
    repeat (first | refine Y0 ?_ | (refine YP ?_; first | refine y1 ?_ | refine y2 ?_ | refine Y1 ?_ | refine Y2 ?_))
    rw [hlf]
    repeat (first | refine Y0 ?_ | (refine YP ?_; first | refine y1 ?_ | refine y2 ?_ | refine Y1 ?_ | refine Y2 ?_))
    repeat (first | refine Z0 ?_ | (refine ZR ?_; first | refine x1 ?_ | refine x2 ?_ | refine x8 ?_ | refine Z1 ?_ | refine Z2 ?_ | refine x3 fun _ => ?_ | refine x4 fun _ => ?_ | refine x5 fun _ => ?_ | refine Z3 fun _ => ?_ | refine Z4 fun _ => ?_) | refine ZC ?_)
    refine rt_step rfl rfl rfl (st_call rfl rfl rfl rfl (hri (hBr.weak (by exact drop_auto)) ?_))
    repeat (first | refine Z0 ?_ | (refine ZR ?_; first | refine x1 ?_ | refine x2 ?_ | refine x8 ?_ | refine Z1 ?_ | refine Z2 ?_ | refine x3 fun _ => ?_ | refine x4 fun _ => ?_ | refine x5 fun _ => ?_ | refine Z3 fun _ => ?_ | refine Z4 fun _ => ?_) | refine ZC ?_)
    exact ⟨j + 1, by omega, by omega, .cons rfl (.cons (by rw [hs2]; rfl) (.cons (by rw [hs1]; rfl) (by repeat (first | exact SubL.nil | refine SubL.cons rfl ?_)))), by exact drop_auto⟩
  | false =>
    rw [hgy] at hs1 hs2
    have hat := filter_at (f := fun x => !gv x) hy (by rw [hgy]; rfl)
    have hml := (List.getElem?_eq_some_iff.1 hat).1
    have hat2 : ((((A.filter fun x => !gv x).map kN).map (clmO (clG' clN))))[((A.take j).filter fun x => !gv x).length]? = some (clmO (clG' clN) (kN y)) := by rw [List.getElem?_map, List.getElem?_map, hat]; rfl
    obtain ⟨b4, o4, e4, hL2⟩ := hca.ldF 3 0 hat2 rfl rfl rfl (sz rfl)
    obtain ⟨b5, o5, e5, hL3⟩ := hca.ldF 25 1 hat2 rfl rfl rfl (sz rfl)
    subst e4
    cases e5
    have hL2 : ∀ H', (Gv2 ++ (G' ++ (Gv ++ (Gv0 ++ ((t11, AObj.row [.int .i64 kd, .int .i64 sp, .int .u32 self, .slice (some ⟨b2, o2, none⟩) A.length cn, .slice adr B.length cr, .int .i64 bd, .int .u64 mac] 7 false) :: H))))).Sublist H' → LdT (cx B0 old) 3 H' b4 (o4 + ((A.take j).filter fun x => !gv x).length * 4 + 0) (.int .i64 y.a0) := hL2
    have hL3 : ∀ H', (Gv2 ++ (G' ++ (Gv ++ (Gv0 ++ ((t11, AObj.row [.int .i64 kd, .int .i64 sp, .int .u32 self, .slice (some ⟨b2, o2, none⟩) A.length cn, .slice adr B.length cr, .int .i64 bd, .int .u64 mac] 7 false) :: H))))).Sublist H' → LdT (cx B0 old) 25 H' b4 (o4 + ((A.take j).filter fun x => !gv x).length * 4 + 1) (.int .u64 y.a2) := hL3
    by_cases hkl : ((A.take j).filter gv).length < (A.filter gv).length
    · obtain ⟨z, hz⟩ : ∃ z, (A.filter gv)[((A.take j).filter gv).length]? = some z := ⟨_, List.getElem?_eq_getElem hkl⟩
      have hzg : gv z = true := (List.mem_filter.1 (List.mem_iff_getElem?.2 ⟨_, hz⟩)).2
      have hzy : z ≠ y := fun e => by rw [e, hgy] at hzg; cases hzg
      obtain ⟨b3, o3, e3, hL0⟩ := hga.ldW 59 hz rfl (sz rfl)
      subst e3
      have hlf := leaf59_ne hzy
      unfold en59 at hL0 hlf
      repeat (first | refine Z0 ?_ | (refine ZR ?_; first | refine x1 ?_ | refine x2 ?_ | refine x8 ?_ | refine Z1 ?_ | refine Z2 ?_ | refine x3 fun _ => ?_ | refine x4 fun _ => ?_ | refine x5 fun _ => ?_ | refine Z3 fun _ => ?_ | refine Z4 fun _ => ?_) | refine ZC ?_)
      refine ct_draw (masks := [0, 0, 2, 7, 15, 31, 31, 127, 255, 31, 1023, 2047]) (plan := [0, 1, 2, 3, 4, 5, 6, 7, 8, 9, 10, 11]) (E := []) (by kernel_rfl) (by kernel_rfl) (by kernel_rfl) (by kernel_rfl) ?_
      repeat (first | refine Y0 ?_ | (refine YP ?_; first | refine y1 ?_ | refine y2 ?_ | refine Y1 ?_ | refine Y2 ?_))
      rw [show decide ((((A.take j).filter gv).length : Int) < ((A.filter gv).length : Int)) = true from decide_eq_true (by omega)]
      repeat (first | refine Y0 ?_ | (refine YP ?_; first | refine y1 ?_ | refine y2 ?_ | refine Y1 ?_ | refine Y2 ?_))
      rw [hlf]
      repeat (first | refine Y0 ?_ | (refine YP ?_; first | refine y1 ?_ | refine y2 ?_ | refine Y1 ?_ | refine Y2 ?_))
      repeat (first | refine Z0 ?_ | (refine ZR ?_; first | refine x1 ?_ | refine x2 ?_ | refine x8 ?_ | refine Z1 ?_ | refine Z2 ?_ | refine x3 fun _ => ?_ | refine x4 fun _ => ?_ | refine x5 fun _ => ?_ | refine Z3 fun _ => ?_ | refine Z4 fun _ => ?_) | refine ZC ?_)
      refine ct_draw (masks := [0, 0, 2, 7, 15, 31, 31, 127, 255, 511, 31, 1055, 4095, 8191, 16383, 32767, 32767, 131071, 262143, 524287, 32767, 1081343, 4194303, 8388607]) (plan := [0, 1, 2, 3, 4, 5, 6, 7, 8, 9, 10, 11, 12, 13, 14, 15, 16, 17, 18, 19, 20, 21, 22, 23]) (E := []) (by kernel_rfl) (by kernel_rfl) (by kernel_rfl) (by kernel_rfl) ?_
      repeat (first | refine Y0 ?_ | (refine YP ?_; first | refine y1 ?_ | refine y2 ?_ | refine Y1 ?_ | refine Y2 ?_))
      rw [show decide ((((A.take j).filter fun x => !gv x).length : Int) ≥ ((A.filter fun x => !gv x).length : Int)) = false from decide_eq_false (by omega)]
      repeat (first | refine Y0 ?_ | (refine YP ?_; first | refine y1 ?_ | refine y2 ?_ | refine Y1 ?_ | refine Y2 ?_))
      rw [show (y.a0 != y.a0) = false by simp]
      repeat (first | refine Y0 ?_ | (refine YP ?_; first | refine y1 ?_ | refine y2 ?_ | refine Y1 ?_ | refine Y2 ?_))
      rw [show (y.a2 != y.a2) = false by simp]
      repeat (first | refine Y0 ?_ | (refine YP ?_; first | refine y1 ?_ | refine y2 ?_ | refine Y1 ?_ | refine Y2 ?_))
      repeat (first | refine Z0 ?_ | (refine ZR ?_; first | refine x1 ?_ | refine x2 ?_ | refine x8 ?_ | refine Z1 ?_ | refine Z2 ?_ | refine x3 fun _ => ?_ | refine x4 fun _ => ?_ | refine x5 fun _ => ?_ | refine Z3 fun _ => ?_ | refine Z4 fun _ => ?_) | refine ZC ?_)
      exact ⟨j + 1, by omega, by omega, .cons rfl (.cons (by rw [hs2]; rfl) (.cons (by rw [hs1]; rfl) (by repeat (first | exact SubL.nil | refine SubL.cons rfl ?_)))), by exact drop_auto⟩
    · repeat (first | refine Z0 ?_ | (refine ZR ?_; first | refine x1 ?_ | refine x2 ?_ | refine x8 ?_ | refine Z1 ?_ | refine Z2 ?_ | refine x3 fun _ => ?_ | refine x4 fun _ => ?_ | refine x5 fun _ => ?_ | refine Z3 fun _ => ?_ | refine Z4 fun _ => ?_) | refine ZC ?_)
      refine ct_draw (masks := [0, 0, 2, 7, 15, 31, 31, 127, 255, 31, 1023, 2047]) (plan := [0, 1, 2, 3, 4, 5, 6, 7, 8, 9, 10, 11]) (E := []) (by kernel_rfl) (by kernel_rfl) (by kernel_rfl) (by kernel_rfl) ?_
      repeat (first | refine Y0 ?_ | (refine YP ?_; first | refine y1 ?_ | refine y2 ?_ | refine Y1 ?_ | refine Y2 ?_))
      rw [show decide ((((A.take j).filter gv).length : Int) < ((A.filter gv).length : Int)) = false from decide_eq_false (by omega)]
      repeat (first | refine Y0 ?_ | (refine YP ?_; first | refine y1 ?_ | refine y2 ?_ | refine Y1 ?_ | refine Y2 ?_))
      repeat (first | refine Z0 ?_ | (refine ZR ?_; first | refine x1 ?_ | refine x2 ?_ | refine x8 ?_ | refine Z1 ?_ | refine Z2 ?_ | refine x3 fun _ => ?_ | refine x4 fun _ => ?_ | refine x5 fun _ => ?_ | refine Z3 fun _ => ?_ | refine Z4 fun _ => ?_) | refine ZC ?_)
      refine ct_draw (masks := [0, 0, 2, 7, 15, 31, 31, 127, 255, 511, 31, 1055, 4095, 8191, 16383, 32767, 32767, 131071, 262143, 524287, 32767, 1081343, 4194303, 8388607]) (plan := [0, 1, 2, 3, 4, 5, 6, 7, 8, 9, 10, 11, 12, 13, 14, 15, 16, 17, 18, 19, 20, 21, 22, 23]) (E := []) (by kernel_rfl) (by kernel_rfl) (by kernel_rfl) (by kernel_rfl) ?_
      repeat (first | refine Y0 ?_ | (refine YP ?_; first | refine y1 ?_ | refine y2 ?_ | refine Y1 ?_ | refine Y2 ?_))
      rw [show decide ((((A.take j).filter fun x => !gv x).length : Int) ≥ ((A.filter fun x => !gv x).length : Int)) = false from decide_eq_false (by omega)]
      repeat (first | refine Y0 ?_ | (refine YP ?_; first | refine y1 ?_ | refine y2 ?_ | refine Y1 ?_ | refine Y2 ?_))
      rw [show (y.a0 != y.a0) = false by simp]
      repeat (first | refine Y0 ?_ | (refine YP ?_; first | refine y1 ?_ | refine y2 ?_ | refine Y1 ?_ | refine Y2 ?_))
      rw [show (y.a2 != y.a2) = false by simp]
      repeat (first | refine Y0 ?_ | (refine YP ?_; first | refine y1 ?_ | refine y2 ?_ | refine Y1 ?_ | refine Y2 ?_))
      repeat (first | refine Z0 ?_ | (refine ZR ?_; first | refine x1 ?_ | refine x2 ?_ | refine x8 ?_ | refine Z1 ?_ | refine Z2 ?_ | refine x3 fun _ => ?_ | refine x4 fun _ => ?_ | refine x5 fun _ => ?_ | refine Z3 fun _ => ?_ | refine Z4 fun _ => ?_) | refine ZC ?_)
      exact ⟨j + 1, by omega, by omega, .cons rfl (.cons (by rw [hs2]; rfl) (.cons (by rw [hs1]; rfl) (by repeat (first | exact SubL.nil | refine SubL.cons rfl ?_)))), by exact drop_auto⟩
end
end Go.Proofs.Ytoimfchhmocgeaa.Abs

/- Readings of acts for the statements of chapter 24. -/
namespace Go.Proofs.Ytoimfchhmocgeaa.Abs
open Go Go.RowKit
set_option linter.unusedVariables false
set_option maxRecDepth 100000
set_option maxHeartbeats 2000000
theorem lv59 : leaves Try.prog 10 59 = some [3, 3, 25, 23, 4, 3] := by kernel_rfl
theorem lv52' : leaves Try.prog 10 52 = some [3, 3, 23, 44, 38, 3, 25] := by kernel_rfl
section
variable {H : Type} {enc : TypeId × Value → H} {W : World} {base : Nat} {spare : Nat → Bool} {held : Bool}
theorem read59 {hs fuel : Nat} {cs : List Value} {x : DataW H × List MemPlace} (h : DataW.trod enc Try.prog W base spare held fuel 59 cs = some x) : cs.length = 6 ∧ ∃ p : N59, cs.map (normV hs) = en59 p ∧ okK (kN p) := by
  have hh := leaves_ok 10 59 _ lv59 _ _ _ h
  clear h
  refine ⟨hh.1, ?_⟩
  obtain ⟨v0, cs0, rfl, l0, h0⟩ := LeafOk.next hh
  obtain ⟨v1, cs1, rfl, l1, h1⟩ := LeafOk.next h0
  obtain ⟨v2, cs2, rfl, l2, h2⟩ := LeafOk.next h1
  obtain ⟨v3, cs3, rfl, l3, h3⟩ := LeafOk.next h2
  obtain ⟨v4, cs4, rfl, l4, h4⟩ := LeafOk.next h3
  obtain ⟨v5, cs5, rfl, l5, h5⟩ := LeafOk.next h4
  obtain rfl := LeafOk.done h5
  obtain ⟨n0, rfl, w0⟩ := leaf_int (k := .i64) Try.underlying3 l0
  obtain ⟨n1, rfl, w1⟩ := leaf_int (k := .i64) Try.underlying3 l1
  obtain ⟨n2, rfl, w2⟩ := leaf_int (k := .u64) Try.underlying25 l2
  obtain ⟨n3, rfl, w3⟩ := leaf_int (k := .u32) Try.underlying23 l3
  obtain ⟨n4, rfl⟩ := leaf_bool Try.underlying4 l4
  obtain ⟨n5, rfl, w5⟩ := leaf_int (k := .i64) Try.underlying3 l5
  exact ⟨⟨n0, n1, n2, n3, n4, n5⟩, rfl, wf_i64 w0, wf_u64 w2⟩
theorem read52W {fuel : Nat} {cs : List Value} {x : DataW H × List MemPlace} (h : DataW.trod enc Try.prog W 0 spare held fuel 52 cs = some x) : cs.length = 7 ∧ ∃ p : S52, cs.map (normV W.heap.size) = en52 p ∧ (p.wf ∧ ActI (cx (W.heap.size + 1) (oldW W)) [] p) := by
  have hh := leaves_ok 10 52 _ lv52' _ _ _ h
  clear h
  refine ⟨hh.1, ?_⟩
  obtain ⟨v0, cs0, rfl, l0, h0⟩ := LeafOk.next hh
  obtain ⟨v1, cs1, rfl, l1, h1⟩ := LeafOk.next h0
  obtain ⟨v2, cs2, rfl, l2, h2⟩ := LeafOk.next h1
  obtain ⟨v3, cs3, rfl, l3, h3⟩ := LeafOk.next h2
  obtain ⟨v4, cs4, rfl, l4, h4⟩ := LeafOk.next h3
  obtain ⟨v5, cs5, rfl, l5, h5⟩ := LeafOk.next h4
  obtain ⟨v6, cs6, rfl, l6, h6⟩ := LeafOk.next h5
  obtain rfl := LeafOk.done h6
  obtain ⟨n0, rfl, w0⟩ := leaf_int (k := .i64) Try.underlying3 l0
  obtain ⟨n1, rfl, w1⟩ := leaf_int (k := .i64) Try.underlying3 l1
  obtain ⟨n2, rfl, w2⟩ := leaf_int (k := .u32) Try.underlying23 l2
  obtain ⟨a3, c3, L3, e3, g3, m3, ar3, p3⟩ := arr_read (C := cx (W.heap.size + 1) (oldW W)) (k := 6) (en := en59) (Pr := fun p => okK (kN p)) rfl (fun _ => rfl) Try.underlying44 (by kernel_rfl) (by decide) (fun cs m y h => read59 h) l3
  obtain ⟨a4, c4, L4, e4, g4, m4, ar4, p4⟩ := arr_read (C := cx (W.heap.size + 1) (oldW W)) (k := 5) (en := en27) (Pr := fun p => S27.wf p) rfl (fun _ => rfl) Try.underlying38 (by kernel_rfl) (by decide) (fun cs m y h => read27 h) l4
  obtain ⟨n5, rfl, w5⟩ := leaf_int (k := .i64) Try.underlying3 l5
  obtain ⟨n6, rfl, w6⟩ := leaf_int (k := .u64) Try.underlying25 l6
  refine ⟨⟨n0, n1, n2, ⟨a3, L3.length, c3⟩, ⟨a4, L4.length, c4⟩, n5, n6⟩, ?_, ⟨wf_i64 w0, wf_i64 w1, wf_u32 w2, wf_i64 w5, wf_u64 w6⟩, L3, L4, a3, a4, c3, c4, rfl, rfl, ar3, ar4, p3, fun y hy => ⟨(p4 y hy).1, (p4 y hy).2.1⟩⟩
  simp only [List.map_cons, List.map_nil, e3, e4]
  rfl
end
end Go.Proofs.Ytoimfchhmocgeaa.Abs
