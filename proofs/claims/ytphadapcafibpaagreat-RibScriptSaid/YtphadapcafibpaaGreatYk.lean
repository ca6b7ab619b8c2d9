/- The reference's rib: a sorted list. Contracts of New, Many, find. -/
import Derived.Test.YtphadapcafibpaaGreatYj
namespace Go.Proofs.YtphadapcafibpaaGreat.Abs
open Go
set_option linter.unusedVariables false
/-- A rib of the reference that holds routes. -/
inductive Ref (C : Ctx) (lim : Int) (M : List Rt) : Value → Hp → Prop
  | mk (p : Nat) (w : Value) (G : Hp) (hR : RsL C M w G) (hs : SrtR M) (hv : ∀ x ∈ M, okR x) : Ref C lim M (.pointer (some ⟨p, 0, none⟩)) ((p, .row [w, .int .i64 lim] 2 false) :: G)
theorem RsL.rowz' {C : Ctx} {M : List Rt} {w : Value} {G : Hp} (h : RsL C M w G) : ∃ ad c L, w = .slice ad L.length c ∧ L.map (·.r) = M ∧ Arr C G ad 38 enW L ∧ (∀ x ∈ L, Rd C G x) := by
  obtain ⟨L, Gs, Gr, h1, h2, h3, rfl⟩ := h
  obtain ⟨ad, c, e, hw⟩ := h1.arrW (C := C) enW_len
  exact ⟨ad, c, L, e, h3, (hw [] Gr).arr enW_len, fun x hx => (h2 x hx).weak (List.sublist_append_right _ _)⟩
theorem fnd_rk {x : Rt} {k : S60} {peer : Int} (hx : okP (plc x)) (hq : okP ⟨keyS k, peer⟩) : (rkR x < rkP ⟨keyS k, peer⟩ ↔ ¬ nlC x.n k > 0 ∧ (nlC x.n k = 0 → ¬ x.peer ≥ peer)) := by
  unfold rkR
  rw [← rkP_lt hx hq]
  show (if nlC (keyS x.n) (keyS k) = 0 then sgn x.peer peer else nlC (keyS x.n) (keyS k)) < 0 ↔ _
  rw [nlC_key]
  split
  · rename_i h
    unfold sgn
    constructor
    · intro h2
      refine ⟨by omega, fun _ => ?_⟩
      split at h2
      · omega
      · split at h2 <;> omega
    · rintro ⟨_, h2⟩
      have := h2 h
      rw [if_pos (by omega)]
      decide
  · rename_i h
    constructor
    · intro h2; exact ⟨by omega, fun g => absurd g h⟩
    · intro h2; omega
theorem fnd_pl {x : Rt} {k : S60} {peer : Int} : plc x = ⟨keyS k, peer⟩ ↔ nlC x.n k = 0 ∧ x.peer = peer := by
  rw [nlC_zero]
  constructor
  · intro e; exact ⟨congrArg Pk.k e, congrArg Pk.peer e⟩
  · rintro ⟨h1, h2⟩; unfold plc; rw [h1, h2]
section
variable {B0 : Nat} {old : Nat → Option (List Value)} {n : Nat} {H : Hp} {Q : Value → Hp → Prop} {lim : Int} {M : List Rt} {v : Value} {Hs : Hp}
set_option maxRecDepth 10000
set_option maxHeartbeats 16000000
theorem new10_ct (hbad : ¬ (1 ≤ lim ∧ lim ≤ 65536) → Q (.tuple #[.pointer none, .int .i64 2]) H) (hok : 1 ≤ lim ∧ lim ≤ 65536 → ∀ v Hs, Ref (cx B0 old) lim [] v Hs → Q (.tuple #[v, .int .i64 0]) (Hs ++ H)) :
    CallT (cx B0 old) (acall (cx B0 old) ansP (n + 1)) 10 [.int .i64 lim] H Q := by
  refine call_in1 13 rfl Tryz.func10 rfl rfl ?_
  repeat' (first | refine Z0 ?_ | (refine ZR ?_; first | refine x1 ?_ | refine x2 ?_ | refine x8 ?_ | refine Z1 ?_ | refine Z2 ?_ | refine x3 fun _ => ?_ | refine x4 fun _ => ?_ | refine x5 fun _ => ?_ | refine Z3 fun _ => ?_ | refine Z4 fun _ => ?_) | refine Za ?_ | refine Zb ?_ | refine Zl ?_ | refine Zc ?_ | refine Ze ?_ | refine Zi ?_ | refine Zj ?_ | refine Zf ?_ | refine Zg ?_ | refine Zm ?_ | refine Zn ?_ | refine Zo ?_ | refine Zp ?_ | refine Zq ?_ | refine Zr ?_ | refine Zk ?_ | refine Y0 ?_ | (refine YP ?_; first | refine y1 ?_ | refine y2 ?_ | refine Y1 ?_ | refine Y2 ?_) | (refine isPlan ?_; refine y3 ?_) | (first | (refine isRun ?_; refine z1 (fun hc => ?_) (fun hc => ?_)) | refine z2 (fun hc => ?_) (fun hc => ?_) | (refine isPlan ?_; refine z3 (fun hc => ?_) (fun hc => ?_))))
  · exact re_2 rfl rfl rfl (by exact drop_auto) (hbad (by omega))
  · exact re_2 rfl rfl rfl (by exact drop_auto) (hbad (by omega))
  · exact re_2 rfl rfl rfl (by exact drop_auto) (hok (by omega) _ _ (Ref.mk _ _ [] ⟨[], [], [], .nil, fun x h => (by cases h), rfl, rfl⟩ List.Pairwise.nil (fun x h => (by cases h))))
theorem many43_ct (hI : Ref (cx B0 old) lim M v Hs) (h : Q (.int .i64 M.length) (Hs ++ H)) : CallT (cx B0 old) (acall (cx B0 old) ansP (n + 1)) 43 [v] (Hs ++ H) Q := by
  cases hI with
  | mk p w G hR hs hv =>
  obtain ⟨ad0, c0, L0, rfl, rfl, hA0, hR0⟩ := hR.rowz'
  rw [List.length_map] at h
  refine call_in1 8 rfl Tryz.func43 rfl rfl ?_
  repeat(refine ZX ?_;try intro _)
  exact re_1 rfl rfl (by exact drop_auto) h
theorem find72_ct (k : S60) (hk : k.wf) (peer : Int) (hpe : 0 ≤ peer ∧ peer ≤ 4294967295) (hI : Ref (cx B0 old) lim M v Hs) (hl : M.length ≤ 1000)
    (hQ : ∀ (i : Nat) (t : Bool), i ≤ M.length → (∀ (j : Nat) x, M[j]? = some x → j < i → rkR x < rkP ⟨keyS k, peer⟩) → (∀ x, M[i]? = some x → rkP ⟨keyS k, peer⟩ ≤ rkR x) → (t = true ↔ ∃ x, M[i]? = some x ∧ plc x = ⟨keyS k, peer⟩) → Q (.tuple #[.int .i64 i, .bool t]) (Hs ++ H)) :
    CallT (cx B0 old) (acall (cx B0 old) ansP (n + 5)) 72 [v, .agg ⟨en60 k⟩, .int .u32 peer] (Hs ++ H) Q := by
  cases hI with
  | mk p w G hR hs hv =>
  obtain ⟨ad0, c0, L0, rfl, hL0m, hA0, hR0⟩ := hR.rowz'
  have hl0 : L0.length = M.length := by have := congrArg List.length hL0m; rwa [List.length_map] at this
  have hat : ∀ {i : Nat} {x : Rw}, L0[i]? = some x → M[i]? = some x.r := fun h => by rw [← hL0m, List.getElem?_map, h]; rfl
  have hokq : okP ⟨keyS k, peer⟩ := ⟨⟨keyS_wf hk, keyS_key k⟩, hpe⟩
  refine call_in3 63 rfl Tryz.func72 rfl rfl ?_
  unfold en60
  repeat(refine ZX ?_;try intro _)
  rename_i kb
  refine loop_ind (ι := Nat) 0 (fun i => L0.length - i) (fun i => i ≤ L0.length ∧ ∀ (j : Nat) x, M[j]? = some x → j < i → rkR x < rkP ⟨keyS k, peer⟩)
    (fun i => [(8, .int .i64 (i : Int)), (4, .pointer (some ⟨kb, 0, none⟩)), (0, .pointer (some ⟨p, 0, none⟩)), (2, .int .u32 peer)]) (fun _ => (kb, AObj.row (en60 k) 21 false) :: (p, AObj.row [.slice ad0 L0.length c0, .int .i64 lim] 2 false) :: (G ++ H)) ⟨Nat.zero_le _, fun j x _ h => absurd h (Nat.not_lt_zero _)⟩ (by repeat (first | exact SubL.nil | refine SubL.cons rfl ?_)) (by exact drop_auto) ?_
  rintro i ⟨hi, hbf⟩
  repeat(refine ZX ?_;try intro _)
  refine ct_condT te_d rfl (fun hlt => ?_) (fun hlt => ?_)
  rotate_left
  · obtain rfl : i = L0.length := by omega
    repeat(refine ZX ?_;try intro _)
    exact re_2 rfl rfl rfl (by exact drop_auto) (hQ L0.length false (by omega) hbf (fun x hx => by rw [hl0, List.getElem?_eq_none (Nat.le_refl _)] at hx; cases hx) ⟨fun h => (by cases h), fun ⟨x, hx, _⟩ => by rw [hl0, List.getElem?_eq_none (Nat.le_refl _)] at hx; cases hx⟩)
  obtain ⟨y, hy⟩ : ∃ y, L0[i]? = some y := ⟨_, List.getElem?_eq_getElem (by omega)⟩
  have hym : y.r ∈ M := by rw [← hL0m]; exact List.mem_map_of_mem (List.mem_of_getElem? hy)
  have hyo := hv _ hym
  obtain ⟨b1, o1, cs1, e1, _, _⟩ := hA0.els i y hy
  subst e1
  obtain ⟨hL0, hL1, hL2⟩ := hA0.rt hy rfl (sz rfl) rfl (sz rfl) rfl (sz rfl)
  have hnext := fnd_rk (x := y.r) hyo.pl hokq
  have hpl := fnd_pl (x := y.r) (k := k) (peer := peer)
  have hfin : ∀ t : Bool, ¬ rkR y.r < rkP ⟨keyS k, peer⟩ → (t = true ↔ nlC y.r.n k = 0 ∧ y.r.peer = peer) → Q (.tuple #[.int .i64 i, .bool t]) ((p, AObj.row [.slice (some ⟨b1, o1, none⟩) L0.length c0, .int .i64 lim] 2 false) :: G ++ H) := fun t h1 h2 => hQ i t (by omega) hbf (fun x hx => by rw [hat hy] at hx; cases hx; omega) ⟨fun h => ⟨_, hat hy, hpl.2 (h2.1 h)⟩, fun ⟨x, hx, h⟩ => by rw [hat hy] at hx; cases hx; exact h2.2 (hpl.1 h)⟩
  unfold en60
  repeat(refine ZX ?_;try intro _)
  refine ct_draw (masks := [0, 1, 3, 7, 0, 31, 63, 127, 0, 511, 1023]) (plan := [0, 1, 2, 3, 4, 5, 6, 7, 8, 9, 10]) (E := []) (by kernel_rfl) (by kernel_rfl) (by kernel_rfl) (by kernel_rfl) ?_
  repeat refine YX ?_
  refine pl_S rfl rfl rfl rfl rfl rfl (st_call rfl rfl rfl rfl (compare24_ct (n := n) y.r.n k hyo.wf hk ⟨by exact rec_auto, ?_⟩))
  repeat refine YX ?_
  repeat(refine ZX ?_;try intro _)
  by_cases hgt : nlC y.r.n k > 0
  · have hz : nlC y.r.n k ≠ 0 := by omega
    rw [show decide (nlC y.r.n k > 0) = true from decide_eq_true hgt]
    repeat(refine ZX ?_;try intro _)
    refine ct_draw (masks := [0, 0, 2, 6, 14, 30, 62, 126, 14, 510, 1022, 2046, 14, 8190, 16382, 15, 65535]) (plan := [0, 1, 2, 3, 4, 5, 6, 7, 8, 9, 10, 11, 12, 13, 14, 15, 16]) (E := []) (by kernel_rfl) (by kernel_rfl) (by kernel_rfl) (by kernel_rfl) ?_
    repeat refine YX ?_
    rw [show (nlC y.r.n k == 0) = false from beq_eq_false_iff_ne.2 hz]
    repeat refine YX ?_
    repeat(refine ZX ?_;try intro _)
    exact re_2 rfl rfl rfl (by exact drop_auto) (hfin false (fun h => (hnext.1 h).1 hgt) ⟨fun h => (by cases h), fun h => absurd h.1 hz⟩)
  rw [show decide (nlC y.r.n k > 0) = false from decide_eq_false hgt]
  repeat(refine ZX ?_;try intro _)
  by_cases hz : nlC y.r.n k = 0
  · rw [show (nlC y.r.n k == 0) = true from beq_iff_eq.2 hz]
    repeat(refine ZX ?_;try intro _)
    by_cases hge : y.r.peer ≥ peer
    · rw [show decide (y.r.peer ≥ peer) = true from decide_eq_true hge]
      repeat(refine ZX ?_;try intro _)
      refine ct_draw (masks := [0, 0, 2, 6, 14, 30, 62, 126, 14, 510, 1022, 2046, 14, 8190, 16382, 15, 65535]) (plan := [0, 1, 2, 3, 4, 5, 6, 7, 8, 9, 10, 11, 12, 13, 14, 15, 16]) (E := []) (by kernel_rfl) (by kernel_rfl) (by kernel_rfl) (by kernel_rfl) ?_
      repeat refine YX ?_
      rw [show (nlC y.r.n k == 0) = true from beq_iff_eq.2 hz]
      repeat refine YX ?_
      repeat(refine ZX ?_;try intro _)
      exact re_2 rfl rfl rfl (by exact drop_auto) (hfin (y.r.peer == peer) (fun h => (hnext.1 h).2 hz hge) ⟨fun h => ⟨hz, beq_iff_eq.1 h⟩, fun h => beq_iff_eq.2 h.2⟩)
    · rw [show decide (y.r.peer ≥ peer) = false from decide_eq_false hge]
      repeat(refine ZX ?_;try intro _)
      refine ⟨i + 1, ⟨by omega, fun j x hj hji => ?_⟩, by omega, by repeat (first | exact SubL.nil | refine SubL.cons rfl ?_), by exact drop_auto⟩
      rcases Nat.lt_or_ge j i with h | h
      · exact hbf j x hj h
      · obtain rfl : j = i := by omega
        rw [hat hy] at hj; cases hj; exact hnext.2 ⟨hgt, fun _ => hge⟩
  · rw [show (nlC y.r.n k == 0) = false from beq_eq_false_iff_ne.2 hz]
    repeat(refine ZX ?_;try intro _)
    refine ⟨i + 1, ⟨by omega, fun j x hj hji => ?_⟩, by omega, by repeat (first | exact SubL.nil | refine SubL.cons rfl ?_), by exact drop_auto⟩
    rcases Nat.lt_or_ge j i with h | h
    · exact hbf j x hj h
    · obtain rfl : j = i := by omega
      rw [hat hy] at hj; cases hj; exact hnext.2 ⟨hgt, fun h => absurd h hz⟩
end
end Go.Proofs.YtphadapcafibpaaGreat.Abs

/- The reference's rib: Put and Drop. -/
namespace Go.Proofs.YtphadapcafibpaaGreat.Abs
open Go
set_option linter.unusedVariables false
theorem enW_store (x y : Rw) : storeRow (enW x) 0 (enW y) = some (enW y) := by
  unfold storeRow
  rw [enW_one y, Nat.zero_add, enW_len, enW_len, Nat.ble_eq_true_of_le (Nat.le_refl _)]
  rw [List.drop_of_length_le (by rw [enW_len]; exact Nat.le_refl _), List.append_nil]; rfl
theorem plc_rk {x : Rt} {k : S60} {p : Int} (hx : okR x) (hq : okP ⟨keyS k, p⟩) : plc x = ⟨keyS k, p⟩ ↔ rkR x = rkP ⟨keyS k, p⟩ := ⟨fun e => by unfold rkR; rw [e], fun e => rkP_inj hx.pl hq e⟩
theorem SrtR.at {M : List Rt} (hs : SrtR M) {i j : Nat} {x y : Rt} (hx : M[i]? = some x) (hy : M[j]? = some y) (h : i < j) : rkR x < rkR y := by
  obtain ⟨h1, e1⟩ := List.getElem?_eq_some_iff.1 hx
  obtain ⟨h2, e2⟩ := List.getElem?_eq_some_iff.1 hy
  have := List.pairwise_iff_getElem.1 (List.pairwise_map.1 hs) i j h1 h2 h
  rw [e1, e2] at this; exact this
theorem fnd_none {M : List Rt} (hs : SrtR M) {i : Nat} {q : Pk} (hbf : ∀ (j : Nat) x, M[j]? = some x → j < i → rkR x < rkP q) (haf : ∀ x, M[i]? = some x → rkP q ≤ rkR x) (hn : ¬ ∃ x, M[i]? = some x ∧ plc x = q) : getR M q = none := by
  cases h : getR M q with
  | none => rfl
  | some z =>
    obtain ⟨hm, e⟩ := (getR_iff hs).1 h
    have hz : rkR z = rkP q := by unfold rkR; rw [e]
    obtain ⟨j, hj⟩ := List.getElem?_of_mem hm
    rcases Nat.lt_trichotomy j i with h1 | rfl | h1
    · have := hbf j z hj h1; omega
    · exact absurd ⟨z, hj, e⟩ hn
    · have hlt := (List.getElem?_eq_some_iff.1 hj).1
      obtain ⟨w, hw⟩ : ∃ w, M[i]? = some w := ⟨_, List.getElem?_eq_getElem (by omega)⟩
      have h2 := haf w hw
      have h3 := hs.at hw hj h1
      omega
theorem pd9 {G9 Gs Gr H : Hp} {a b : Nat × AObj} : (a :: b :: (Gs ++ (G9 ++ (Gr ++ H)))).Perm (G9 ++ (a :: b :: ((Gs ++ Gr) ++ H))) := by
  have h := List.perm_append_comm_assoc G9 [a, b] ((Gs ++ Gr) ++ H)
  simp only [List.cons_append, List.nil_append, List.append_assoc] at h ⊢
  exact (h.trans (.cons _ (.cons _ (List.perm_append_comm_assoc G9 Gs _)))).symm
theorem rd_set {C : Ctx} {L : List Rw} {i : Nat} {y : Rw} {G9 Gr : Hp} (h : ∀ x ∈ L, Rd C Gr x) (hy : Rd C G9 y) : ∀ x ∈ L.set i y, Rd C (G9 ++ Gr) x := fun x hx => by
  rcases List.mem_or_eq_of_mem_set hx with h1 | rfl
  · exact (h x h1).weak (List.sublist_append_right _ _)
  · exact hy.weak (List.sublist_append_left _ _)
theorem put_ok {M : List Rt} {r : Rt} (hs : SrtR M) (hv : ∀ x ∈ M, okR x) (hr : okR r) : SrtR (putR r M) ∧ ∀ x ∈ putR r M, okR x := ⟨putR_srt hs, fun x hx => by
  rcases (putR_mem hs).1 hx with rfl | h
  · exact hr
  · exact hv x h.1⟩
section
variable {B0 : Nat} {old : Nat → Option (List Value)} {n : Nat} {H : Hp} {Q : Value → Hp → Prop} {lim : Int} {M : List Rt} {v : Value} {Hs : Hp}
set_option maxRecDepth 10000
set_option maxHeartbeats 16000000
theorem put37_ct (x : Rw) (hw : x.r.n.wf) (hpe : 0 ≤ x.r.peer ∧ x.r.peer ≤ 4294967295) (hx : Rd (cx B0 old) H x) (hl : M.length ≤ 1000) (hI : Ref (cx B0 old) lim M v Hs)
    (hQ : ∀ Hs', Ref (cx B0 old) lim (putM lim x.r M).1 v Hs' → Q (.tuple #[.bool (putM lim x.r M).2.1, .int .i64 (putM lim x.r M).2.2]) (Hs' ++ H)) :
    CallT (cx B0 old) (acall (cx B0 old) ansP (n + 6)) 37 [v, .agg ⟨enW x⟩] (Hs ++ H) Q := by
  have hRib := hI
  obtain ⟨p, hp0⟩ : ∃ a, v = .pointer (some ⟨a, 0, none⟩) := by cases hI; exact ⟨_, rfl⟩
  subst hp0
  refine call_in2 82 rfl Tryz.func37 rfl rfl ?_
  have hck : ∀ {H1 : Hp} {Θ : Value → Hp → Prop}, Θ (.int .i64 (nlCk x.r.n)) H1 → CallT (cx B0 old) (acall (cx B0 old) ansP (n + 5)) 70 [.agg ⟨en60 x.r.n⟩] H1 Θ := fun h => check70_ct x.r.n h
  have hat : ∀ {H1 : Hp} {Θ : Value → Hp → Prop}, Θ (.int .i64 (atCk x.r.a)) H1 → CallT (cx B0 old) (acall (cx B0 old) ansP (n + 5)) 71 [.agg ⟨enWA x⟩] H1 Θ := fun h => atck71_ct x h
  unfold enW enR
  repeat(refine ZX ?_;try intro _)
  rename_i bx
  refine rt_step rfl rfl rfl (st_call rfl rfl rfl rfl (hck ?_))
  repeat(refine ZX ?_;try intro _)
  first | (refine isRun ?_; refine z1 (fun hc => ?_) (fun hc => ?_)) | refine z2 (fun hc => ?_) (fun hc => ?_) | (refine isPlan ?_; refine z3 (fun hc => ?_) (fun hc => ?_))
  rotate_left
  · have hr : putM lim x.r M = (M, false, nlCk x.r.n) := by unfold putM rtCk; rw [if_pos hc, if_pos hc]
    rw [hr] at hQ
    repeat(refine ZX ?_;try intro _)
    rw [show (nlCk x.r.n != 0) = true from bne_iff_ne.2 hc]
    repeat(refine ZX ?_;try intro _)
    exact re_2 rfl rfl rfl (by exact drop_auto) (hQ _ hRib)
  have hc1 := hc
  repeat(refine ZX ?_;try intro _)
  refine rt_step rfl rfl rfl (st_call rfl rfl rfl rfl (hat ?_))
  repeat(refine ZX ?_;try intro _)
  first | (refine isRun ?_; refine z1 (fun hc => ?_) (fun hc => ?_)) | refine z2 (fun hc => ?_) (fun hc => ?_) | (refine isPlan ?_; refine z3 (fun hc => ?_) (fun hc => ?_))
  · have hck0 : rtCk x.r = atCk x.r.a := by unfold rtCk; rw [if_neg (by omega)]
    have hr : putM lim x.r M = (M, false, atCk x.r.a) := by unfold putM; rw [hck0, if_pos hc]
    rw [hr] at hQ
    repeat(refine ZX ?_;try intro _)
    exact re_2 rfl rfl rfl (by exact drop_auto) (hQ _ hRib)
  have hck0 : rtCk x.r = 0 := by unfold rtCk; rw [if_neg (by omega)]; exact hc
  have hok : okR x.r := ⟨hw, hpe, hck0⟩
  repeat(refine ZX ?_;try intro _)
  refine rt_step rfl rfl rfl (st_call rfl rfl rfl rfl (CallT.perm (find72_ct (n := n) x.r.n hw x.r.peer hpe hI hl fun i t hi hbf haf ht => ?_) List.perm_middle))
  refine RunT.perm ?_ List.perm_middle.symm
  cases hI with
  | mk p w G hR hs hv =>
  obtain ⟨L, Gs, Gr, ho, hrd, hmp, rfl⟩ := hR
  obtain ⟨ad0, c0, rfl, hw0⟩ := ho.arrW (C := cx B0 old) enW_len
  have hlm : L.length = M.length := by have := congrArg List.length hmp; rwa [List.length_map] at this
  have hokq : okP ⟨keyS x.r.n, x.r.peer⟩ := hok.pl
  repeat(refine ZX ?_;try intro _)
  refine rt_step rfl rfl rfl (st_call rfl rfl rfl rfl (CallT.fuel (n := n + 2 + 3) (own22W x hok.light (hx.weak (by exact drop_auto)) fun y G9 hy hyR => ?_) rfl))
  refine RunT.perm ?_ pd9
  have hpok := put_ok hs hv hok
  cases t with
  | true =>
    obtain ⟨o', ho1, ho2⟩ := ht.1 rfl
    obtain ⟨o, hoL⟩ : ∃ o, L[i]? = some o := ⟨_, List.getElem?_eq_getElem (by have := (List.getElem?_eq_some_iff.1 ho1).1; omega)⟩
    obtain rfl : o.r = o' := by rw [← hmp, List.getElem?_map, hoL] at ho1; exact Option.some.inj ho1
    have hom := List.mem_of_getElem? ho1
    have hget : getR M (plc x.r) = some o.r := (getR_iff hs).2 ⟨hom, ho2⟩
    have hset : putR x.r M = M.set i x.r := by
      rw [putR_at hs (by omega) hbf haf, ho1]
      exact if_pos (by unfold rkR; rw [ho2]; rfl)
    obtain ⟨Gs2, ho3, b1, cb, eb, hst⟩ := ho.set (C := cx B0 old) (t := 52) (f := 0) (a' := y) (u := .agg ⟨enW y⟩) enW_len hoL (sz rfl) rfl (enW_store o y)
    obtain ⟨e1, _, _⟩ := Value.slice.inj eb
    subst e1
    have hRef : Ref (cx B0 old) lim (putR x.r M) (.pointer (some ⟨p, 0, none⟩)) ((p, .row [.slice (some ⟨b1, 0, none⟩) L.length c0, .int .i64 lim] 2 false) :: (Gs2 ++ (G9 ++ Gr))) :=
      .mk p _ _ ⟨L.set i y, Gs2, G9 ++ Gr, ho3, rd_set hrd hyR, by rw [List.map_set, hmp, hy, hset], rfl⟩ hpok.1 hpok.2
    obtain ⟨_, _, hL0⟩ := ((hw0 [] []).arr enW_len).rt hoL rfl (sz rfl) rfl (sz rfl) rfl (sz rfl)
    rw [List.nil_append, List.append_nil] at hL0
    have hlo := (hv _ hom).len
    have hil := (List.getElem?_eq_some_iff.1 hoL).1
    have hro := hrd o (List.mem_of_getElem? hoL)
    unfold enW enR
    repeat(refine ZX ?_;try intro _)
    refine ct_draw (masks := [0, 1, 3, 7, 0, 31, 63, 0, 255, 511]) (plan := [0, 1, 2, 3, 4, 5, 6, 7, 8, 9]) (E := []) (by kernel_rfl) (by kernel_rfl) (by kernel_rfl) (by kernel_rfl) ?_
    repeat refine YX ?_
    refine pl_S rfl rfl rfl rfl rfl rfl (st_call rfl rfl rfl rfl (CallT.fuel (n := n + 2 + 3) (same30_ct o y (by omega) (hro.weak (by exact drop_auto)) (hyR.weak (by exact drop_auto)) fun t9 ht9 => ⟨by exact rec_auto, ?_⟩) rfl))
    repeat refine YX ?_
    repeat(refine ZX ?_;try intro _)
    refine ct_draw (masks := [0, 1, 3, 7, 0, 0, 63, 127]) (plan := [0, 1, 2, 3, 4, 5, 6, 7]) (E := []) (by kernel_rfl) (by kernel_rfl) (by kernel_rfl) (by kernel_rfl) ?_
    repeat refine YX ?_
    refine pl_st rfl rfl rfl rfl rfl rfl rfl rfl (hst [_, _] _) (by exact rec_auto) ?_
    repeat refine YX ?_
    repeat(refine ZX ?_;try intro _)
    by_cases he : o.r = x.r
    · have hr : putM lim x.r M = (M, false, 0) := by
        unfold putM
        rw [if_neg (by simp [hck0]), hget]
        exact if_pos he
      rw [hr] at hQ
      obtain rfl : t9 = true := ht9.2 (he.trans hy.symm)
      rw [putR_self hs (he ▸ hom)] at hRef
      repeat(refine ZX ?_;try intro _)
      refine re_2 rfl rfl rfl ?_ (hQ _ hRef)
      rw [List.cons_append, List.append_assoc, List.append_assoc]
      exact drop_auto
    · have hr : putM lim x.r M = (putR x.r M, true, 0) := by
        unfold putM
        rw [if_neg (by simp [hck0]), hget]
        exact if_neg he
      rw [hr] at hQ
      obtain rfl : t9 = false := by cases t9 with | false => rfl | true => exact absurd ((ht9.1 rfl).trans hy) he
      repeat(refine ZX ?_;try intro _)
      refine re_2 rfl rfl rfl ?_ (hQ _ hRef)
      rw [List.cons_append, List.append_assoc, List.append_assoc]
      exact drop_auto
  | false =>
    have hnone := fnd_none (q := plc x.r) hs hbf haf (fun h => by have := ht.2 h; cases this)
    have hins : putR x.r M = M.take i ++ ([x.r] ++ M.drop i) := by
      rw [putR_at hs (by omega) hbf haf]
      cases hq : M[i]? with
      | none => rfl
      | some z => exact if_neg fun h => by have := ht.2 ⟨z, hq, (plc_rk (hv z (List.mem_of_getElem? hq)) hokq).2 h⟩; cases this
    repeat(refine ZX ?_;try intro _)
    refine ct_draw (masks := [0, 1, 3, 7, 15, 0, 32, 96, 224, 511]) (plan := [0, 1, 2, 3, 4, 5, 6, 7, 8, 9]) (E := []) (by kernel_rfl) (by kernel_rfl) (by kernel_rfl) (by kernel_rfl) ?_
    repeat refine YX ?_
    repeat(refine ZX ?_;try intro _)
    by_cases hle : lim ≤ (M.length : Int)
    · have hr : putM lim x.r M = (M, false, 7) := by
        unfold putM
        rw [if_neg (by simp [hck0]), hnone]
        exact if_pos hle
      rw [hr] at hQ
      rw [show decide ((L.length : Int) ≥ lim) = true from decide_eq_true (by omega)]
      repeat(refine ZX ?_;try intro _)
      refine re_2 rfl rfl rfl ?_ (hQ _ hRib)
      rw [List.cons_append, List.append_assoc]
      exact drop_auto
    have hr : putM lim x.r M = (putR x.r M, true, 0) := by
      unfold putM
      rw [if_neg (by simp [hck0]), hnone]
      exact if_neg hle
    rw [hr] at hQ
    rw [show decide ((L.length : Int) ≥ lim) = false from decide_eq_false (by omega)]
    have hcut := ho.cuts (C := cx B0 old) (pre := []) (H0 := []) enW_len
    obtain ⟨ad3, c3, hs3, hw3⟩ := hcut.part 58 52 none (some (.int .i64 (i : Int))) 0 i rfl (sz rfl) (Nat.zero_le _) (by omega) (.inr ⟨rfl, rfl⟩) (.inl (by simp [natOf]))
    obtain ⟨ad4, c4, hs4, hw4⟩ := hcut.part 58 52 (some (.int .i64 (i : Int))) none i L.length rfl (sz rfl) (by omega) (Nat.le_refl _) (.inl (by simp [natOf])) (.inr ⟨rfl, rfl⟩)
    simp only [List.nil_append, List.append_nil, List.drop_zero, Nat.sub_zero] at hw3 hw4 hs3
    have hl3 : (L.take i).length = i := by rw [List.length_take]; omega
    have hl4 : ((L.drop i).take (L.length - i)).length = L.length - i := by rw [List.length_take, List.length_drop]; omega
    repeat(refine ZX ?_;try intro _)
    refine ct_draw (masks := [0, 0, 0, 4, 12, 28, 0, 124, 254, 0, 512, 2046, 0, 4096, 12288, 28672, 0, 126976, 262142, 524287, 1048575, 2097151]) (plan := [0, 2, 3, 4, 5, 6, 7, 9, 12, 13, 14, 15, 16, 17, 1, 8, 10, 11, 18, 19, 20, 21]) (E := [10]) (by kernel_rfl) (by kernel_rfl) (by kernel_rfl) (by kernel_rfl) ?_
    repeat refine YX ?_
    refine pl_p rfl rfl rfl rfl rfl rfl (p_slc rfl rfl rfl hs3) ?_
    repeat refine YX ?_
    refine pl_p rfl rfl rfl rfl rfl rfl (p_slc rfl rfl rfl hs4) ?_
    repeat refine YX ?_
    refine pl_S' (late_has 10 rfl (made_slice rfl rfl rfl (zr rfl) rfl rfl rfl rfl rfl rfl)) rfl rfl rfl rfl rfl rfl (st_buildSlice rfl (zr rfl) rfl rfl rfl rfl rfl rfl fun b0 => ⟨by exact rec_auto, ?_⟩)
    repeat refine YX ?_
    refine pl_S' (late_has 10 rfl (made_slice rfl rfl rfl (zr rfl) rfl rfl rfl rfl rfl rfl)) rfl rfl rfl rfl rfl rfl (st_appO (M := L.take i) (c := c3) (pre := []) (Hs := [_]) (Own.emp _ _) enW_len enW_one rfl (by rw [hl3]; rfl) (ap rfl) (hw3.weak (by exact drop_auto)) (Nat.le_trans (Nat.mul_le_mul_right _ (show 2 * (([] : List Rw).length + (L.take i).length) + 192 ≤ 6000 by rw [hl3, List.length_nil]; omega)) (by decide)) fun v3 H3 ho3 => ⟨by exact rec_auto, ?_⟩)
    repeat refine YX ?_
    refine pl_S' (late_has 10 rfl (made_slice rfl rfl rfl (zr rfl) rfl rfl rfl rfl rfl rfl)) rfl rfl rfl rfl rfl rfl (st_buildSlice rfl (zr rfl) rfl rfl rfl rfl rfl rfl fun bo => ⟨by exact rec_auto, ?_⟩)
    repeat refine YX ?_
    refine pl_S' (late_no rfl) rfl rfl rfl rfl rfl rfl (st_appO (M := [y]) (c := 1) (pre := [_]) (Hs := H3) ho3 enW_len enW_one rfl rfl (ap rfl) (arrW_one enW_len (List.Mem.head _)) (Nat.le_trans (Nat.mul_le_mul_right _ (show 2 * (([] ++ L.take i).length + [y].length) + 192 ≤ 6000 by rw [List.nil_append, hl3, List.length_singleton]; omega)) (by decide)) fun v4 H4 ho4 => ⟨by exact rec_auto, ?_⟩)
    repeat refine YX ?_
    refine pl_S' (late_no rfl) rfl rfl rfl rfl rfl rfl (st_appO (M := (L.drop i).take (L.length - i)) (c := c4) (pre := []) (Hs := H4) ho4 enW_len enW_one rfl (by rw [hl4]; rfl) (ap rfl) (hw4.weak (by exact drop_auto)) (Nat.le_trans (Nat.mul_le_mul_right _ (show 2 * (([] ++ L.take i ++ [y]).length + ((L.drop i).take (L.length - i)).length) + 192 ≤ 6000 by rw [hl4, List.nil_append, List.length_append, hl3, List.length_singleton]; omega)) (by decide)) fun v5 H5 ho5 => ⟨by exact rec_auto, ?_⟩)
    obtain ⟨E, hE⟩ : ∃ E, [] ++ L.take i ++ [y] ++ (L.drop i).take (L.length - i) = E := ⟨_, rfl⟩
    rw [hE] at ho5
    rw [List.take_of_length_le (l := L.drop i) (by rw [List.length_drop]; omega), List.nil_append, List.append_assoc] at hE
    obtain ⟨ad5, c5, rfl, _⟩ := id (ho5.arrW (C := cx B0 old) enW_len)
    refine PlanT.perm ?_ (List.perm_append_comm_assoc [_, _, _] H5 _)
    repeat refine YX ?_
    refine pl_st' (late_no rfl) rfl rfl rfl rfl rfl rfl rfl rfl (.there _ (.there _ (sF (sz rfl) rfl rfl rfl))) (by exact rec_auto) ?_
    repeat refine YX ?_
    repeat(refine ZX ?_;try intro _)
    refine re_2 rfl rfl rfl ?_ (hQ _ (.mk p _ _ ⟨_, H5, G9 ++ Gr, ho5, fun w hw => ?_, ?_, rfl⟩ hpok.1 hpok.2))
    · show List.Sublist ((p, AObj.row [.slice ad5 E.length c5, .int .i64 lim] 2 false) :: ((H5 ++ (G9 ++ Gr)) ++ H)) _
      rw [List.append_assoc, List.append_assoc]
      exact drop_auto
    · rw [← hE] at hw
      rcases List.mem_append.1 hw with hw | hw
      · exact (hrd w (List.mem_of_mem_take hw)).weak (List.sublist_append_right _ _)
      · rcases List.mem_append.1 hw with hw | hw
        · rw [List.mem_singleton.1 hw]; exact hyR.weak (List.sublist_append_left _ _)
        · exact (hrd w (List.mem_of_mem_drop hw)).weak (List.sublist_append_right _ _)
    · rw [hins, ← hmp, ← hy, ← hE]; simp
end
end Go.Proofs.YtphadapcafibpaaGreat.Abs

/- The reference's rib: Drop. -/
namespace Go.Proofs.YtphadapcafibpaaGreat.Abs
open Go
set_option linter.unusedVariables false
theorem drop_at {q : Pk} {z : Rt} : ∀ {M : List Rt} {i : Nat}, SrtR M → M[i]? = some z → plc z = q → dropR M q = M.take i ++ M.drop (i + 1)
  | [], i, _, h, _ => by simp at h
  | x :: l, 0, hs, h, e => by
    obtain rfl : x = z := by simpa using h
    obtain ⟨h1, h2⟩ := SrtR.cons.1 hs
    unfold dropR
    rw [List.filter_cons, if_neg (by simp [e])]
    show l.filter _ = l
    refine List.filter_eq_self.2 fun y hy => decide_eq_true fun e2 => ?_
    have := h1 y hy
    unfold rkR at this
    rw [e, e2] at this
    omega
  | x :: l, i + 1, hs, h, e => by
    obtain ⟨h1, h2⟩ := SrtR.cons.1 hs
    have h : l[i]? = some z := by simpa using h
    have ih := drop_at h2 h e
    have hlt := h1 z (List.mem_of_getElem? h)
    unfold dropR at ih ⊢
    rw [List.filter_cons, if_pos (by rw [decide_eq_true_eq]; intro e2; unfold rkR at hlt; rw [e, e2] at hlt; omega), ih]
    rfl
section
variable {B0 : Nat} {old : Nat → Option (List Value)} {n : Nat} {H : Hp} {Q : Value → Hp → Prop} {lim : Int} {M : List Rt} {v : Value} {Hs : Hp}
set_option maxRecDepth 10000
set_option maxHeartbeats 16000000
theorem drop38_ct (k : S60) (hk : k.wf) (peer : Int) (hpe : 0 ≤ peer ∧ peer ≤ 4294967295) (hl : M.length ≤ 1000) (hI : Ref (cx B0 old) lim M v Hs)
    (hno : getR M ⟨keyS k, peer⟩ = none → Q (.int .i64 8) (Hs ++ H)) (hyes : ∀ r, getR M ⟨keyS k, peer⟩ = some r → ∀ Hs', Ref (cx B0 old) lim (dropR M ⟨keyS k, peer⟩) v Hs' → Q (.int .i64 0) (Hs' ++ H)) :
    CallT (cx B0 old) (acall (cx B0 old) ansP (n + 6)) 38 [v, .agg ⟨en60 k⟩, .int .u32 peer] (Hs ++ H) Q := by
  have hRib := hI
  obtain ⟨p, hp0⟩ : ∃ a, v = .pointer (some ⟨a, 0, none⟩) := by cases hI; exact ⟨_, rfl⟩
  subst hp0
  refine call_in3 37 rfl Tryz.func38 rfl rfl ?_
  unfold en60
  repeat(refine ZX ?_;try intro _)
  rename_i bx
  refine rt_step rfl rfl rfl (st_call rfl rfl rfl rfl (CallT.perm (find72_ct (n := n) k hk peer hpe hI hl fun i t hi hbf haf ht => ?_) List.perm_middle))
  refine RunT.perm ?_ List.perm_middle.symm
  cases hI with
  | mk p w G hR hs hv =>
  obtain ⟨L, Gs, Gr, ho, hrd, hmp, rfl⟩ := hR
  obtain ⟨ad0, c0, rfl, hw0⟩ := ho.arrW (C := cx B0 old) enW_len
  have hlm : L.length = M.length := by have := congrArg List.length hmp; rwa [List.length_map] at this
  cases t with
  | false =>
    have hnone := fnd_none (q := ⟨keyS k, peer⟩) hs hbf haf (fun h => by have := ht.2 h; cases this)
    repeat(refine ZX ?_;try intro _)
    exact re_1 rfl rfl (by exact drop_auto) (hno hnone)
  | true =>
    obtain ⟨z, hz1, hz2⟩ := ht.1 rfl
    have hil : i < L.length := by have := (List.getElem?_eq_some_iff.1 hz1).1; omega
    have hget : getR M ⟨keyS k, peer⟩ = some z := (getR_iff hs).2 ⟨List.mem_of_getElem? hz1, hz2⟩
    have hdel := drop_at hs hz1 hz2
    refine RunT.perm (H' := _ :: _ :: (Gs ++ (Gr ++ H))) ?_ (List.Perm.of_eq (by simp only [List.append_assoc, List.cons_append]; rfl))
    have hcut := ho.cuts (C := cx B0 old) (pre := []) (H0 := []) enW_len
    obtain ⟨ad3, c3, hs3, hw3⟩ := hcut.part 58 52 none (some (.int .i64 (i : Int))) 0 i rfl (sz rfl) (Nat.zero_le _) (by omega) (.inr ⟨rfl, rfl⟩) (.inl (by simp [natOf]))
    obtain ⟨ad4, c4, hs4, hw4⟩ := hcut.part 58 52 (some (.int .i64 ((i : Int) + 1))) none (i + 1) L.length rfl (sz rfl) (by omega) (Nat.le_refl _) (.inl rfl) (.inr ⟨rfl, rfl⟩)
    simp only [List.nil_append, List.append_nil, List.drop_zero, Nat.sub_zero] at hw3 hw4 hs3
    have hl3 : (L.take i).length = i := by rw [List.length_take]; omega
    have hl4 : ((L.drop (i + 1)).take (L.length - (i + 1))).length = L.length - (i + 1) := by rw [List.length_take, List.length_drop]; omega
    repeat(refine ZX ?_;try intro _)
    refine ct_draw (masks := [0, 0, 0, 4, 12, 28, 0, 124, 254, 0, 512, 1536, 3584, 0, 8192, 32256, 65534, 131071, 262143, 524287]) (plan := [0, 2, 3, 4, 5, 6, 7, 9, 10, 11, 12, 13, 14, 15, 1, 8, 16, 17, 18, 19]) (E := []) (by kernel_rfl) (by kernel_rfl) (by kernel_rfl) (by kernel_rfl) ?_
    repeat refine YX ?_
    refine pl_p rfl rfl rfl rfl rfl rfl (p_slc rfl rfl rfl hs3) ?_
    repeat refine YX ?_
    refine pl_p rfl rfl rfl rfl rfl rfl (p_slc rfl rfl rfl hs4) ?_
    repeat refine YX ?_
    refine pl_S rfl rfl rfl rfl rfl rfl (st_buildSlice rfl (zr rfl) rfl rfl rfl rfl rfl rfl fun b0 => ⟨by exact rec_auto, ?_⟩)
    repeat refine YX ?_
    refine pl_S rfl rfl rfl rfl rfl rfl (st_appO (M := L.take i) (c := c3) (pre := []) (Hs := [_]) (Own.emp _ _) enW_len enW_one rfl (by rw [hl3]; rfl) (ap rfl) (hw3.weak (by exact drop_auto)) (Nat.le_trans (Nat.mul_le_mul_right _ (show 2 * (([] : List Rw).length + (L.take i).length) + 192 ≤ 6000 by rw [hl3, List.length_nil]; omega)) (by decide)) fun v3 H3 ho3 => ⟨by exact rec_auto, ?_⟩)
    repeat refine YX ?_
    refine pl_S rfl rfl rfl rfl rfl rfl (st_appO (M := (L.drop (i + 1)).take (L.length - (i + 1))) (c := c4) (pre := []) (Hs := H3) ho3 enW_len enW_one rfl (by rw [hl4]; rfl) (ap rfl) (hw4.weak (by exact drop_auto)) (Nat.le_trans (Nat.mul_le_mul_right _ (show 2 * (([] ++ L.take i).length + ((L.drop (i + 1)).take (L.length - (i + 1))).length) + 192 ≤ 6000 by rw [hl4, List.nil_append, hl3]; omega)) (by decide)) fun v4 H4 ho4 => ⟨by exact rec_auto, ?_⟩)
    obtain ⟨E, hE⟩ : ∃ E, [] ++ L.take i ++ (L.drop (i + 1)).take (L.length - (i + 1)) = E := ⟨_, rfl⟩
    rw [hE] at ho4
    rw [List.take_of_length_le (l := L.drop (i + 1)) (by rw [List.length_drop]; omega), List.nil_append] at hE
    obtain ⟨ad5, c5, rfl, _⟩ := id (ho4.arrW (C := cx B0 old) enW_len)
    refine PlanT.perm ?_ (List.perm_append_comm_assoc [_, _] H4 _)
    repeat refine YX ?_
    refine pl_st rfl rfl rfl rfl rfl rfl rfl rfl (.there _ (sF (sz rfl) rfl rfl rfl)) (by exact rec_auto) ?_
    repeat refine YX ?_
    repeat(refine ZX ?_;try intro _)
    refine re_1 rfl rfl ?_ (hyes z hget _ (.mk p _ _ ⟨_, H4, Gr, ho4, fun w hw => ?_, ?_, rfl⟩ (hs.sub (List.filter_sublist)) (fun x hx => hv x (List.mem_filter.1 hx).1)))
    · show List.Sublist ((p, AObj.row [.slice ad5 E.length c5, .int .i64 lim] 2 false) :: ((H4 ++ Gr) ++ H)) _
      rw [List.append_assoc]
      exact drop_auto
    · rw [← hE] at hw
      rcases List.mem_append.1 hw with hw | hw
      · exact hrd w (List.mem_of_mem_take hw)
      · exact hrd w (List.mem_of_mem_drop hw)
    · rw [hdel, ← hmp, ← hE]; simp
end
end Go.Proofs.YtphadapcafibpaaGreat.Abs

/- The reference's rib: DropPeer, Sweep, Stale. -/
namespace Go.Proofs.YtphadapcafibpaaGreat.Abs
open Go
set_option linter.unusedVariables false
theorem Arr.rt3 {C : Ctx} {H : Hp} {b o j : Nat} {L : List Rw} {x : Rw} (h : Arr C H (some ⟨b, o, none⟩) 38 enW L) (hx : L[j]? = some x) (hg2 : aggAt C 4 = some false) (hn2 : sizeAt C 4 = some 1) :
    (∀ H', H.Sublist H' → ∀ {off : Nat} (h : off = o + j * 38 + 37 := by omega), LdT C 4 H' b off (.bool x.r.stale)) ∧ True := by
  obtain ⟨b1, o1, cs1, e1, hrow, hcut⟩ := h.els j x hx
  cases e1
  refine ⟨fun H' hs off h => ?_, trivial⟩
  rw [h]
  have h3 := cut_part (f := 37) hcut (q := [.bool x.r.stale]) (m := 1) rfl (by decide)
  exact Abs.ld1 (hrow.weak hs) hg2 hn2 (cut_one h3)
def kpD (peer : Int) (b : Bool) (r : Rt) : Bool := decide (r.peer ≠ peer) || (b && !r.stale)
theorem kpD_D (peer : Int) : kpD peer false = keepD peer := by funext r; unfold kpD keepD; by_cases h : r.peer = peer <;> simp [h]
theorem kpD_S (peer : Int) : kpD peer true = keepS peer := by funext r; unfold kpD keepS; by_cases h : r.peer = peer <;> simp [h]
theorem stl_same {peer : Int} {x : Rw} (h : x.r.peer = peer → x.r.stale = true) : stlW peer x = x := by
  unfold stlW stlR
  split
  · rename_i g
    have := h g
    obtain ⟨⟨n, a, p, s⟩, _, _, _, _, _, _⟩ := x
    dsimp only at this; subst this; rfl
  · rfl
theorem setSelf {α : Type} {L : List α} {i : Nat} {x : α} (h : L[i]? = some x) : L.set i x = L := by
  obtain ⟨h1, rfl⟩ := List.getElem?_eq_some_iff.1 h
  exact List.set_getElem_self h1
theorem fltTk {f : Rw → Bool} {L : List Rw} {i : Nat} {x : Rw} (hx : L[i]? = some x) : (L.take (i + 1)).filter f = if f x then (L.take i).filter f ++ [x] else (L.take i).filter f := by
  rw [List.take_add_one, hx, List.filter_append]
  show _ ++ [x].filter f = _
  rw [List.filter_cons]
  split <;> simp
section
variable {B0 : Nat} {old : Nat → Option (List Value)} {n : Nat} {H : Hp} {Q : Value → Hp → Prop} {lim : Int} {M : List Rt} {v : Value} {Hs : Hp}
set_option maxRecDepth 10000
set_option maxHeartbeats 16000000
theorem drop73_ct (peer : Int) (b : Bool) (hl : M.length ≤ 1000) (hI : Ref (cx B0 old) lim M v Hs) (hQ : ∀ Hs', Ref (cx B0 old) lim (M.filter (kpD peer b)) v Hs' → Q (.int .i64 ((M.length : Int) - ((M.filter (kpD peer b)).length : Int))) (Hs' ++ H)) :
    CallT (cx B0 old) (acall (cx B0 old) ansP (n + 1)) 73 [v, .int .u32 peer, .bool b] (Hs ++ H) Q := by
  cases hI with
  | mk p w G hR hs hv =>
  obtain ⟨L, Gs, Gr, ho, hrd, hmp, rfl⟩ := hR
  obtain ⟨ad0, c0, rfl, hw0⟩ := ho.arrW (C := cx B0 old) enW_len
  have hlm : L.length = M.length := by have := congrArg List.length hmp; rwa [List.length_map] at this
  have hA0 := (hw0 [] []).arr enW_len
  simp only [List.nil_append, List.append_nil] at hA0
  have hfm : (L.filter fun x => kpD peer b x.r).map (·.r) = M.filter (kpD peer b) := by rw [← hmp, List.filter_map]; rfl
  refine call_in3 66 rfl Tryz.func73 rfl rfl ?_
  refine CodeT.perm (H' := (p, .row [.slice ad0 L.length c0, .int .i64 lim] 2 false) :: (Gs ++ (Gr ++ H))) ?_ (List.Perm.of_eq (by simp only [List.append_assoc, List.cons_append]))
  repeat(refine ZX ?_;try intro _)
  refine ct_midB (ι := Value × Hp) (fun j => Own enW 38 (L.filter fun x => kpD peer b x.r) j.1 j.2) (fun j => [(7, j.1), (0, .pointer (some ⟨p, 0, none⟩))])
    (fun j => (p, .row [.slice ad0 L.length c0, .int .i64 lim] 2 false) :: (j.2 ++ (Gs ++ (Gr ++ H)))) ?_ ?_
  · refine loop_ind (ι := Nat × Value × Hp) (0, .slice none 0 0, []) (fun j => L.length - j.1) (fun j => j.1 ≤ L.length ∧ Own enW 38 ((L.take j.1).filter fun x => kpD peer b x.r) j.2.1 j.2.2)
      (fun j => [(8, .int .i64 (j.1 : Int)), (7, j.2.1), (0, .pointer (some ⟨p, 0, none⟩)), (1, .int .u32 peer), (2, .bool b)]) (fun j => (p, .row [.slice ad0 L.length c0, .int .i64 lim] 2 false) :: (j.2.2 ++ (Gs ++ (Gr ++ H)))) ⟨Nat.zero_le _, .nil⟩ (by repeat (first | exact SubL.nil | refine SubL.cons rfl ?_)) (by exact drop_auto) ?_
    rintro ⟨i, v1, G1⟩ ⟨hi, ho1⟩
    dsimp only at hi ho1 ⊢
    have hf1 : ((L.take i).filter fun x => kpD peer b x.r).length ≤ 1000 := Nat.le_trans (List.length_filter_le _ _) (by rw [List.length_take]; omega)
    repeat(refine ZX ?_;try intro _)
    refine ct_condT te_d rfl (fun hlt => ?_) (fun hlt => ?_)
    rotate_left
    · obtain rfl : i = L.length := by omega
      rw [List.take_length] at ho1
      repeat(refine ZX ?_;try intro _)
      exact ⟨(v1, G1), ho1, by repeat (first | exact SubL.nil | refine SubL.cons rfl ?_), by exact drop_auto⟩
    obtain ⟨y, hy⟩ : ∃ y, L[i]? = some y := ⟨_, List.getElem?_eq_getElem (by omega)⟩
    have hfl1 := fltTk (f := fun x => kpD peer b x.r) hy
    obtain ⟨E1, hE1⟩ : ∃ E, ((L.take i).filter fun x => kpD peer b x.r) = E := ⟨_, rfl⟩
    rw [hE1] at ho1 hf1 hfl1
    obtain ⟨b1, o1, cs1, e1, _, _⟩ := hA0.els i y hy
    subst e1
    obtain ⟨_, hL0, hL1⟩ := hA0.rt hy rfl (sz rfl) rfl (sz rfl) rfl (sz rfl)
    obtain ⟨hL2, _⟩ := hA0.rt3 hy rfl (sz rfl)
    obtain ⟨al1, cl1, rfl, _⟩ := ho1.arrW (C := cx B0 old) enW_len
    repeat(refine ZX ?_;try intro _)
    by_cases hp : y.r.peer = peer
    · rw [show (y.r.peer != peer) = false by rw [hp]; exact bne_self_eq_false _]
      repeat(refine ZX ?_;try intro _)
      have hd : kpD peer b y.r = (b && !y.r.stale) := by unfold kpD; simp [hp]
      rw [hd] at hfl1
      cases b with
      | false =>
        repeat(refine ZX ?_;try intro _)
        exact ⟨(i + 1, _, G1), ⟨by dsimp only; omega, by dsimp only; rw [hfl1]; exact ho1⟩, by dsimp only; omega, by repeat (first | exact SubL.nil | refine SubL.cons rfl ?_), by exact drop_auto⟩
      | true =>
        rcases Bool.eq_false_or_eq_true y.r.stale with hst | hst
        · rw [show (true && !y.r.stale) = false by rw [hst]; rfl] at hfl1
          repeat(refine ZX ?_;try intro _)
          rw [show (!y.r.stale) = false by rw [hst]; rfl]
          repeat(refine ZX ?_;try intro _)
          exact ⟨(i + 1, _, G1), ⟨by dsimp only; omega, by dsimp only; rw [hfl1]; exact ho1⟩, by dsimp only; omega, by repeat (first | exact SubL.nil | refine SubL.cons rfl ?_), by exact drop_auto⟩
        · rw [show (true && !y.r.stale) = true by rw [hst]; rfl] at hfl1
          repeat(refine ZX ?_;try intro _)
          rw [show (!y.r.stale) = true by rw [hst]; rfl]
          repeat(refine ZX ?_;try intro _)
          refine rt_step rfl rfl rfl (st_appP (M := [y]) (c := 1) (pre := [_, _]) ho1 enW_len enW_one rfl rfl (ap rfl) (arrW_one enW_len hm0) (Nat.le_trans (Nat.mul_le_mul_right _ (show 2 * (E1.length + [y].length) + 192 ≤ 6000 by rw [List.length_singleton]; omega)) (by decide)) fun v9 G9 o9 => ?_)
          repeat(refine ZX ?_;try intro _)
          exact ⟨(i + 1, v9, G9), ⟨by dsimp only; omega, by dsimp only; rw [hfl1]; exact o9⟩, by dsimp only; omega, by repeat (first | exact SubL.nil | refine SubL.cons rfl ?_), by exact drop_auto⟩
    · rw [show (y.r.peer != peer) = true from bne_iff_ne.2 hp]
      have hd : kpD peer b y.r = true := by unfold kpD; simp [hp]
      rw [hd] at hfl1
      repeat(refine ZX ?_;try intro _)
      refine rt_step rfl rfl rfl (st_appP (M := [y]) (c := 1) (pre := [_, _]) ho1 enW_len enW_one rfl rfl (ap rfl) (arrW_one enW_len hm0) (Nat.le_trans (Nat.mul_le_mul_right _ (show 2 * (E1.length + [y].length) + 192 ≤ 6000 by rw [List.length_singleton]; omega)) (by decide)) fun v9 G9 o9 => ?_)
      repeat(refine ZX ?_;try intro _)
      exact ⟨(i + 1, v9, G9), ⟨by dsimp only; omega, by dsimp only; rw [hfl1]; exact o9⟩, by dsimp only; omega, by repeat (first | exact SubL.nil | refine SubL.cons rfl ?_), by exact drop_auto⟩
  rintro ⟨v1, G1⟩ ho1
  dsimp only at ho1 ⊢
  have hf1 := List.length_filter_le (fun x : Rw => kpD peer b x.r) L
  obtain ⟨al1, cl1, rfl, _⟩ := ho1.arrW (C := cx B0 old) enW_len
  repeat(refine ZX ?_;try intro _)
  have hQ := hQ _ (.mk p _ _ ⟨_, G1, Gr, ho1, fun w hw => hrd w (List.mem_filter.1 hw).1, hfm, rfl⟩ (hs.sub List.filter_sublist) (fun x hx => hv x (List.mem_filter.1 hx).1))
  rw [show (M.filter (kpD peer b)).length = (L.filter fun x => kpD peer b x.r).length by rw [← hfm, List.length_map], ← hlm] at hQ
  refine re_1 rfl rfl ?_ hQ
  rw [List.cons_append, List.append_assoc]
  exact drop_auto
theorem dropPeer39_ct (peer : Int) (hl : M.length ≤ 1000) (hI : Ref (cx B0 old) lim M v Hs) (hQ : ∀ Hs', Ref (cx B0 old) lim (M.filter (keepD peer)) v Hs' → Q (.int .i64 ((M.length : Int) - ((M.filter (keepD peer)).length : Int))) (Hs' ++ H)) :
    CallT (cx B0 old) (acall (cx B0 old) ansP (n + 2)) 39 [v, .int .u32 peer] (Hs ++ H) Q := by
  rw [← kpD_D] at hQ
  refine call_in2 8 rfl Tryz.func39 rfl rfl ?_
  repeat(refine ZX ?_;try intro _)
  refine rt_step rfl rfl rfl (st_call rfl rfl rfl rfl (drop73_ct peer false hl hI fun Hs' hI' => ?_))
  repeat(refine ZX ?_;try intro _)
  exact re_1 rfl rfl (by exact drop_auto) (hQ _ hI')
theorem sweep41_ct (peer : Int) (hl : M.length ≤ 1000) (hI : Ref (cx B0 old) lim M v Hs) (hQ : ∀ Hs', Ref (cx B0 old) lim (M.filter (keepS peer)) v Hs' → Q (.int .i64 ((M.length : Int) - ((M.filter (keepS peer)).length : Int))) (Hs' ++ H)) :
    CallT (cx B0 old) (acall (cx B0 old) ansP (n + 2)) 41 [v, .int .u32 peer] (Hs ++ H) Q := by
  rw [← kpD_S] at hQ
  refine call_in2 8 rfl Tryz.func41 rfl rfl ?_
  repeat(refine ZX ?_;try intro _)
  refine rt_step rfl rfl rfl (st_call rfl rfl rfl rfl (drop73_ct peer true hl hI fun Hs' hI' => ?_))
  repeat(refine ZX ?_;try intro _)
  exact re_1 rfl rfl (by exact drop_auto) (hQ _ hI')
theorem stale40_ct (peer : Int) (hl : M.length ≤ 1000) (hI : Ref (cx B0 old) lim M v Hs) (hQ : ∀ Hs', Ref (cx B0 old) lim (M.map (stlR peer)) v Hs' → Q (.int .i64 (stlN peer M)) (Hs' ++ H)) :
    CallT (cx B0 old) (acall (cx B0 old) ansP (n + 1)) 40 [v, .int .u32 peer] (Hs ++ H) Q := by
  cases hI with
  | mk p w G hR hs hv =>
  obtain ⟨L, Gs, Gr, ho, hrd, hmp, rfl⟩ := hR
  obtain ⟨ad0, c0, rfl, _⟩ := ho.arrW (C := cx B0 old) enW_len
  have hlm : L.length = M.length := by have := congrArg List.length hmp; rwa [List.length_map] at this
  refine call_in2 47 rfl Tryz.func40 rfl rfl ?_
  refine CodeT.perm (H' := (p, .row [.slice ad0 L.length c0, .int .i64 lim] 2 false) :: (Gs ++ (Gr ++ H))) ?_ (List.Perm.of_eq (by simp only [List.append_assoc, List.cons_append]))
  repeat(refine ZX ?_;try intro _)
  refine loop_ind (ι := Nat × Nat × Hp) (0, 0, Gs) (fun j => L.length - j.1) (fun j => j.1 ≤ L.length ∧ j.2.1 = stlN peer ((L.take j.1).map (·.r)) ∧ Own enW 38 ((L.take j.1).map (stlW peer) ++ L.drop j.1) (.slice ad0 L.length c0) j.2.2)
      (fun j => [(6, .int .i64 (j.1 : Int)), (5, .int .i64 (j.2.1 : Int)), (0, .pointer (some ⟨p, 0, none⟩)), (1, .int .u32 peer)]) (fun j => (p, .row [.slice ad0 L.length c0, .int .i64 lim] 2 false) :: (j.2.2 ++ (Gr ++ H))) ⟨Nat.zero_le _, rfl, ho⟩ (by repeat (first | exact SubL.nil | refine SubL.cons rfl ?_)) (by exact drop_auto) ?_
  rintro ⟨i, k, G1⟩ ⟨hi, hk, ho1⟩
  dsimp only at hi hk ho1 ⊢
  have hkl : k ≤ 1000 := by rw [hk]; unfold stlN; refine Nat.le_trans (List.length_filter_le _ _) ?_; rw [List.length_map, List.length_take]; omega
  repeat(refine ZX ?_;try intro _)
  refine ct_condT te_d rfl (fun hlt => ?_) (fun hlt => ?_)
  rotate_left
  · obtain rfl : i = L.length := by omega
    rw [List.take_length] at hk ho1
    rw [List.drop_length, List.append_nil] at ho1
    rw [hmp] at hk
    repeat(refine ZX ?_;try intro _)
    have hQ := hQ _ (.mk p _ _ ⟨_, G1, Gr, ho1, fun w hw => ?_, ?_, rfl⟩ ?_ ?_)
    · rw [← hk] at hQ
      refine re_1 rfl rfl ?_ hQ
      rw [List.cons_append, List.append_assoc]
      exact drop_auto
    · obtain ⟨u, hu, rfl⟩ := List.mem_map.1 hw
      exact rd_stl (hrd u hu)
    · rw [← hmp, List.map_map, List.map_map]; rfl
    · unfold SrtR at hs ⊢
      rw [List.map_map]
      have : (rkR ∘ stlR peer) = rkR := by funext r; show rkP (plc (stlR peer r)) = _; rw [plc_stl]; rfl
      rw [this]; exact hs
    · intro x hx
      obtain ⟨u, hu, rfl⟩ := List.mem_map.1 hx
      exact ok_stl peer u (hv u hu)
  obtain ⟨y, hy⟩ : ∃ y, L[i]? = some y := ⟨_, List.getElem?_eq_getElem (by omega)⟩
  have hlen1 : ((L.take i).map (stlW peer)).length = i := by rw [List.length_map, List.length_take]; omega
  have hy2 : ((L.take i).map (stlW peer) ++ L.drop i)[i]? = some y := by
    rw [List.getElem?_append_right (by omega), hlen1, Nat.sub_self, List.getElem?_drop]
    exact hy
  have hnx : ∀ z, z = stlW peer y → (L.take (i + 1)).map (stlW peer) ++ L.drop (i + 1) = ((L.take i).map (stlW peer) ++ L.drop i).set i z := fun z e => by
    obtain ⟨hlt', hge⟩ := List.getElem?_eq_some_iff.1 hy
    rw [List.set_append_right _ _ (by omega), hlen1, Nat.sub_self, List.drop_eq_getElem_cons hlt', hge, List.set_cons_zero, List.take_add_one, hy, e]
    simp
  have hnk : stlN peer ((L.take (i + 1)).map (·.r)) = k + (if decide (y.r.peer = peer) && !y.r.stale then 1 else 0) := by
    rw [hk, List.take_add_one, hy]
    unfold stlN
    rw [List.map_append, List.filter_append, List.length_append]
    show _ + ([y.r].filter _).length = _
    rw [List.filter_cons]
    by_cases hq : (decide (y.r.peer = peer) && !y.r.stale) = true
    · rw [if_pos hq, if_pos hq]; rfl
    · rw [if_neg hq, if_neg hq]; rfl
  obtain ⟨L1, hL1e⟩ : ∃ L1, (L.take i).map (stlW peer) ++ L.drop i = L1 := ⟨_, rfl⟩
  rw [hL1e] at ho1 hy2 hnx
  obtain ⟨ad1, cc1, ee, hw1⟩ := ho1.arrW (C := cx B0 old) enW_len
  obtain ⟨ea, _, _⟩ := Value.slice.inj ee
  subst ea
  have hA1 := (hw1 [] []).arr enW_len
  simp only [List.nil_append, List.append_nil] at hA1
  obtain ⟨b1, o1, cs1, e1, _, _⟩ := hA1.els i y hy2
  subst e1
  obtain ⟨_, hL0, _⟩ := hA1.rt hy2 rfl (sz rfl) rfl (sz rfl) rfl (sz rfl)
  obtain ⟨hL2, _⟩ := hA1.rt3 hy2 rfl (sz rfl)
  repeat(refine ZX ?_;try intro _)
  by_cases hp : y.r.peer = peer
  · rw [show (y.r.peer == peer) = true from beq_iff_eq.2 hp]
    repeat(refine ZX ?_;try intro _)
    rcases Bool.eq_false_or_eq_true y.r.stale with hst | hst
    · rw [show (!y.r.stale) = false by rw [hst]; rfl]
      repeat(refine ZX ?_;try intro _)
      refine ⟨(i + 1, k, G1), ⟨by dsimp only; omega, ?_, ?_⟩, by dsimp only; omega, by repeat (first | exact SubL.nil | refine SubL.cons rfl ?_), by exact drop_auto⟩
      · dsimp only; rw [hnk, hst]; simp
      · dsimp only
        rw [hnx y (stl_same fun _ => hst).symm]
        rw [setSelf hy2]
        exact ho1
    · rw [show (!y.r.stale) = true by rw [hst]; rfl]
      have hsw : storeRow (enW y) 37 [.bool true] = some (enW (stlW peer y)) := by
        unfold stlW stlR
        rw [if_pos hp]
        rfl
      obtain ⟨G2, ho2, b2, c2, eb, hstp⟩ := ho1.set (C := cx B0 old) (t := 4) (f := 37) (a' := stlW peer y) (u := .bool true) enW_len hy2 (sz rfl) rfl hsw
      obtain ⟨eb1, _, _⟩ := Value.slice.inj eb
      obtain ⟨rfl, rfl⟩ : b1 = b2 ∧ o1 = 0 := by cases eb1; exact ⟨rfl, rfl⟩
      have hstp' : ∀ H0 {off : Nat} (h : off = 0 + i * 38 + 37 := by omega), StP (cx B0 old) 4 b1 off (.bool true) ((p, .row [.slice (some ⟨b1, 0, none⟩) L.length c0, .int .i64 lim] 2 false) :: (G1 ++ H0)) ((p, .row [.slice (some ⟨b1, 0, none⟩) L.length c0, .int .i64 lim] 2 false) :: (G2 ++ H0)) := fun H0 off h => by rw [h]; exact hstp [_] H0
      repeat(refine ZX ?_;try intro _)
      refine rt_st rfl rfl rfl rfl rfl (hstp' _) ?_
      repeat(refine ZX ?_;try intro _)
      refine ⟨(i + 1, k + 1, G2), ⟨by dsimp only; omega, ?_, ?_⟩, by dsimp only; omega, by repeat (first | exact SubL.nil | refine SubL.cons rfl ?_), by exact drop_auto⟩
      · dsimp only; rw [hnk, hst, hp]; simp
      · dsimp only
        rw [hnx _ rfl]
        exact ho2
  · rw [show (y.r.peer == peer) = false from beq_eq_false_iff_ne.2 hp]
    repeat(refine ZX ?_;try intro _)
    refine ⟨(i + 1, k, G1), ⟨by dsimp only; omega, ?_, ?_⟩, by dsimp only; omega, by repeat (first | exact SubL.nil | refine SubL.cons rfl ?_), by exact drop_auto⟩
    · dsimp only; rw [hnk]; simp [hp]
    · dsimp only
      rw [hnx y (stl_same fun h => absurd h hp).symm, setSelf hy2]
      exact ho1
end
end Go.Proofs.YtphadapcafibpaaGreat.Abs

/- The reference's rib: Get, All, Routes, From. -/
namespace Go.Proofs.YtphadapcafibpaaGreat.Abs
open Go
set_option linter.unusedVariables false
theorem pk2 {G X Y Z : Hp} : (X ++ ((G ++ Y) ++ Z)).Perm (G ++ (X ++ (Y ++ Z))) := by
  have h := List.perm_append_comm_assoc X G (Y ++ Z)
  simpa using h
section
variable {B0 : Nat} {old : Nat → Option (List Value)} {n : Nat} {H : Hp} {Q : Value → Hp → Prop} {lim : Int} {M : List Rt} {v : Value} {Hs : Hp}
set_option maxRecDepth 10000
set_option maxHeartbeats 16000000
theorem get42_ct (k : S60) (hk : k.wf) (peer : Int) (hpe : 0 ≤ peer ∧ peer ≤ 4294967295) (hl : M.length ≤ 1000) (hI : Ref (cx B0 old) lim M v Hs)
    (hQ : ∀ y G, y.r = (getR M ⟨keyS k, peer⟩).getD zRt → Rd (cx B0 old) G y → Q (.tuple #[.agg ⟨enW y⟩, .bool (getR M ⟨keyS k, peer⟩).isSome]) (G ++ (Hs ++ H))) :
    CallT (cx B0 old) (acall (cx B0 old) ansP (n + 6)) 42 [v, .agg ⟨en60 k⟩, .int .u32 peer] (Hs ++ H) Q := by
  obtain ⟨p, hp0⟩ : ∃ a, v = .pointer (some ⟨a, 0, none⟩) := by cases hI; exact ⟨_, rfl⟩
  subst hp0
  refine call_in3 28 rfl Tryz.func42 rfl rfl ?_
  unfold en60
  repeat(refine ZX ?_;try intro _)
  refine rt_step rfl rfl rfl (st_call rfl rfl rfl rfl (CallT.perm (find72_ct (n := n) k hk peer hpe hI hl fun i t hi hbf haf ht => ?_) (List.perm_append_comm_assoc Hs [_, _] H)))
  refine RunT.perm ?_ (List.perm_append_comm_assoc Hs [_, _] H).symm
  cases hI with
  | mk p w G hR hs hv =>
  cases t with
  | false =>
    have hnone := fnd_none (q := ⟨keyS k, peer⟩) hs hbf haf (fun h => by have := ht.2 h; cases this)
    rw [hnone] at hQ
    have hQ := hQ zRw [] rfl rd_z
    rw [enW_z] at hQ
    unfold zR at hQ
    repeat(refine ZX ?_;try intro _)
    exact re_c2 rfl rfl (.own _ _ (by exact in_auto)) rfl (sz rfl) rfl rfl (by exact drop_auto) hQ
  | true =>
    obtain ⟨z, hz1, hz2⟩ := ht.1 rfl
    obtain ⟨L, Gs, Gr, ho, hrd, hmp, rfl⟩ := hR
    obtain ⟨ad0, c0, rfl, hw0⟩ := ho.arrW (C := cx B0 old) enW_len
    have hlm : L.length = M.length := by have := congrArg List.length hmp; rwa [List.length_map] at this
    have hil : i < L.length := by have := (List.getElem?_eq_some_iff.1 hz1).1; omega
    have hzm := List.mem_of_getElem? hz1
    have hget : getR M ⟨keyS k, peer⟩ = some z := (getR_iff hs).2 ⟨hzm, hz2⟩
    obtain ⟨o, hoL⟩ : ∃ o, L[i]? = some o := ⟨_, List.getElem?_eq_getElem hil⟩
    obtain rfl : o.r = z := by rw [← hmp, List.getElem?_map, hoL] at hz1; exact Option.some.inj hz1
    have hA0 := (hw0 [] []).arr enW_len
    simp only [List.nil_append, List.append_nil] at hA0
    obtain ⟨b1, o1, cs1, e1, _, _⟩ := hA0.els i o hoL
    subst e1
    obtain ⟨_, _, hL0⟩ := hA0.rt hoL rfl (sz rfl) rfl (sz rfl) rfl (sz rfl)
    have hro := hrd o (List.mem_of_getElem? hoL)
    rw [hget] at hQ
    refine RunT.perm (H' := _ :: _ :: _ :: (Gs ++ (Gr ++ H))) ?_ (List.Perm.of_eq (by simp only [List.append_assoc, List.cons_append]; rfl))
    repeat(refine ZX ?_;try intro _)
    refine rt_step rfl rfl rfl (st_call rfl rfl rfl rfl (CallT.fuel (n := n + 2 + 3) (own22W o (hv _ hzm).light (hro.weak (by exact drop_auto)) fun y G9 hy hyR => ?_) rfl))
    have hQ := hQ y G9 hy hyR
    unfold enW enR at hQ ⊢
    repeat(refine ZX ?_;try intro _)
    exact re_c2 rfl rfl (.own _ _ (by exact in_auto)) rfl (sz rfl) rfl rfl (by rw [List.cons_append, List.append_assoc]; exact drop_auto) hQ
theorem own51_ct {ad0 : Option Addr} {c0 : Nat} {L : List Rw} (hA0 : Arr (cx B0 old) H ad0 38 enW L) (hrd : ∀ x ∈ L, Rd (cx B0 old) H x) (hlg : ∀ x ∈ L, x.r.a.light) (hl : L.length ≤ 1000) (hQ : ∀ w G, RsL (cx B0 old) (L.map (·.r)) w G → Q w (G ++ H)) :
    CallT (cx B0 old) (acall (cx B0 old) ansP (n + 4)) 51 [.slice ad0 L.length c0] H Q := by
  have hft : ∀ l : List Rt, l.filter (fun _ => true) = l := fun l => List.filter_eq_self.2 fun _ _ => rfl
  refine call_in1 20 rfl Tryz.func51 rfl rfl ?_
  repeat(refine ZX ?_;try intro _)
  refine loop_ind (ι := Nat × List Rw × Value × Hp × Hp) (0, [], .slice none 0 0, [], []) (fun j => L.length - j.1)
    (fun j => j.1 ≤ L.length ∧ j.2.1.length ≤ j.1 ∧ Own enW 38 j.2.1 j.2.2.1 j.2.2.2.1 ∧ (∀ x ∈ j.2.1, Rd (cx B0 old) j.2.2.2.2 x) ∧ j.2.1.map (·.r) = ((L.take j.1).map (·.r)).filter (fun _ => true))
    (fun j => [(4, .int .i64 (j.1 : Int)), (3, j.2.2.1), (0, .slice ad0 L.length c0)])
    (fun j => j.2.2.2.1 ++ (j.2.2.2.2 ++ (H))) ⟨Nat.zero_le _, Nat.zero_le _, .nil, fun x h => (by cases h), rfl⟩ (by repeat (first | exact SubL.nil | refine SubL.cons rfl ?_)) (by exact drop_auto) ?_
  rintro ⟨i, E, vl, G1, G2⟩ ⟨hi, hel, ho1, hrd1, hmp1⟩
  dsimp only at hi hel ho1 hrd1 hmp1 ⊢
  obtain ⟨al1, cl1, rfl, _⟩ := ho1.arrW (C := cx B0 old) enW_len
  repeat(refine ZX ?_;try intro _)
  refine ct_condT te_d rfl (fun hlt => ?_) (fun hlt => ?_)
  rotate_left
  · obtain rfl : i = L.length := by omega
    rw [List.take_length, hft] at hmp1
    have hQ := hQ _ (G1 ++ G2) ⟨E, G1, G2, ho1, hrd1, hmp1, rfl⟩
    rw [List.append_assoc] at hQ
    repeat(refine ZX ?_;try intro _)
    refine re_1 rfl rfl ?_ hQ
    exact drop_auto
  obtain ⟨y, hy⟩ : ∃ y, L[i]? = some y := ⟨_, List.getElem?_eq_getElem (by omega)⟩
  have hym := List.mem_of_getElem? hy
  obtain ⟨b1, o1, cs1, e1, _, _⟩ := hA0.els i y hy
  subst e1
  obtain ⟨hL0, hL1, hL2⟩ := hA0.rt hy rfl (sz rfl) rfl (sz rfl) rfl (sz rfl)
  have hnx : ∀ z : List Rt, z = ((L.take i).map (·.r)).filter (fun _ => true) ++ [y.r].filter (fun _ => true) → z = ((L.take (i + 1)).map (·.r)).filter (fun _ => true) := fun z e => by
    rw [e, List.take_add_one, hy, List.map_append, List.filter_append]; rfl
  have app : ∀ {y9 : Rw} {v9 : Value} {G9 G3 : Hp}, y9.r = y.r → Rd (cx B0 old) G3 y9 → [y.r].filter (fun _ => true) = [y.r] → Own enW 38 (E ++ [y9]) v9 G9 → (∀ x ∈ E ++ [y9], Rd (cx B0 old) (G3 ++ G2) x) ∧ (E ++ [y9]).map (·.r) = ((L.take (i + 1)).map (·.r)).filter (fun _ => true) := fun {y9 v9 G9 G3} h1 h2 h3 h4 => ⟨fun z hz => by
      rcases List.mem_append.1 hz with h | h
      · exact (hrd1 z h).weak (List.sublist_append_right _ _)
      · rw [List.mem_singleton.1 h]; exact h2.weak (List.sublist_append_left _ _), hnx _ (by rw [h3, List.map_append, hmp1, List.map_singleton, h1])⟩
  repeat(refine ZX ?_;try intro _)
  refine rt_step rfl rfl rfl (st_call rfl rfl rfl rfl (CallT.fuel (n := n + 0 + 3) (own22W y (hlg y hym) ((hrd y hym).weak (by exact drop_auto)) fun y9 G3 hy9 hyR => ?_) rfl))
  refine RunT.perm ?_ pk2
  repeat(refine ZX ?_;try intro _)
  refine rt_step rfl rfl rfl (st_appP (M := [y9]) (c := 1) (pre := [_]) ho1 enW_len enW_one rfl rfl (ap rfl) (arrW_one enW_len hm0) (Nat.le_trans (Nat.mul_le_mul_right _ (show 2 * (E.length + [y9].length) + 192 ≤ 6000 by rw [List.length_singleton]; omega)) (by decide)) fun v9 G9 o9 => ?_)
  repeat(refine ZX ?_;try intro _)
  obtain ⟨g1, g2⟩ := app hy9 hyR rfl o9
  exact ⟨(i + 1, E ++ [y9], v9, G9, G3 ++ G2), ⟨by dsimp only; omega, by dsimp only; rw [List.length_append, List.length_singleton]; omega, o9, g1, g2⟩, by dsimp only; omega, by repeat (first | exact SubL.nil | refine SubL.cons rfl ?_), by exact drop_auto⟩
theorem all17_ct (hl : M.length ≤ 1000) (hI : Ref (cx B0 old) lim M v Hs) (hQ : ∀ w G, RsL (cx B0 old) M w G → Q w (G ++ (Hs ++ H))) :
    CallT (cx B0 old) (acall (cx B0 old) ansP (n + 5)) 17 [v] (Hs ++ H) Q := by
  cases hI with
  | mk p w G hR hs hv =>
  obtain ⟨L, Gs, Gr, ho, hrd, hmp, rfl⟩ := hR
  obtain ⟨ad0, c0, rfl, hw0⟩ := ho.arrW (C := cx B0 old) enW_len
  have hlm : L.length = M.length := by have := congrArg List.length hmp; rwa [List.length_map] at this
  have hA0 := (hw0 [] []).arr enW_len
  simp only [List.nil_append, List.append_nil] at hA0
  have hmem : ∀ x ∈ L, x.r ∈ M := fun x hx => by rw [← hmp]; exact List.mem_map_of_mem hx
  have hlg : ∀ x ∈ L, x.r.a.light := fun x hx => (hv _ (hmem x hx)).light
  refine call_in1 8 rfl Tryz.func17 rfl rfl ?_
  refine CodeT.perm (H' := (p, .row [.slice ad0 L.length c0, .int .i64 lim] 2 false) :: (Gs ++ (Gr ++ H))) ?_ (List.Perm.of_eq (by simp only [List.append_assoc, List.cons_append]))
  repeat(refine ZX ?_;try intro _)
  refine rt_step rfl rfl rfl (st_call rfl rfl rfl rfl (own51_ct (hA0.weak (by exact drop_auto)) (fun x hx => (hrd x hx).weak (by exact drop_auto)) hlg (by omega) fun w9 G9 h9 => ?_))
  rw [hmp] at h9
  repeat(refine ZX ?_;try intro _)
  exact re_1 rfl rfl (by rw [List.cons_append, List.append_assoc]; exact drop_auto) (hQ _ _ h9)
theorem routes44_ct (k : S60) (hk : k.wf) (hl : M.length ≤ 1000) (hI : Ref (cx B0 old) lim M v Hs) (hQ : ∀ w G, RsL (cx B0 old) (M.filter fun r => decide (keyS r.n = keyS k)) w G → Q w (G ++ (Hs ++ H))) :
    CallT (cx B0 old) (acall (cx B0 old) ansP (n + 5)) 44 [v, .agg ⟨en60 k⟩] (Hs ++ H) Q := by
  cases hI with
  | mk p w G hR hs hv =>
  obtain ⟨L, Gs, Gr, ho, hrd, hmp, rfl⟩ := hR
  obtain ⟨ad0, c0, rfl, hw0⟩ := ho.arrW (C := cx B0 old) enW_len
  have hlm : L.length = M.length := by have := congrArg List.length hmp; rwa [List.length_map] at this
  have hA0 := (hw0 [] []).arr enW_len
  simp only [List.nil_append, List.append_nil] at hA0
  have hmem : ∀ x ∈ L, x.r ∈ M := fun x hx => by rw [← hmp]; exact List.mem_map_of_mem hx
  have hlg : ∀ x ∈ L, x.r.a.light := fun x hx => (hv _ (hmem x hx)).light
  refine call_in2 39 rfl Tryz.func44 rfl rfl ?_
  refine CodeT.perm (H' := (p, .row [.slice ad0 L.length c0, .int .i64 lim] 2 false) :: (Gs ++ (Gr ++ H))) ?_ (List.Perm.of_eq (by simp only [List.append_assoc, List.cons_append]))
  unfold en60
  repeat(refine ZX ?_;try intro _)
  rename_i kb
  refine loop_ind (ι := Nat × List Rw × Value × Hp × Hp) (0, [], .slice none 0 0, [], []) (fun j => L.length - j.1)
    (fun j => j.1 ≤ L.length ∧ j.2.1.length ≤ j.1 ∧ Own enW 38 j.2.1 j.2.2.1 j.2.2.2.1 ∧ (∀ x ∈ j.2.1, Rd (cx B0 old) j.2.2.2.2 x) ∧ j.2.1.map (·.r) = ((L.take j.1).map (·.r)).filter (fun r => decide (keyS r.n = keyS k)))
    (fun j => [(6, .int .i64 (j.1 : Int)), (5, j.2.2.1), (0, .pointer (some ⟨p, 0, none⟩)), (3, .pointer (some ⟨kb, 0, none⟩))])
    (fun j => j.2.2.2.1 ++ (j.2.2.2.2 ++ ((kb, AObj.row (en60 k) 21 false) :: (p, .row [.slice ad0 L.length c0, .int .i64 lim] 2 false) :: (Gs ++ (Gr ++ H))))) ⟨Nat.zero_le _, Nat.zero_le _, .nil, fun x h => (by cases h), rfl⟩ (by repeat (first | exact SubL.nil | refine SubL.cons rfl ?_)) (by exact drop_auto) ?_
  rintro ⟨i, E, vl, G1, G2⟩ ⟨hi, hel, ho1, hrd1, hmp1⟩
  dsimp only at hi hel ho1 hrd1 hmp1 ⊢
  obtain ⟨al1, cl1, rfl, _⟩ := ho1.arrW (C := cx B0 old) enW_len
  repeat(refine ZX ?_;try intro _)
  refine ct_condT te_d rfl (fun hlt => ?_) (fun hlt => ?_)
  rotate_left
  · obtain rfl : i = L.length := by omega
    rw [List.take_length, hmp] at hmp1
    have hQ := hQ _ (G1 ++ G2) ⟨E, G1, G2, ho1, hrd1, hmp1, rfl⟩
    rw [List.append_assoc] at hQ
    repeat(refine ZX ?_;try intro _)
    refine re_1 rfl rfl ?_ hQ
    rw [List.cons_append, List.append_assoc]
    exact drop_auto
  obtain ⟨y, hy⟩ : ∃ y, L[i]? = some y := ⟨_, List.getElem?_eq_getElem (by omega)⟩
  have hym := List.mem_of_getElem? hy
  obtain ⟨b1, o1, cs1, e1, _, _⟩ := hA0.els i y hy
  subst e1
  obtain ⟨hL0, hL1, hL2⟩ := hA0.rt hy rfl (sz rfl) rfl (sz rfl) rfl (sz rfl)
  have hnx : ∀ z : List Rt, z = ((L.take i).map (·.r)).filter (fun r => decide (keyS r.n = keyS k)) ++ [y.r].filter (fun r => decide (keyS r.n = keyS k)) → z = ((L.take (i + 1)).map (·.r)).filter (fun r => decide (keyS r.n = keyS k)) := fun z e => by
    rw [e, List.take_add_one, hy, List.map_append, List.filter_append]; rfl
  have app : ∀ {y9 : Rw} {v9 : Value} {G9 G3 : Hp}, y9.r = y.r → Rd (cx B0 old) G3 y9 → [y.r].filter (fun r => decide (keyS r.n = keyS k)) = [y.r] → Own enW 38 (E ++ [y9]) v9 G9 → (∀ x ∈ E ++ [y9], Rd (cx B0 old) (G3 ++ G2) x) ∧ (E ++ [y9]).map (·.r) = ((L.take (i + 1)).map (·.r)).filter (fun r => decide (keyS r.n = keyS k)) := fun {y9 v9 G9 G3} h1 h2 h3 h4 => ⟨fun z hz => by
      rcases List.mem_append.1 hz with h | h
      · exact (hrd1 z h).weak (List.sublist_append_right _ _)
      · rw [List.mem_singleton.1 h]; exact h2.weak (List.sublist_append_left _ _), hnx _ (by rw [h3, List.map_append, hmp1, List.map_singleton, h1])⟩
  unfold en60
  repeat(refine ZX ?_;try intro _)
  refine ct_draw (masks := [0, 1, 3, 7, 0, 31, 63, 127, 0, 511, 1023]) (plan := [0, 1, 2, 3, 4, 5, 6, 7, 8, 9, 10]) (E := []) (by kernel_rfl) (by kernel_rfl) (by kernel_rfl) (by kernel_rfl) ?_
  have hyo := hv _ (hmem y hym)
  repeat refine YX ?_
  refine pl_S rfl rfl rfl rfl rfl rfl (st_call rfl rfl rfl rfl (compare24_ct (n := n) y.r.n k hyo.wf hk ⟨by exact rec_auto, ?_⟩))
  repeat refine YX ?_
  repeat(refine ZX ?_;try intro _)
  by_cases hz : nlC y.r.n k = 0
  · have hf : [y.r].filter (fun r => decide (keyS r.n = keyS k)) = [y.r] := by rw [List.filter_cons, if_pos (decide_eq_true (nlC_zero.1 hz))]; rfl
    rw [show (nlC y.r.n k == 0) = true from beq_iff_eq.2 hz]
    repeat(refine ZX ?_;try intro _)
    refine rt_step rfl rfl rfl (st_call rfl rfl rfl rfl (CallT.fuel (n := n + 1 + 3) (own22W y (hlg y hym) ((hrd y hym).weak (by exact drop_auto)) fun y9 G3 hy9 hyR => ?_) rfl))
    refine RunT.perm ?_ pk2
    repeat(refine ZX ?_;try intro _)
    refine rt_step rfl rfl rfl (st_appP (M := [y9]) (c := 1) (pre := [_]) ho1 enW_len enW_one rfl rfl (ap rfl) (arrW_one enW_len hm0) (Nat.le_trans (Nat.mul_le_mul_right _ (show 2 * (E.length + [y9].length) + 192 ≤ 6000 by rw [List.length_singleton]; omega)) (by decide)) fun v9 G9 o9 => ?_)
    repeat(refine ZX ?_;try intro _)
    obtain ⟨g1, g2⟩ := app hy9 hyR hf o9
    exact ⟨(i + 1, E ++ [y9], v9, G9, G3 ++ G2), ⟨by dsimp only; omega, by dsimp only; rw [List.length_append, List.length_singleton]; omega, o9, g1, g2⟩, by dsimp only; omega, by repeat (first | exact SubL.nil | refine SubL.cons rfl ?_), by exact drop_auto⟩
  · have hf : [y.r].filter (fun r => decide (keyS r.n = keyS k)) = [] := by rw [List.filter_cons, if_neg (by rw [decide_eq_true_eq]; exact fun h => hz (nlC_zero.2 h))]; rfl
    rw [show (nlC y.r.n k == 0) = false from beq_eq_false_iff_ne.2 hz]
    repeat(refine ZX ?_;try intro _)
    exact ⟨(i + 1, E, _, G1, G2), ⟨by dsimp only; omega, by dsimp only; omega, ho1, hrd1, hnx _ (by rw [hf, List.append_nil]; exact hmp1)⟩, by dsimp only; omega, by repeat (first | exact SubL.nil | refine SubL.cons rfl ?_), by exact drop_auto⟩
theorem from45_ct (peer : Int) (hl : M.length ≤ 1000) (hI : Ref (cx B0 old) lim M v Hs) (hQ : ∀ w G, RsL (cx B0 old) (M.filter fun r => decide (r.peer = peer)) w G → Q w (G ++ (Hs ++ H))) :
    CallT (cx B0 old) (acall (cx B0 old) ansP (n + 5)) 45 [v, .int .u32 peer] (Hs ++ H) Q := by
  cases hI with
  | mk p w G hR hs hv =>
  obtain ⟨L, Gs, Gr, ho, hrd, hmp, rfl⟩ := hR
  obtain ⟨ad0, c0, rfl, hw0⟩ := ho.arrW (C := cx B0 old) enW_len
  have hlm : L.length = M.length := by have := congrArg List.length hmp; rwa [List.length_map] at this
  have hA0 := (hw0 [] []).arr enW_len
  simp only [List.nil_append, List.append_nil] at hA0
  have hmem : ∀ x ∈ L, x.r ∈ M := fun x hx => by rw [← hmp]; exact List.mem_map_of_mem hx
  have hlg : ∀ x ∈ L, x.r.a.light := fun x hx => (hv _ (hmem x hx)).light
  refine call_in2 38 rfl Tryz.func45 rfl rfl ?_
  refine CodeT.perm (H' := (p, .row [.slice ad0 L.length c0, .int .i64 lim] 2 false) :: (Gs ++ (Gr ++ H))) ?_ (List.Perm.of_eq (by simp only [List.append_assoc, List.cons_append]))
  repeat(refine ZX ?_;try intro _)
  refine loop_ind (ι := Nat × List Rw × Value × Hp × Hp) (0, [], .slice none 0 0, [], []) (fun j => L.length - j.1)
    (fun j => j.1 ≤ L.length ∧ j.2.1.length ≤ j.1 ∧ Own enW 38 j.2.1 j.2.2.1 j.2.2.2.1 ∧ (∀ x ∈ j.2.1, Rd (cx B0 old) j.2.2.2.2 x) ∧ j.2.1.map (·.r) = ((L.take j.1).map (·.r)).filter (fun r => decide (r.peer = peer)))
    (fun j => [(6, .int .i64 (j.1 : Int)), (5, j.2.2.1), (0, .pointer (some ⟨p, 0, none⟩)), (1, .int .u32 peer)])
    (fun j => j.2.2.2.1 ++ (j.2.2.2.2 ++ ((p, .row [.slice ad0 L.length c0, .int .i64 lim] 2 false) :: (Gs ++ (Gr ++ H))))) ⟨Nat.zero_le _, Nat.zero_le _, .nil, fun x h => (by cases h), rfl⟩ (by repeat (first | exact SubL.nil | refine SubL.cons rfl ?_)) (by exact drop_auto) ?_
  rintro ⟨i, E, vl, G1, G2⟩ ⟨hi, hel, ho1, hrd1, hmp1⟩
  dsimp only at hi hel ho1 hrd1 hmp1 ⊢
  obtain ⟨al1, cl1, rfl, _⟩ := ho1.arrW (C := cx B0 old) enW_len
  repeat(refine ZX ?_;try intro _)
  refine ct_condT te_d rfl (fun hlt => ?_) (fun hlt => ?_)
  rotate_left
  · obtain rfl : i = L.length := by omega
    rw [List.take_length, hmp] at hmp1
    have hQ := hQ _ (G1 ++ G2) ⟨E, G1, G2, ho1, hrd1, hmp1, rfl⟩
    rw [List.append_assoc] at hQ
    repeat(refine ZX ?_;try intro _)
    refine re_1 rfl rfl ?_ hQ
    rw [List.cons_append, List.append_assoc]
    exact drop_auto
  obtain ⟨y, hy⟩ : ∃ y, L[i]? = some y := ⟨_, List.getElem?_eq_getElem (by omega)⟩
  have hym := List.mem_of_getElem? hy
  obtain ⟨b1, o1, cs1, e1, _, _⟩ := hA0.els i y hy
  subst e1
  obtain ⟨hL0, hL1, hL2⟩ := hA0.rt hy rfl (sz rfl) rfl (sz rfl) rfl (sz rfl)
  have hnx : ∀ z : List Rt, z = ((L.take i).map (·.r)).filter (fun r => decide (r.peer = peer)) ++ [y.r].filter (fun r => decide (r.peer = peer)) → z = ((L.take (i + 1)).map (·.r)).filter (fun r => decide (r.peer = peer)) := fun z e => by
    rw [e, List.take_add_one, hy, List.map_append, List.filter_append]; rfl
  have app : ∀ {y9 : Rw} {v9 : Value} {G9 G3 : Hp}, y9.r = y.r → Rd (cx B0 old) G3 y9 → [y.r].filter (fun r => decide (r.peer = peer)) = [y.r] → Own enW 38 (E ++ [y9]) v9 G9 → (∀ x ∈ E ++ [y9], Rd (cx B0 old) (G3 ++ G2) x) ∧ (E ++ [y9]).map (·.r) = ((L.take (i + 1)).map (·.r)).filter (fun r => decide (r.peer = peer)) := fun {y9 v9 G9 G3} h1 h2 h3 h4 => ⟨fun z hz => by
      rcases List.mem_append.1 hz with h | h
      · exact (hrd1 z h).weak (List.sublist_append_right _ _)
      · rw [List.mem_singleton.1 h]; exact h2.weak (List.sublist_append_left _ _), hnx _ (by rw [h3, List.map_append, hmp1, List.map_singleton, h1])⟩
  repeat(refine ZX ?_;try intro _)
  by_cases hz : y.r.peer = peer
  · have hf : [y.r].filter (fun r => decide (r.peer = peer)) = [y.r] := by rw [List.filter_cons, if_pos (decide_eq_true hz)]; rfl
    rw [show (y.r.peer == peer) = true from beq_iff_eq.2 hz]
    repeat(refine ZX ?_;try intro _)
    refine rt_step rfl rfl rfl (st_call rfl rfl rfl rfl (CallT.fuel (n := n + 1 + 3) (own22W y (hlg y hym) ((hrd y hym).weak (by exact drop_auto)) fun y9 G3 hy9 hyR => ?_) rfl))
    refine RunT.perm ?_ pk2
    repeat(refine ZX ?_;try intro _)
    refine rt_step rfl rfl rfl (st_appP (M := [y9]) (c := 1) (pre := [_]) ho1 enW_len enW_one rfl rfl (ap rfl) (arrW_one enW_len hm0) (Nat.le_trans (Nat.mul_le_mul_right _ (show 2 * (E.length + [y9].length) + 192 ≤ 6000 by rw [List.length_singleton]; omega)) (by decide)) fun v9 G9 o9 => ?_)
    repeat(refine ZX ?_;try intro _)
    obtain ⟨g1, g2⟩ := app hy9 hyR hf o9
    exact ⟨(i + 1, E ++ [y9], v9, G9, G3 ++ G2), ⟨by dsimp only; omega, by dsimp only; rw [List.length_append, List.length_singleton]; omega, o9, g1, g2⟩, by dsimp only; omega, by repeat (first | exact SubL.nil | refine SubL.cons rfl ?_), by exact drop_auto⟩
  · have hf : [y.r].filter (fun r => decide (r.peer = peer)) = [] := by rw [List.filter_cons, if_neg (by rw [decide_eq_true_eq]; exact hz)]; rfl
    rw [show (y.r.peer == peer) = false from beq_eq_false_iff_ne.2 hz]
    repeat(refine ZX ?_;try intro _)
    exact ⟨(i + 1, E, _, G1, G2), ⟨by dsimp only; omega, by dsimp only; omega, ho1, hrd1, hnx _ (by rw [hf, List.append_nil]; exact hmp1)⟩, by dsimp only; omega, by repeat (first | exact SubL.nil | refine SubL.cons rfl ?_), by exact drop_auto⟩
end
end Go.Proofs.YtphadapcafibpaaGreat.Abs

/- The reference's rib: Keys. -/
namespace Go.Proofs.YtphadapcafibpaaGreat.Abs
open Go
set_option linter.unusedVariables false
section
variable {B0 : Nat} {old : Nat → Option (List Value)} {n : Nat} {H : Hp} {Q : Value → Hp → Prop} {lim : Int} {M : List Rt} {v : Value} {Hs : Hp}
set_option maxRecDepth 10000
set_option maxHeartbeats 16000000
theorem keys46_ct (hl : M.length ≤ 1000) (hI : Ref (cx B0 old) lim M v Hs) (hQ : ∀ w G, RsK (cx B0 old) G (keysM M) w → Q w (G ++ (Hs ++ H))) :
    CallT (cx B0 old) (acall (cx B0 old) ansP (n + 5)) 46 [v] (Hs ++ H) Q := by
  cases hI with
  | mk p w G hR hs hv =>
  obtain ⟨L, Gs, Gr, ho, hrd, hmp, rfl⟩ := hR
  obtain ⟨ad0, c0, rfl, hw0⟩ := ho.arrW (C := cx B0 old) enW_len
  have hlm : L.length = M.length := by have := congrArg List.length hmp; rwa [List.length_map] at this
  have hA0 := (hw0 [] []).arr enW_len
  simp only [List.nil_append, List.append_nil] at hA0
  obtain ⟨K, hK⟩ : ∃ K, K = M.map fun r => keyS r.n := ⟨_, rfl⟩
  have hKat : ∀ {i : Nat} {x : Rw}, L[i]? = some x → K[i]? = some (keyS x.r.n) := fun h => by rw [hK, ← hmp, List.map_map, List.getElem?_map, h]; rfl
  have hKl : K.length = L.length := by rw [hK, List.length_map, hlm]
  have hKM : keysM M = dd K := by rw [hK]; rfl
  rw [hKM] at hQ
  have hddl : ∀ i, (dd (K.take i)).length ≤ 1000 := fun i => Nat.le_trans (dd_len _) (by rw [List.length_take]; omega)
  have hky : ∀ (x : S60) {H1 : Hp} {Θ : Value → Hp → Prop}, Θ (.agg ⟨en60 (keyS x)⟩) H1 → CallT (cx B0 old) (acall (cx B0 old) ansP (n + 4)) 28 [.agg ⟨en60 x⟩] H1 Θ := fun x _ _ h => key28_ct x h
  refine call_in1 42 rfl Tryz.func46 rfl rfl ?_
  refine CodeT.perm (H' := (p, .row [.slice ad0 L.length c0, .int .i64 lim] 2 false) :: (Gs ++ (Gr ++ H))) ?_ (List.Perm.of_eq (by simp only [List.append_assoc, List.cons_append]))
  repeat(refine ZX ?_;try intro _)
  refine loop_ind (ι := Nat × Value × Hp) (0, .slice none 0 0, []) (fun j => L.length - j.1) (fun j => j.1 ≤ L.length ∧ Own en60 21 (dd (K.take j.1)) j.2.1 j.2.2)
      (fun j => [(4, .int .i64 (j.1 : Int)), (3, j.2.1), (0, .pointer (some ⟨p, 0, none⟩))]) (fun j => j.2.2 ++ ((p, .row [.slice ad0 L.length c0, .int .i64 lim] 2 false) :: (Gs ++ (Gr ++ H)))) ⟨Nat.zero_le _, .nil⟩ (by repeat (first | exact SubL.nil | refine SubL.cons rfl ?_)) (by exact drop_auto) ?_
  rintro ⟨i, vk, Gk⟩ ⟨hi, hok⟩
  dsimp only at hi hok ⊢
  have hdl := hddl i
  obtain ⟨alk, clk, rfl, hwk⟩ := hok.arrW (C := cx B0 old) en60_len
  repeat(refine ZX ?_;try intro _)
  refine ct_condT te_d rfl (fun hlt => ?_) (fun hlt => ?_)
  rotate_left
  · obtain rfl : i = L.length := by omega
    rw [List.take_of_length_le (by omega)] at hok hwk hdl ⊢
    repeat(refine ZX ?_;try intro _)
    refine re_1 rfl rfl ?_ (hQ _ Gk ⟨_, _, rfl, by simpa using hwk [] []⟩)
    rw [List.cons_append, List.append_assoc]
    exact drop_auto
  obtain ⟨y, hy⟩ : ∃ y, L[i]? = some y := ⟨_, List.getElem?_eq_getElem (by omega)⟩
  have hnext := dd_next (hKat hy)
  obtain ⟨D, hD⟩ : ∃ D, dd (K.take i) = D := ⟨_, rfl⟩
  rw [hD] at hnext hok hdl hwk ⊢
  obtain ⟨b1, o1, cs1, e1, _, _⟩ := hA0.els i y hy
  subst e1
  obtain ⟨hL0, _, _⟩ := hA0.rt hy rfl (sz rfl) rfl (sz rfl) rfl (sz rfl)
  have hwkA : ArrW (cx B0 old) Gk alk 21 en60 D := by simpa using hwk [] []
  repeat(refine ZX ?_;try intro _)
  refine rt_step rfl rfl rfl (st_call rfl rfl rfl rfl (hky y.r.n ?_))
  repeat(refine ZX ?_;try intro _)
  rename_i b14
  refine ct_draw (masks := [0, 1, 3, 7, 15, 15, 47, 111, 255, 511, 15, 2047, 4095]) (plan := [0, 1, 2, 3, 4, 5, 6, 7, 8, 9, 10, 11, 12]) (E := []) (by kernel_rfl) (by kernel_rfl) (by kernel_rfl) (by kernel_rfl) ?_
  refine pl_midE (ι := Bool) (fun b => b = decide (D.getLast? ≠ some (keyS y.r.n))) (fun b => [(36, .bool b), (5, .pointer (some ⟨b14, 0, none⟩)), (4, .int .i64 (i : Int)), (3, .slice alk D.length clk), (0, .pointer (some ⟨p, 0, none⟩))])
    (fun _ => (b14, AObj.row (en60 (keyS y.r.n)) 21 false) :: (Gk ++ ((p, .row [.slice (some ⟨b1, o1, none⟩) L.length c0, .int .i64 lim] 2 false) :: (Gs ++ (Gr ++ H))))) ?_ ?_
  · repeat refine YX ?_
    by_cases hDe : D.length = 0
    · rw [show ((D.length : Int) == 0) = true by rw [hDe]; rfl]
      repeat refine YX ?_
      refine ⟨true, ?_, by repeat (first | exact SubL.nil | refine SubL.cons rfl ?_), by exact drop_auto⟩
      rw [List.eq_nil_of_length_eq_zero hDe]
      simp
    rw [show ((D.length : Int) == 0) = false by rw [beq_eq_false_iff_ne]; omega]
    obtain ⟨z, hz⟩ : ∃ z, D[D.length - 1]? = some z := ⟨_, List.getElem?_eq_getElem (by omega)⟩
    obtain ⟨bk, ok, csk, ek, hrowk, hcutk⟩ := (hwkA.arr en60_len).els _ _ hz
    subst ek
    have hL3 : ∀ H', Gk.Sublist H' → ∀ {off : Nat} (h : off = ok + (D.length - 1) * 21 := by omega), LdT (cx B0 old) 43 H' bk off (.agg ⟨en60 z⟩) := fun H' hs off h => by rw [h]; exact ldP (hrowk.weak hs) rfl (sz rfl) hcutk
    have hlast : D.getLast? = some z := by rw [List.getLast?_eq_getElem?]; exact hz
    repeat refine YX ?_
    by_cases hzk : z = keyS y.r.n
    · have hs := leaf60 z
      rw [← hzk]
      repeat refine YX ?_
      rw [hs]
      repeat refine YX ?_
      refine ⟨false, ?_, by repeat (first | exact SubL.nil | refine SubL.cons rfl ?_), by exact drop_auto⟩
      rw [hlast]; simp
    · have hs := leaf60_ne hzk
      repeat refine YX ?_
      rw [hs]
      repeat refine YX ?_
      refine ⟨true, ?_, by repeat (first | exact SubL.nil | refine SubL.cons rfl ?_), by exact drop_auto⟩
      rw [hlast]
      simp [hzk]
  rintro b hb
  cases b
  · rw [if_pos (by simpa using hb.symm)] at hnext
    repeat(refine ZX ?_;try intro _)
    exact ⟨(i + 1, _, Gk), ⟨by dsimp only; omega, by dsimp only; rw [hnext]; exact hok⟩, by dsimp only; omega, by repeat (first | exact SubL.nil | refine SubL.cons rfl ?_), by exact drop_auto⟩
  · rw [if_neg (by simpa using hb.symm)] at hnext
    repeat(refine ZX ?_;try intro _)
    refine rt_step rfl rfl rfl (st_appP (M := [keyS y.r.n]) (c := 1) (pre := [_, _]) hok en60_len en60_one rfl rfl (ap rfl) (arrW_one en60_len hm0) (Nat.le_trans (Nat.mul_le_mul_right _ (show 2 * (D.length + [keyS y.r.n].length) + 192 ≤ 6000 by rw [List.length_singleton]; omega)) (by decide)) fun v9 G9 o9 => ?_)
    repeat(refine ZX ?_;try intro _)
    exact ⟨(i + 1, v9, G9), ⟨by dsimp only; omega, by dsimp only; rw [hnext]; exact o9⟩, by dsimp only; omega, by repeat (first | exact SubL.nil | refine SubL.cons rfl ?_), by exact drop_auto⟩
end
end Go.Proofs.YtphadapcafibpaaGreat.Abs

/- RibScript: does, same. -/
namespace Go.Proofs.YtphadapcafibpaaGreat.Abs
open Go
set_option linter.unusedVariables false
theorem pn1 {Hs Hr G Z : Hp} : (Hs ++ (Hr ++ (G ++ Z))).Perm (G ++ (Hs ++ (Hr ++ Z))) :=
  ((List.perm_append_comm_assoc G Hs (Hr ++ Z)).trans (List.Perm.append_left Hs (List.perm_append_comm_assoc G Hr Z))).symm
theorem pn2 {Hs Hr G Z : Hp} : (Hs ++ (Hr ++ (G ++ Z))).Perm (G ++ (Hr ++ (Hs ++ Z))) :=
  (List.perm_append_comm_assoc Hr Hs (G ++ Z)).symm.trans pn1
section
variable {B0 : Nat} {old : Nat → Option (List Value)} {n : Nat} {H : Hp} {Q : Value → Hp → Prop} {lim : Int} {M : List Rt} {v u : Value} {Hs Hr : Hp}
set_option maxRecDepth 10000
set_option maxHeartbeats 64000000
theorem does12_ct (k : Int) (w : Rw) (ha : okAc (cx B0 old) H ⟨k, w⟩) (hl : M.length ≤ 1000) (hI : Ref (cx B0 old) lim M v Hs)
    (hQ : ∀ Hs', Ref (cx B0 old) lim (doM lim (pkF k 8) w.r M).1 v Hs' → Q (.tuple #[.int .i64 (doM lim (pkF k 8) w.r M).2.1, .int .i64 (doM lim (pkF k 8) w.r M).2.2]) (Hs' ++ H)) :
    CallT (cx B0 old) (acall (cx B0 old) ansP (n + 7)) 12 [v, .agg ⟨.int .i64 k :: enW w⟩] (Hs ++ H) Q := by
  have hr := pkF_range (x := k) (m := 8) (by decide)
  have hpk : ∀ {H1 : Hp} {Θ : Value → Hp → Prop}, Θ (.int .i64 (pkF k 8)) H1 → CallT (cx B0 old) (acall (cx B0 old) ansP (n + 6)) 26 [.int .i64 k, .int .i64 8] H1 Θ := fun h => pick26_ct k 8 (by decide) (by decide) h
  generalize pkF k 8 = q at *
  obtain ⟨p0, hp0⟩ : ∃ a, v = .pointer (some a) := by cases hI; exact ⟨_, rfl⟩
  subst hp0
  obtain ⟨hwf, hpe, hrd⟩ := ha
  dsimp only at hwf hpe hrd
  have hdrop : ∀ {b : Nat × AObj} {Θ : Value → Hp → Prop}, (getR M (plc w.r) = none → Θ (.int .i64 8) (Hs ++ (b :: H))) → (∀ r, getR M (plc w.r) = some r → ∀ Hs', Ref (cx B0 old) lim (dropR M (plc w.r)) (.pointer (some p0)) Hs' → Θ (.int .i64 0) (Hs' ++ (b :: H))) →
      CallT (cx B0 old) (acall (cx B0 old) ansP (n + 6)) 38 [.pointer (some p0), .agg ⟨en60 w.r.n⟩, .int .u32 w.r.peer] (b :: (Hs ++ H)) Θ := fun h1 h2 => CallT.perm (drop38_ct w.r.n hwf w.r.peer hpe hl hI h1 h2) List.perm_middle
  refine call_in2 55 rfl Tryz.func12 rfl rfl ?_
  have h8 : q = 0 ∨ q = 1 ∨ q = 2 ∨ q = 3 ∨ q = 4 ∨ q = 5 ∨ q = 6 ∨ q = 7 := by omega
  have put : ∀ (b : Nat × AObj) (Θ : Value → Hp → Prop), (∀ Hs', Ref (cx B0 old) lim (putM lim w.r M).1 (.pointer (some p0)) Hs' → Θ (.tuple #[.bool (putM lim w.r M).2.1, .int .i64 (putM lim w.r M).2.2]) (Hs' ++ (b :: H))) →
      CallT (cx B0 old) (acall (cx B0 old) ansP (n + 6)) 37 [.pointer (some p0), .agg ⟨enW w⟩] (b :: (Hs ++ H)) Θ := fun b Θ h => CallT.perm (put37_ct w hwf hpe (hrd.weak (by exact drop_auto)) hl hI h) List.perm_middle
  unfold enW enR
  rcases h8 with rfl | rfl | rfl | rfl | rfl | rfl | rfl | rfl
  iterate 4
    · repeat(refine ZX ?_;try intro _)
      rename_i bx
      refine rt_step rfl rfl rfl (st_call rfl rfl rfl rfl (hpk ?_))
      repeat(refine ZX ?_;try intro _)
      refine rt_step rfl rfl rfl (st_call rfl rfl rfl rfl (put _ _ fun Hs' hI' => ?_))
      have hQ := hQ Hs'
      unfold doM at hQ
      simp only [show (0 : Int) < 4 by decide, show (1 : Int) < 4 by decide, show (2 : Int) < 4 by decide, show (3 : Int) < 4 by decide, if_true] at hQ
      have hQ := hQ hI'
      repeat(refine ZX ?_;try intro _)
      first | (refine isRun ?_; refine z1 (fun hc => ?_) (fun hc => ?_)) | refine z2 (fun hc => ?_) (fun hc => ?_) | (refine isPlan ?_; refine z3 (fun hc => ?_) (fun hc => ?_))
      · rw [hc, if_pos rfl] at hQ
        repeat(refine ZX ?_;try intro _)
        exact re_2 rfl rfl rfl (by exact drop_auto) hQ
      · rw [hc, if_neg (by decide)] at hQ
        repeat(refine ZX ?_;try intro _)
        exact re_2 rfl rfl rfl (by exact drop_auto) hQ
  · unfold doM at hQ
    simp only [show ¬ (4 : Int) < 4 by decide, if_false, if_true] at hQ
    repeat(refine ZX ?_;try intro _)
    refine rt_step rfl rfl rfl (st_call rfl rfl rfl rfl (hpk ?_))
    repeat(refine ZX ?_;try intro _)
    refine rt_step rfl rfl rfl (st_call rfl rfl rfl rfl (hdrop (fun hn => ?_) (fun r hr' Hs' hI' => ?_)))
    · rw [if_pos hn] at hQ
      repeat(refine ZX ?_;try intro _)
      exact re_2 rfl rfl rfl (by exact drop_auto) (hQ _ hI)
    · rw [if_neg (by rw [hr']; simp)] at hQ
      repeat(refine ZX ?_;try intro _)
      exact re_2 rfl rfl rfl (by exact drop_auto) (hQ _ hI')
  · unfold doM at hQ
    simp only [show ¬ (5 : Int) < 4 by decide, show ¬ (5 : Int) = 4 by decide, if_false, if_true] at hQ
    repeat(refine ZX ?_;try intro _)
    refine rt_step rfl rfl rfl (st_call rfl rfl rfl rfl (hpk ?_))
    repeat(refine ZX ?_;try intro _)
    refine rt_step rfl rfl rfl (st_call rfl rfl rfl rfl (CallT.perm (CallT.fuel (n := n + 4 + 2) (dropPeer39_ct w.r.peer hl hI fun Hs' hI' => ?_) rfl) List.perm_middle))
    repeat(refine ZX ?_;try intro _)
    exact re_2 rfl rfl rfl (by exact drop_auto) (hQ _ hI')
  · unfold doM at hQ
    simp only [show ¬ (6 : Int) < 4 by decide, show ¬ (6 : Int) = 4 by decide, show ¬ (6 : Int) = 5 by decide, if_false, if_true] at hQ
    repeat(refine ZX ?_;try intro _)
    refine rt_step rfl rfl rfl (st_call rfl rfl rfl rfl (hpk ?_))
    repeat(refine ZX ?_;try intro _)
    refine rt_step rfl rfl rfl (st_call rfl rfl rfl rfl (CallT.perm (CallT.fuel (n := n + 5 + 1) (stale40_ct w.r.peer hl hI fun Hs' hI' => ?_) rfl) List.perm_middle))
    repeat(refine ZX ?_;try intro _)
    exact re_2 rfl rfl rfl (by exact drop_auto) (hQ _ hI')
  · unfold doM at hQ
    simp only [show ¬ (7 : Int) < 4 by decide, show ¬ (7 : Int) = 4 by decide, show ¬ (7 : Int) = 5 by decide, show ¬ (7 : Int) = 6 by decide, if_false] at hQ
    repeat(refine ZX ?_;try intro _)
    refine rt_step rfl rfl rfl (st_call rfl rfl rfl rfl (hpk ?_))
    repeat(refine ZX ?_;try intro _)
    refine rt_step rfl rfl rfl (st_call rfl rfl rfl rfl (CallT.perm (CallT.fuel (n := n + 4 + 2) (sweep41_ct w.r.peer hl hI fun Hs' hI' => ?_) rfl) List.perm_middle))
    repeat(refine ZX ?_;try intro _)
    exact re_2 rfl rfl rfl (by exact drop_auto) (hQ _ hI')
end
end Go.Proofs.YtphadapcafibpaaGreat.Abs

/- RibScript: same. -/
namespace Go.Proofs.YtphadapcafibpaaGreat.Abs
open Go
set_option linter.unusedVariables false
theorem pn3 {Hs Hr G1 H : Hp} {b7 b5 : Nat × AObj} : (Hs ++ (Hr ++ (b7 :: (G1 ++ (b5 :: H))))).Perm (b7 :: (G1 ++ (Hs ++ (b5 :: (Hr ++ H))))) := by
  have h1 : (b7 :: (G1 ++ (Hs ++ (b5 :: (Hr ++ H))))).Perm (b7 :: (G1 ++ (Hs ++ (Hr ++ (b5 :: H))))) := .cons _ (List.Perm.append_left G1 (List.Perm.append_left Hs (List.perm_append_comm_assoc [b5] Hr H)))
  have h2 : (b7 :: (G1 ++ (Hs ++ (Hr ++ (b5 :: H))))).Perm (b7 :: (Hs ++ (Hr ++ (G1 ++ (b5 :: H))))) := .cons _ pn1.symm
  have h3 : (b7 :: (Hs ++ (Hr ++ (G1 ++ (b5 :: H))))).Perm (Hs ++ (Hr ++ (b7 :: (G1 ++ (b5 :: H))))) := (pn1 (G := [b7])).symm
  exact ((h1.trans h2).trans h3).symm
section
variable {B0 : Nat} {old : Nat → Option (List Value)} {n : Nat} {H : Hp} {Q : Value → Hp → Prop} {lim : Int} {M : List Rt} {v u : Value} {Hs Hr : Hp}
set_option maxRecDepth 10000
set_option maxHeartbeats 64000000
theorem same13_ct (w : Rw) (hwf : w.r.n.wf) (hpe : 0 ≤ w.r.peer ∧ w.r.peer ≤ 4294967295) (hl : M.length ≤ 1000) (hv : ∀ x ∈ M, okR x) (hI : Rib (cx B0 old) lim M v Hs) (hJ : Ref (cx B0 old) lim M u Hr) (hQ : Q (.bool true) (Hs ++ (Hr ++ H))) :
    CallT (cx B0 old) (acall (cx B0 old) ansP (n + 20021)) 13 [v, u, .agg ⟨enW w⟩] (Hs ++ (Hr ++ H)) Q := by
  obtain ⟨p0, hp0⟩ : ∃ a, v = .pointer (some a) := by cases hI; exact ⟨_, rfl⟩
  subst hp0
  obtain ⟨p1, hp1⟩ : ∃ a, u = .pointer (some a) := by cases hJ; exact ⟨_, rfl⟩
  subst hp1
  have hlt : ∀ {f : Rt → Bool}, ∀ r ∈ M.filter f, r.a.light := fun r hr => (hv r (List.mem_filter.1 hr).1).light
  have hll : ∀ {f : Rt → Bool}, (M.filter f).length ≤ 1000 := Nat.le_trans (List.length_filter_le _ _) hl
  have hgl : ((getR M ⟨keyS w.r.n, w.r.peer⟩).getD zRt).a.light := by
    cases h : getR M ⟨keyS w.r.n, w.r.peer⟩ with
    | none => unfold RtA.light; exact ⟨Nat.zero_le _, Nat.zero_le _, Nat.zero_le _⟩
    | some r => exact (hv r (List.mem_of_find?_eq_some h)).light
  refine call_in3 80 rfl Tryz.func13 rfl rfl ?_
  refine CodeT.perm (H' := Hs ++ (Hr ++ H)) ?_ (List.Perm.refl _)
  unfold enW enR
  repeat(refine ZX ?_;try intro _)
  rename_i b5
  refine rt_step rfl rfl rfl (st_call rfl rfl rfl rfl (CallT.perm (CallT.fuel (n := n + 20017 + 3) (get29_ct w.r.n w.r.peer (H := (b5, _) :: (Hr ++ H)) hI fun ya G1 hy1 hR1 => ?_) rfl) List.perm_middle))
  generalize hsm : (getR M ⟨keyS w.r.n, w.r.peer⟩).isSome = sm
  have hy1l := hgl
  rw [← hy1] at hy1l
  unfold enW enR
  repeat(refine ZX ?_;try intro _)
  rename_i b7
  refine RunT.perm ?_ pn3
  refine rt_step rfl rfl rfl (st_call rfl rfl rfl rfl (CallT.perm (CallT.fuel (n := n + 20014 + 6) (get42_ct w.r.n hwf w.r.peer hpe hl hJ fun yb G2 hy2 hR2 => ?_) rfl) (List.perm_append_comm_assoc Hr Hs _)))
  rw [hsm]
  refine RunT.perm ?_ pn2
  unfold enW enR
  repeat(refine ZX ?_;try intro _)
  rename_i b9
  refine CodeT.perm ?_ (pn1 (G := [_]))
  refine ct_draw (masks := 0 :: 1 :: 0 :: 7 :: 15 :: 31 :: 63 :: 63 :: 255 :: 511 :: 1023 :: 2047 :: 2047 :: 8191 :: 16383 :: 32767 :: 65535 :: 131071 :: 65535 :: 524287 :: 1048575 :: 2097151 :: 4194303 :: 8388607 :: 8388607 :: 25165823 :: 67108863 :: 8388607 :: 8388607 :: 276824063 :: 1073741823 :: 2147483647 :: 4294967295 :: 8589934591 :: 17179869183 :: 17179869183 :: 51539607551 :: 137438953471 :: 17179869183 :: 17179869183 :: 566935683071 :: 2199023255551 :: 4398046511103 :: 8796093022207 :: 17592186044415 :: 35184372088831 :: 70368744177663 :: 35184372088831 :: 281474976710655 :: 562949953421311 :: 1125899906842623 :: 2251799813685247 :: []) (plan := 0 :: 2 :: 1 :: 3 :: 4 :: 5 :: 6 :: 7 :: 8 :: 9 :: 10 :: 11 :: 12 :: 13 :: 14 :: 15 :: 16 :: 18 :: 17 :: 19 :: 20 :: 21 :: 22 :: 23 :: 24 :: 25 :: 27 :: 28 :: 29 :: 26 :: 30 :: 31 :: 32 :: 33 :: 34 :: 35 :: 36 :: 38 :: 39 :: 40 :: 37 :: 41 :: 42 :: 43 :: 44 :: 45 :: 47 :: 46 :: 48 :: 49 :: 50 :: 51 :: []) (E := []) (by kernel_rfl) (by kernel_rfl) (by kernel_rfl) (by kernel_rfl) ?_
  repeat refine YX ?_
  refine pl_S rfl rfl rfl rfl rfl rfl (st_call rfl rfl rfl rfl (CallT.fuel (n := n + 20018 + 2) (many19_ct hI ⟨by exact rec_auto, ?_⟩) rfl))
  repeat refine YX ?_
  refine pl_S rfl rfl rfl rfl rfl rfl (st_call rfl rfl rfl rfl (CallT.perm (CallT.fuel (n := n + 20019 + 1) (many43_ct hJ ⟨by exact rec_auto, ?_⟩) rfl) (List.perm_append_comm_assoc Hr Hs _)))
  refine PlanT.perm ?_ (List.perm_append_comm_assoc Hr Hs _).symm
  repeat refine YX ?_
  rw [show ((M.length : Int) == (M.length : Int)) = true from beq_self_eq_true _]
  repeat refine YX ?_
  rw [show (sm == sm) = true from beq_self_eq_true _]
  repeat refine YX ?_
  refine pl_S rfl rfl rfl rfl rfl rfl (st_call rfl rfl rfl rfl (CallT.fuel (n := n + 20017 + 3) (same30_ct ya yb (by unfold RtA.light at hy1l; omega) (hR1.weak (by exact drop_auto)) (hR2.weak (by exact drop_auto)) fun t1 ht1 => ⟨by exact rec_auto, ?_⟩) rfl))
  obtain rfl : t1 = true := ht1.2 (hy1.trans hy2.symm)
  repeat refine YX ?_
  refine pl_S rfl rfl rfl rfl rfl rfl (st_call rfl rfl rfl rfl (CallT.fuel (n := n + 0 + 20020) (all16_ct hI (show M.length ≤ 20000 by omega) fun w3 G3 hG3 => ⟨by exact rec_auto, ?_⟩) rfl))
  refine PlanT.perm ?_ pn1
  have hA3 := hG3.toA
  repeat refine YX ?_
  refine pl_S rfl rfl rfl rfl rfl rfl (st_call rfl rfl rfl rfl (CallT.perm (CallT.fuel (n := n + 20015 + 5) (all17_ct hl hJ fun w4 G4 hG4 => ⟨by exact rec_auto, ?_⟩) rfl) (List.perm_append_comm_assoc Hr Hs _)))
  refine PlanT.perm ?_ pn2
  have hA4 := hG4.toA
  repeat refine YX ?_
  refine pl_S rfl rfl rfl rfl rfl rfl (st_call rfl rfl rfl rfl (CallT.fuel (n := n + 20016 + 4) (sames14_ct (hA3.weak (by exact drop_auto)) (hA4.weak (by exact drop_auto)) (by omega) (fun r hr => (hv r hr).light) fun t2 ht2 => ⟨by exact rec_auto, ?_⟩) rfl))
  obtain rfl : t2 = true := ht2.2 rfl
  repeat refine YX ?_
  refine pl_S rfl rfl rfl rfl rfl rfl (st_call rfl rfl rfl rfl (CallT.fuel (n := n + 0 + 20020) (routes33_ct w.r.n hI (show M.length ≤ 20000 by omega) fun w5 G5 hG5 => ⟨by exact rec_auto, ?_⟩) rfl))
  refine PlanT.perm ?_ pn1
  have hA5 := hG5.toA
  repeat refine YX ?_
  refine pl_S rfl rfl rfl rfl rfl rfl (st_call rfl rfl rfl rfl (CallT.perm (CallT.fuel (n := n + 20015 + 5) (routes44_ct w.r.n hwf hl hJ fun w6 G6 hG6 => ⟨by exact rec_auto, ?_⟩) rfl) (List.perm_append_comm_assoc Hr Hs _)))
  refine PlanT.perm ?_ pn2
  have hA6 := hG6.toA
  repeat refine YX ?_
  refine pl_S rfl rfl rfl rfl rfl rfl (st_call rfl rfl rfl rfl (CallT.fuel (n := n + 20016 + 4) (sames14_ct (hA5.weak (by exact drop_auto)) (hA6.weak (by exact drop_auto)) (Nat.le_trans hll (by decide)) hlt fun t3 ht3 => ⟨by exact rec_auto, ?_⟩) rfl))
  obtain rfl : t3 = true := ht3.2 rfl
  repeat refine YX ?_
  refine pl_S rfl rfl rfl rfl rfl rfl (st_call rfl rfl rfl rfl (CallT.fuel (n := n + 0 + 20020) (from20_ct w.r.peer hI (show M.length ≤ 20000 by omega) fun w7 G7 hG7 => ⟨by exact rec_auto, ?_⟩) rfl))
  refine PlanT.perm ?_ pn1
  have hA7 := hG7.toA
  repeat refine YX ?_
  refine pl_S rfl rfl rfl rfl rfl rfl (st_call rfl rfl rfl rfl (CallT.perm (CallT.fuel (n := n + 20015 + 5) (from45_ct w.r.peer hl hJ fun w8 G8 hG8 => ⟨by exact rec_auto, ?_⟩) rfl) (List.perm_append_comm_assoc Hr Hs _)))
  refine PlanT.perm ?_ pn2
  have hA8 := hG8.toA
  repeat refine YX ?_
  refine pl_S rfl rfl rfl rfl rfl rfl (st_call rfl rfl rfl rfl (CallT.fuel (n := n + 20016 + 4) (sames14_ct (hA7.weak (by exact drop_auto)) (hA8.weak (by exact drop_auto)) (Nat.le_trans hll (by decide)) hlt fun t4 ht4 => ⟨by exact rec_auto, ?_⟩) rfl))
  obtain rfl : t4 = true := ht4.2 rfl
  repeat refine YX ?_
  refine pl_S rfl rfl rfl rfl rfl rfl (st_call rfl rfl rfl rfl (CallT.fuel (n := n + 19000 + 1020) (keys32_ct hI hl fun w9 G9 hG9 => ⟨by exact rec_auto, ?_⟩) rfl))
  refine PlanT.perm ?_ pn1
  skip
  repeat refine YX ?_
  refine pl_S rfl rfl rfl rfl rfl rfl (st_call rfl rfl rfl rfl (CallT.perm (CallT.fuel (n := n + 20015 + 5) (keys46_ct hl hJ fun w10 G10 hG10 => ⟨by exact rec_auto, ?_⟩) rfl) (List.perm_append_comm_assoc Hr Hs _)))
  refine PlanT.perm ?_ pn2
  skip
  repeat refine YX ?_
  refine pl_S rfl rfl rfl rfl rfl rfl (st_call rfl rfl rfl rfl (CallT.fuel (n := n + 20019 + 1) (same31_ct (hG9.weak (by exact drop_auto)) (hG10.weak (by exact drop_auto)) (Nat.le_trans (dd_len _) (by rw [List.length_map]; omega)) fun t5 ht5 => ⟨by exact rec_auto, ?_⟩) rfl))
  obtain rfl : t5 = true := ht5.2 rfl
  repeat refine YX ?_
  repeat(refine ZX ?_;try intro _)
  exact re_1 rfl rfl (by exact drop_auto) hQ
end
end Go.Proofs.YtphadapcafibpaaGreat.Abs

/- The walk of RibScript. -/
namespace Go.Proofs.YtphadapcafibpaaGreat.Abs
open Go
set_option linter.unusedVariables false
theorem pn4 {Hs Hr Z : Hp} : (Hs ++ (Hr ++ Z)).Perm (Hr ++ (Hs ++ Z)) := List.perm_append_comm_assoc Hs Hr Z
theorem pn5 {G A Hs Hr : Hp} : (Hr ++ (G ++ (A ++ (Hs ++ [])))).Perm (G ++ (A ++ (Hs ++ (Hr ++ [])))) :=
  (List.perm_append_comm_assoc Hr G _).trans (List.Perm.append_left G ((List.perm_append_comm_assoc Hr A _).trans (List.Perm.append_left A (List.perm_append_comm_assoc Hr Hs _))))
section
variable {B0 : Nat} {old : Nat → Option (List Value)} {n : Nat} {Q : Value → Hp → Prop} {c : Nat} {ad : Option Addr} {L : List Ac}
set_option maxRecDepth 10000
set_option maxHeartbeats 64000000
theorem script3_ct (lim : Int) (hlw : -9223372036854775808 ≤ lim ∧ lim ≤ 9223372036854775807) (ha : Arr (cx B0 old) [] ad 39 enAc L) (hL : ∀ x ∈ L, okAc (cx B0 old) [] x) (hl : L.length ≤ 9223372036854775807) (hQ : Q (.bool true) []) :
    CallT (cx B0 old) (acall (cx B0 old) ansP (n + 20030)) 3 [.int .i64 lim, .slice ad L.length c] [] Q := by
  refine call_in2 96 rfl Tryz.func3 rfl rfl ?_
  repeat(refine ZX ?_;try intro _)
  refine rt_step rfl rfl rfl (st_call rfl rfl rfl rfl (call_ext rfl ?_))
  repeat(refine ZX ?_;try intro _)
  refine rt_step rfl rfl rfl (st_call rfl rfl rfl rfl (light8_ct (ha.weak (List.nil_sublist _)) hl fun t ht => ?_))
  cases t with
  | false =>
    repeat(refine ZX ?_;try intro _)
    exact re_1 rfl rfl (List.nil_sublist _) hQ
  | true =>
  obtain ⟨hltL, hL60⟩ := ht.1 rfl
  by_cases hlim : 1 ≤ lim ∧ lim ≤ 65536
  rotate_left
  · repeat(refine ZX ?_;try intro _)
    refine rt_step rfl rfl rfl (st_call rfl rfl rfl rfl (new9_ct (fun _ => ?_) (fun h => absurd h hlim)))
    repeat(refine ZX ?_;try intro _)
    refine rt_step rfl rfl rfl (st_call rfl rfl rfl rfl (new10_ct (fun _ => ?_) (fun h => absurd h hlim)))
    repeat(refine ZX ?_;try intro _)
    refine loop_ind (ι := Nat) 0 (fun _ => 0) (fun i => i = 0) (fun i => [(9, .int .i64 (i : Int)), (7, .pointer none), (5, .pointer none), (1, .slice ad L.length c)]) (fun _ => []) rfl (by repeat (first | exact SubL.nil | refine SubL.cons rfl ?_)) (by exact drop_auto) ?_
    rintro i rfl
    repeat(refine ZX ?_;try intro _)
    by_cases h0 : L.length = 0
    · rw [show decide (((0 : Nat) : Int) < (L.length : Int)) = false from decide_eq_false (by omega)]
      repeat(refine ZX ?_;try intro _)
      exact re_1 rfl rfl (List.nil_sublist _) hQ
    · rw [show decide (((0 : Nat) : Int) < (L.length : Int)) = true from decide_eq_true (by omega)]
      repeat(refine ZX ?_;try intro _)
      exact re_1 rfl rfl (List.nil_sublist _) hQ
  repeat(refine ZX ?_;try intro _)
  refine rt_step rfl rfl rfl (st_call rfl rfl rfl rfl (new9_ct (fun h => absurd hlim h) fun _ v Hs0 hI0 => ?_))
  obtain ⟨p0, hp0⟩ : ∃ a, v = .pointer (some a) := by cases hI0; exact ⟨_, rfl⟩
  subst hp0
  repeat(refine ZX ?_;try intro _)
  refine rt_step rfl rfl rfl (st_call rfl rfl rfl rfl (new10_ct (fun h => absurd hlim h) fun _ u Hr0 hJ0 => ?_))
  obtain ⟨p1, hp1⟩ : ∃ a, u = .pointer (some a) := by cases hJ0; exact ⟨_, rfl⟩
  subst hp1
  refine RunT.perm (H' := Hs0 ++ (Hr0 ++ [])) ?_ pn4
  repeat(refine ZX ?_;try intro _)
  refine ct_midB (ι := List Rt × Hp × Hp) (fun j => Rib (cx B0 old) lim j.1 (.pointer (some p0)) j.2.1 ∧ Ref (cx B0 old) lim j.1 (.pointer (some p1)) j.2.2 ∧ j.1.length ≤ 60) (fun j => [(7, .pointer (some p1)), (5, .pointer (some p0))]) (fun j => j.2.1 ++ (j.2.2 ++ [])) ?_ ?_
  · refine loop_ind (ι := Nat × List Rt × Hp × Hp) (0, [], Hs0, Hr0) (fun j => L.length - j.1) (fun j => j.1 ≤ L.length ∧ Rib (cx B0 old) lim j.2.1 (.pointer (some p0)) j.2.2.1 ∧ Ref (cx B0 old) lim j.2.1 (.pointer (some p1)) j.2.2.2 ∧ j.2.1.length ≤ j.1)
      (fun j => [(9, .int .i64 (j.1 : Int)), (7, .pointer (some p1)), (5, .pointer (some p0)), (1, .slice ad L.length c)]) (fun j => j.2.2.1 ++ (j.2.2.2 ++ [])) ⟨Nat.zero_le _, hI0, hJ0, Nat.le_refl _⟩ (by repeat (first | exact SubL.nil | refine SubL.cons rfl ?_)) (by exact drop_auto) ?_
    rintro ⟨i, M, Hs, Hr⟩ ⟨hi, hI, hJ, hml⟩
    dsimp only at hi hI hJ hml ⊢
    repeat(refine ZX ?_;try intro _)
    by_cases hlt : i < L.length
    rotate_left
    · rw [show decide ((i : Int) < (L.length : Int)) = false from decide_eq_false (by omega)]
      repeat(refine ZX ?_;try intro _)
      exact ⟨(M, Hs, Hr), ⟨hI, hJ, by dsimp only; omega⟩, by repeat (first | exact SubL.nil | refine SubL.cons rfl ?_), by exact drop_auto⟩
    rw [show decide ((i : Int) < (L.length : Int)) = true from decide_eq_true (by omega)]
    obtain ⟨x, hx⟩ : ∃ x, L[i]? = some x := ⟨_, List.getElem?_eq_getElem hlt⟩
    have hxm := List.mem_of_getElem? hx
    obtain ⟨hwf, hpe, _⟩ := hL x hxm
    obtain ⟨b1, o1, cs1, e1, hrow, hcut⟩ := ha.els i x hx
    subst e1
    have hL0 : ∀ H', ([] : Hp).Sublist H' → ∀ {off : Nat} (h : off = o1 + i * 39 := by omega), LdT (cx B0 old) 54 H' b1 off (.agg ⟨enAc x⟩) := fun H' hs off h => by rw [h]; exact ldP (hrow.weak hs) rfl (sz rfl) hcut
    have hL1 : ∀ H', ([] : Hp).Sublist H' → ∀ {off : Nat} (h : off = o1 + i * 39 + 1 := by omega), LdT (cx B0 old) 52 H' b1 off (.agg ⟨enW x.w⟩) := fun H' hs off h => by rw [h]; exact ldP (hrow.weak hs) rfl (sz rfl) (cut_part (f := 1) hcut (q := enW x.w) (m := 38) rfl (by decide))
    have hlen := doM_len lim (pkF x.k 8) x.w.r M
    repeat(refine ZX ?_;try intro _)
    refine rt_step rfl rfl rfl (st_call rfl rfl rfl rfl (CallT.fuel (n := n + 20023 + 6) (do11_ct x.k x.w ((hL x hxm).weak (List.nil_sublist _)) (hltL x hxm) hI fun Hs' hI' => ?_) rfl))
    repeat(refine ZX ?_;try intro _)
    refine rt_step rfl rfl rfl (st_call rfl rfl rfl rfl (CallT.perm (CallT.fuel (n := n + 20022 + 7) (does12_ct x.k x.w ((hL x hxm).weak (List.nil_sublist _)) (by omega) hJ fun Hr' hJ' => ?_) rfl) (List.perm_append_comm_assoc Hr Hs' _)))
    refine RunT.perm ?_ (pn4 (Hs := Hs'))
    generalize doM lim (pkF x.k 8) x.w.r M = d at *
    repeat(refine ZX ?_;try intro _)
    rw [show (d.2.1 != d.2.1) = false from bne_self_eq_false _]
    repeat(refine ZX ?_;try intro _)
    rw [show (d.2.2 != d.2.2) = false from bne_self_eq_false _]
    repeat(refine ZX ?_;try intro _)
    refine rt_step rfl rfl rfl (st_call rfl rfl rfl rfl (CallT.fuel (n := n + 8 + 20021) (same13_ct x.w hwf hpe (by omega) hI'.ok2.2 hI' hJ' ?_) rfl))
    repeat(refine ZX ?_;try intro _)
    exact ⟨(i + 1, _, Hs', Hr'), ⟨by dsimp only; omega, hI', hJ', Nat.le_trans hlen (Nat.succ_le_succ hml)⟩, by dsimp only; omega, by repeat (first | exact SubL.nil | refine SubL.cons rfl ?_), by exact drop_auto⟩
  rintro ⟨M, Hs, Hr⟩ ⟨hI, hJ, hM0⟩
  dsimp only at hI hJ hM0 ⊢
  obtain ⟨hsM, hvM⟩ := hI.ok2
  repeat(refine ZX ?_;try intro _)
  refine rt_step rfl rfl rfl (st_call rfl rfl rfl rfl (CallT.fuel (n := n + 20026 + 3) (copy15_ct hI fun pc HsC hIC => ?_) rfl))
  repeat(refine ZX ?_;try intro _)
  refine rt_step rfl rfl rfl (st_call rfl rfl rfl rfl (CallT.fuel (n := n + 9 + 20020) (all16_ct hIC (show M.length ≤ 20000 by omega) fun w G3 hG3 => ?_) rfl))
  have hA3 := hG3.toA
  repeat(refine ZX ?_;try intro _)
  refine rt_step rfl rfl rfl (st_call rfl rfl rfl rfl (CallT.perm (H' := Hr ++ (G3 ++ (HsC ++ (Hs ++ [])))) (CallT.fuel (n := n + 20024 + 5) (all17_ct (by omega) hJ fun w4 G4 hG4 => ?_) rfl) (pn5 (Hr := Hr))))
  have hA4 := hG4.toA
  repeat(refine ZX ?_;try intro _)
  refine rt_step rfl rfl rfl (st_call rfl rfl rfl rfl (CallT.fuel (n := n + 20025 + 4) (sames14_ct (hA3.weak (by exact drop_auto)) (hA4.weak (by exact drop_auto)) (by omega) (fun r hr => (hvM r hr).light) fun t2 ht2 => ?_) rfl))
  obtain rfl : t2 = true := ht2.2 rfl
  repeat(refine ZX ?_;try intro _)
  exact re_1 rfl rfl (List.nil_sublist _) hQ
end
end Go.Proofs.YtphadapcafibpaaGreat.Abs
