/- The program's Select: one route for each key. -/
import Derived.Test.YthcohphflhkceaaYc
import Derived.Test.YthcohphflhkceaaYd
namespace Go.Proofs.Ythcohphflhkceaa.Abs
open Go
set_option linter.unusedVariables false
theorem stb_map {L L' : List Rw} (h : Stb rkW L L') : Stb rkN (L.map (·.r)) (L'.map (·.r)) := fun k => by
  rw [List.filter_map, List.filter_map]
  exact congrArg (List.map (·.r)) (h k)
theorem take_add {α : Type} (L : List α) (p q : Nat) : L.take (p + q) = L.take p ++ (L.drop p).take q := List.take_add
section
variable {B0 : Nat} {old : Nat → Option (List Value)} {n : Nat} {H : Hp} {Q : Value → Hp → Prop} {ad ad2 : Option Addr} {c c2 : Nat} {R : List (Int × Int)}
set_option maxRecDepth 10000
set_option maxHeartbeats 16000000
theorem Select17_ct (L : List Rw) (hwf : ∀ x ∈ L, x.r.WF) (hlt : ∀ x ∈ L, x.r.a.light) (hA : ArrW (cx B0 old) H ad 38 enW L) (hrd : ∀ x ∈ L, Rd (cx B0 old) H x) (hl : L.length ≤ 30) (harr2 : Arr (cx B0 old) H ad2 2 encH R) (hl2 : R.length ≤ 100000)
    (hQ : ∀ v G M, RsL (cx B0 old) M v G → SelOk (mets R) (L.map (·.r)) M → M.length ≤ 30 → Q v (G ++ H)) :
    CallT (cx B0 old) (acall (cx B0 old) ansP (n + 44)) 17 [.slice ad L.length c, .slice ad2 R.length c2] H Q := by
  refine call_in2 60 rfl Try.func17 rfl rfl ?_
  repeat (refine ZX ?_; try with_reducible intro _)
  refine rt_step rfl rfl rfl (st_call rfl rfl rfl rfl (metrics_ct _ _ R harr2 (by omega) fun cc mm => ?_))
  repeat (refine ZX ?_; try with_reducible intro _)
  refine rt_step rfl rfl rfl (st_call rfl rfl rfl rfl (clone36_ct (hA.weak (by exact drop_auto)) (by omega) fun v0 Gs0 o0 => ?_))
  repeat (refine ZX ?_; try with_reducible intro _)
  refine rt_step rfl rfl rfl (st_call rfl rfl rfl rfl (sort37_ct selCmp o0 (fun x hx => (hwf x hx).n) hl fun w T0 Gs o1 st1 as1 => ?_))
  have hT0 : ∀ x ∈ T0, x ∈ L := fun x hx => st1.mem.1 hx
  have hTl : T0.length = L.length := st1.length
  obtain ⟨adv, cv, hv0, _⟩ := o1.arrW (C := cx B0 old) enW_len
  repeat (refine ZX ?_; try with_reducible intro _)
  refine loop_ind (ι := Nat × List Rw × Value × Value × Hp × Hp) (0, [], v0, .slice none 0 0, [], []) (fun i => T0.length - i.1)
    (fun i => i.1 ≤ T0.length ∧ TlV (cx B0 old) (Gs ++ H) enW 38 (T0.drop i.1) i.2.2.1 ∧ SelOk (mets R) ((T0.take i.1).map (·.r)) (i.2.1.map (·.r)) ∧ Own enW 38 i.2.1 i.2.2.2.1 i.2.2.2.2.1 ∧ (∀ x ∈ i.2.1, Rd (cx B0 old) i.2.2.2.2.2 x) ∧ (∀ x ∈ T0.take i.1, ∀ y ∈ T0.drop i.1, rkW x < rkW y) ∧ i.2.1.length ≤ i.1)
    (fun i => [(6, i.2.2.1), (5, metF cc), (7, i.2.2.2.1)]) (fun i => i.2.2.2.2.1 ++ (i.2.2.2.2.2 ++ (Gs ++ ((cc, .row [.map (some mm)] 1 false) :: (mm, metO (mets R)) :: H))))
    ⟨Nat.zero_le _, by have := o1.tl (C := cx B0 old) (pre := []) (H0 := H) enW_len; simpa using this, SelOk.nil, .nil, fun x h => (by cases h), fun x h => (by simp at h), Nat.le_refl _⟩ (by repeat (first | exact SubL.nil | refine SubL.cons rfl ?_)) (by exact drop_auto) ?_
  rintro ⟨p, K, v6, vc, Gc, Gr⟩ ⟨hp, htl, hso, oK, hK, hbd, hKl⟩
  dsimp only at hp htl hso oK hK hbd hKl ⊢
  obtain ⟨ad6, c6, e6, hw6⟩ := htl.arr
  subst e6
  repeat (refine ZX ?_; try with_reducible intro _)
  refine ct_condT te_d rfl (fun hlt0 => ?_) (fun hlt0 => ?_)
  rotate_left
  · have hp2 : p = T0.length := by rw [List.length_drop] at hlt0; omega
    subst hp2
    rw [List.take_length] at hso
    repeat (refine ZX ?_; try with_reducible intro _)
    refine re_1 rfl rfl ?_ (hQ vc (Gc ++ Gr) _ ⟨K, Gc, Gr, oK, hK, rfl, rfl⟩ (hso.stb (stb_map st1)) (by rw [List.length_map]; omega))
    rw [List.append_assoc]
    exact drop_auto
  have hne : T0.drop p ≠ [] := fun e => by rw [e] at hlt0; simp at hlt0
  obtain ⟨x0, hx0⟩ : ∃ x0, (T0.drop p)[0]? = some x0 := ⟨_, List.getElem?_eq_getElem (by omega)⟩
  have hTm : ∀ x ∈ T0.drop p, x ∈ L := fun x hx => hT0 x (List.mem_of_mem_drop hx)
  have asT : Asc rkW (T0.drop p) := as1.sub (List.drop_sublist _ _)
  have hTlen : (T0.drop p).length = T0.length - p := List.length_drop
  obtain ⟨b6, o6, c6', e6, hw6'⟩ := htl.arr' hne
  cases e6
  have hstep : ∀ q, q ≤ (T0.drop p).length → (∀ (j : Nat) x, (T0.drop p)[j]? = some x → j < q → rkW x = rkW x0) → (∀ y, (T0.drop p)[q]? = some y → rkW y ≠ rkW x0) → 1 ≤ q →
      (∀ x ∈ T0.take (p + q), ∀ y ∈ T0.drop (p + q), rkW x < rkW y) ∧ ∀ K' : List Rt, K' = K.map (·.r) ++ (sel (mets R) (((T0.drop p).take q).map (·.r))).toList → SelOk (mets R) ((T0.take (p + q)).map (·.r)) K' := fun q hq heq hnq h1 => by
    have hG : ∀ x ∈ (T0.drop p).take q, rkW x = rkW x0 := fun x hx => by
      obtain ⟨j, hj⟩ := List.getElem?_of_mem hx
      rw [List.getElem?_take] at hj
      split at hj
      · rename_i h; exact heq j x hj h
      · cases hj
    have hx0m : x0 ∈ T0.drop p := List.mem_of_getElem? hx0
    refine ⟨fun x hx y hy => ?_, fun K' hK' => ?_⟩
    · rw [← List.drop_drop] at hy
      rw [take_add] at hx
      rcases List.mem_append.1 hx with hx | hx
      · exact hbd x hx y (List.mem_of_mem_drop hy)
      · have := asc_drop_first (k := rkW x0 + 1) asT (fun y hy => by
          have h1 := asT.get hx0 hy (Nat.zero_le _)
          have h2 := hnq y hy
          omega) y hy
        rw [hG x hx]
        omega
    · rw [take_add, List.map_append, hK']
      refine hso.step (k0 := rkW x0) (fun x hx => ?_) (fun x hx => ?_)
      · obtain ⟨z, hz, rfl⟩ := List.mem_map.1 hx
        exact hG z hz
      · obtain ⟨z, hz, rfl⟩ := List.mem_map.1 hx
        exact hbd z hz x0 hx0m
  repeat (refine ZX ?_; try with_reducible intro _)
  refine ct_midB (ι := Nat) (fun q => 1 ≤ q ∧ q ≤ (T0.drop p).length ∧ (∀ (j : Nat) x, (T0.drop p)[j]? = some x → j < q → rkW x = rkW x0) ∧ (∀ y, (T0.drop p)[q]? = some y → rkW y ≠ rkW x0))
    (fun q => [(8, .int .i64 (q : Int)), (6, .slice (some ⟨b6, o6, none⟩) (T0.drop p).length c6), (5, metF cc), (7, vc)]) (fun _ => Gc ++ (Gr ++ (Gs ++ ((cc, .row [.map (some mm)] 1 false) :: (mm, metO (mets R)) :: H)))) ?_ ?_
  · refine loop_ind (ι := Nat) 1 (fun q => (T0.drop p).length - q) (fun q => 1 ≤ q ∧ q ≤ (T0.drop p).length ∧ (∀ (j : Nat) x, (T0.drop p)[j]? = some x → j < q → rkW x = rkW x0))
      (fun q => [(8, .int .i64 (q : Int)), (6, .slice (some ⟨b6, o6, none⟩) (T0.drop p).length c6), (5, metF cc), (7, vc)]) (fun _ => Gc ++ (Gr ++ (Gs ++ ((cc, .row [.map (some mm)] 1 false) :: (mm, metO (mets R)) :: H))))
      ⟨Nat.le_refl _, by omega, fun j x hj hlt => by
        obtain rfl : j = 0 := by omega
        rw [hx0] at hj; cases hj; rfl⟩ (by repeat (first | exact SubL.nil | refine SubL.cons rfl ?_)) (by exact drop_auto) ?_
    rintro q ⟨hq1, hq2, heq⟩
    repeat (refine ZX ?_; try with_reducible intro _)
    refine ct_draw (masks := [0, 0, 2, 7, 15, 31, 63, 127, 255, 31, 31, 1567, 3615, 7711, 16383, 32767, 65535]) (plan := [0, 1, 2, 3, 4, 5, 6, 7, 8, 9, 10, 11, 12, 13, 14, 15, 16]) (E := []) (by kernel_rfl) (by kernel_rfl) (by kernel_rfl) (by kernel_rfl) ?_
    repeat (refine YX ?_)
    refine isPlan ?_
    refine z3 (fun hja => ?_) (fun hja => ?_)
    rotate_left
    · repeat (refine YX ?_)
      repeat (refine ZX ?_; try with_reducible intro _)
      exact ⟨q, ⟨hq1, hq2, heq, fun y hy => by rw [List.getElem?_eq_none (by omega)] at hy; cases hy⟩, by repeat (first | exact SubL.nil | refine SubL.cons rfl ?_), by exact drop_auto⟩
    obtain ⟨xq, hxq⟩ : ∃ xq, (T0.drop p)[q]? = some xq := ⟨_, List.getElem?_eq_getElem (by omega)⟩
    obtain ⟨hL0, _⟩ := (hw6'.arr enW_len).rn hx0 rfl (sz rfl)
    obtain ⟨hL1, _⟩ := (hw6'.arr enW_len).rn hxq rfl (sz rfl)
    have w0 := (hwf x0 (hTm x0 (List.mem_of_getElem? hx0))).n
    have wq := (hwf xq (hTm xq (List.mem_of_getElem? hxq))).n
    unfold en60 at hL0 hL1
    repeat (refine YX ?_)
    have hcp : ∀ {H1 : Hp} {Θ : Value → Hp → Prop}, Θ (.int .i64 (nlC x0.r.n xq.r.n)) H1 → CallT (cx B0 old) (acall (cx B0 old) ansP (n + 43)) 39 [.agg ⟨en60 x0.r.n⟩, .agg ⟨en60 xq.r.n⟩] H1 Θ := fun h => compare39_ct (n := n + 37) x0.r.n xq.r.n h
    refine pl_S rfl rfl rfl rfl rfl rfl (st_call rfl rfl rfl rfl (hcp ⟨by exact rec_auto, ?_⟩))
    repeat (refine YX ?_)
    repeat (refine ZX ?_; try with_reducible intro _)
    refine ct_condT te_e rfl (fun hz => ?_) (fun hz => ?_)
    · repeat (refine ZX ?_; try with_reducible intro _)
      refine ⟨q + 1, ⟨by omega, by omega, fun j x hj hlt => ?_⟩, by omega, by repeat (first | exact SubL.nil | refine SubL.cons rfl ?_), by exact drop_auto⟩
      rcases Nat.lt_or_ge j q with h | h
      · exact heq j x hj h
      · obtain rfl : j = q := by omega
        rw [hxq] at hj; cases hj
        exact ((nlC_rk0 w0 wq).1 hz).symm
    · repeat (refine ZX ?_; try with_reducible intro _)
      exact ⟨q, ⟨hq1, hq2, heq, fun y hy => by rw [hxq] at hy; cases hy; exact fun e => hz ((nlC_rk0 w0 wq).2 e.symm)⟩, by repeat (first | exact SubL.nil | refine SubL.cons rfl ?_), by exact drop_auto⟩
  rintro q ⟨hq1, hq2, heq, hnq⟩
  obtain ⟨hs1, hs2⟩ := hstep q hq2 heq hnq hq1
  obtain ⟨adg, cg, hsl, hwg⟩ := htl.pre (t := 44) (e := 40) (hi := some (.int .i64 (q : Int))) (q := q) enW_len hne rfl (sz rfl) hq2 (by simp [natOf])
  obtain ⟨v6', hsl2, htl2⟩ := htl.suf (t := 44) (e := 40) (lo := some (.int .i64 (q : Int))) (m := q) enW_len hne rfl (sz rfl) hq2 (by simp [natOf])
  have hql : ((T0.drop p).take q).length = q := by rw [List.length_take]; omega
  repeat (refine ZX ?_; try with_reducible intro _)
  refine rt_p rfl rfl rfl (p_slc rfl rfl rfl hsl) ?_
  repeat (refine ZX ?_; try with_reducible intro _)
  refine rt_step rfl rfl rfl (st_call rfl rfl rfl rfl (pick_ct _ _ ((T0.drop p).take q) (fun x hx => hwf x (hTm x (List.mem_of_mem_take hx))) ((hwg.arr enW_len).weak (by exact drop_auto)) (by omega) (mets R) cc mm (by exact in_auto) (by exact in_auto) ?_))
  have hsel := sel_pst (mets R) (((T0.drop p).take q).map (·.r))
  rw [List.length_map] at hsel
  have hinv := pst_inv (mets R) (((T0.drop p).take q).map (·.r)) ((T0.drop p).take q).length (by rw [List.length_map]; exact Nat.le_refl _)
  generalize pst (mets R) (((T0.drop p).take q).map (·.r)) ((T0.drop p).take q).length = so at hsel hinv ⊢
  obtain ⟨be, fo, le⟩ := so
  dsimp only at hsel hinv ⊢
  repeat (refine ZX ?_; try with_reducible intro _)
  refine ct_midE (ι := List Rw × Value × Hp × Hp) (fun i => i.1.map (·.r) = K.map (·.r) ++ (sel (mets R) (((T0.drop p).take q).map (·.r))).toList ∧ Own enW 38 i.1 i.2.1 i.2.2.1 ∧ (∀ x ∈ i.1, Rd (cx B0 old) i.2.2.2 x) ∧ i.1.length ≤ K.length + 1)
    (fun i => [(8, .int .i64 (q : Int)), (6, .slice (some ⟨b6, o6, none⟩) (T0.drop p).length c6), (5, metF cc), (7, i.2.1)]) (fun i => i.2.2.1 ++ (i.2.2.2 ++ (Gs ++ ((cc, .row [.map (some mm)] 1 false) :: (mm, metO (mets R)) :: H)))) ?_ ?_
  · cases fo with
    | false =>
      rw [if_neg (by simp)] at hsel
      repeat (refine ZX ?_; try with_reducible intro _)
      exact ⟨(K, vc, Gc, Gr), ⟨by dsimp only; rw [hsel]; simp, oK, hK, Nat.le_succ _⟩, by repeat (first | exact SubL.nil | refine SubL.cons rfl ?_), by exact drop_auto⟩
    | true =>
      obtain ⟨r', hr1, _⟩ := hinv rfl
      rw [if_pos rfl, hr1] at hsel
      rw [List.getElem?_map] at hr1
      obtain ⟨z, hz, rfl⟩ := Option.map_eq_some_iff.1 hr1
      rw [List.getElem?_take] at hz
      have hbq : be < q := by
        by_cases h : be < q
        · exact h
        · rw [if_neg h] at hz; cases hz
      rw [if_pos hbq] at hz
      obtain ⟨hL0, _⟩ := (hw6'.arr enW_len).rw' hz rfl (sz rfl)
      have hzL := hTm z (List.mem_of_getElem? hz)
      repeat (refine ZX ?_; try with_reducible intro _)
      refine rt_step rfl rfl rfl (st_call rfl rfl rfl rfl (clone40W (n := n + 41) z (hlt z hzL) ((hrd z hzL).weak (by exact drop_auto)) fun y G9 hy hyR => ?_))
      obtain ⟨adc, cap0, ec, _⟩ := oK.arrW (C := cx B0 old) enW_len
      repeat (refine ZX ?_; try with_reducible intro _)
      refine rt_step rfl rfl rfl (st_appO (M := [y]) (c := 1) (pre := _ :: G9) (Hs := Gc) oK enW_len enW_one rfl rfl (ap rfl) (arrW_one enW_len (List.Mem.head _)) (Nat.le_trans (Nat.mul_le_mul_right _ (show 2 * (K.length + [y].length) + 192 ≤ 6000 by rw [List.length_singleton]; omega)) (by decide)) fun v4 H4 ho4 => ?_)
      repeat (refine ZX ?_; try with_reducible intro _)
      refine ⟨(K ++ [y], v4, H4, G9 ++ Gr), ⟨by dsimp only; rw [hsel, List.map_append]; simp [hy], ho4, fun x hx => ?_, by simp⟩, by repeat (first | exact SubL.nil | refine SubL.cons rfl ?_), ?_⟩
      · rcases List.mem_append.1 hx with hx | hx
        · exact (hK x hx).weak (List.sublist_append_right _ _)
        · rw [List.mem_singleton.1 hx]; exact hyR.weak (List.sublist_append_left _ _)
      · dsimp only
        rw [List.append_assoc]
        exact drop_auto
  rintro ⟨K', vc', Gc', Gr'⟩ ⟨hK1, oK', hK', hKl'⟩
  dsimp only at hK1 oK' hK' hKl' ⊢
  repeat (refine ZX ?_; try with_reducible intro _)
  refine rt_p rfl rfl rfl (p_slc rfl rfl rfl hsl2) ?_
  repeat (refine ZX ?_; try with_reducible intro _)
  rw [List.drop_drop] at htl2
  exact ⟨(p + q, K', v6', vc', Gc', Gr'), ⟨by dsimp only; omega, htl2, hs2 _ hK1, oK', hK', hs1, by dsimp only; omega⟩, by dsimp only; omega, by repeat (first | exact SubL.nil | refine SubL.cons rfl ?_), by exact drop_auto⟩
end
end Go.Proofs.Ythcohphflhkceaa.Abs

/- The reference's Select: a list that is kept in order. -/
namespace Go.Proofs.Ythcohphflhkceaa.Abs
open Go
set_option linter.unusedVariables false
theorem enW_store (x y : Rw) : storeRow (enW x) 0 (enW y) = some (enW y) := by
  unfold storeRow
  rw [enW_one y, Nat.zero_add, enW_len, enW_len, Nat.ble_eq_true_of_le (Nat.le_refl _)]
  rw [List.drop_of_length_le (by rw [enW_len]; exact Nat.le_refl _), List.append_nil]; rfl
section
variable {B0 : Nat} {old : Nat → Option (List Value)} {n : Nat} {H : Hp} {Q : Value → Hp → Prop} {ad ad2 : Option Addr} {c c2 : Nat} {R : List (Int × Int)}
set_option maxRecDepth 10000
set_option maxHeartbeats 16000000
theorem Select21_ct (L : List Rw) (hwf : ∀ x ∈ L, x.r.WF) (hA : Arr (cx B0 old) H ad 38 enW L) (hl : L.length ≤ 1000) (harr2 : Arr (cx B0 old) H ad2 2 encH R) (hl2 : R.length ≤ 100000)
    (hQ : ∀ v G K, Own enW 38 K v G → (∀ x ∈ K, x ∈ L) → SelOk (mets R) (L.map (·.r)) (K.map (·.r)) → Q v (G ++ H)) :
    CallT (cx B0 old) (acall (cx B0 old) ansP (n + 5)) 21 [.slice ad L.length c, .slice ad2 R.length c2] H Q := by
  refine call_in2 95 rfl Try.func21 rfl rfl ?_
  repeat (refine ZX ?_; try with_reducible intro _)
  refine loop_ind (ι := Nat × List Rw × Value × Hp) (0, [], .slice none 0 0, []) (fun i => L.length - i.1)
    (fun i => i.1 ≤ L.length ∧ (∀ x ∈ i.2.1, x ∈ L) ∧ SelOk (mets R) ((L.take i.1).map (·.r)) (i.2.1.map (·.r)) ∧ Own enW 38 i.2.1 i.2.2.1 i.2.2.2 ∧ i.2.1.length ≤ i.1)
    (fun i => [(6, .int .i64 (i.1 : Int)), (0, .slice ad L.length c), (1, .slice ad2 R.length c2), (5, i.2.2.1)]) (fun i => i.2.2.2 ++ H)
    ⟨Nat.zero_le _, fun x h => (by cases h), SelOk.nil, .nil, Nat.le_refl _⟩ (by repeat (first | exact SubL.nil | refine SubL.cons rfl ?_)) (by exact drop_auto) ?_
  rintro ⟨i, K, vo, Go⟩ ⟨hi, hKL, hso, ho, hKl⟩
  dsimp only at hi hKL hso ho hKl ⊢
  repeat (refine ZX ?_; try with_reducible intro _)
  refine ct_condT te_d rfl (fun hlt => ?_) (fun hlt => ?_)
  rotate_left
  · obtain rfl : i = L.length := by omega
    rw [List.take_length] at hso
    repeat (refine ZX ?_; try with_reducible intro _)
    exact re_1 rfl rfl (by exact drop_auto) (hQ vo Go K ho hKL hso)
  obtain ⟨x, hx⟩ : ∃ x, L[i]? = some x := ⟨_, List.getElem?_eq_getElem (by omega)⟩
  have hxL := List.mem_of_getElem? hx
  have hxw := hwf x hxL
  have htx : (L.take (i + 1)).map (·.r) = (L.take i).map (·.r) ++ [x.r] := by rw [List.take_add_one, hx, List.map_append]; rfl
  obtain ⟨bl, ol, cs0, e0, _, _⟩ := hA.els i x hx
  subst e0
  obtain ⟨hL0, _⟩ := hA.rw' hx rfl (sz rfl)
  repeat (refine ZX ?_; try with_reducible intro _)
  refine rt_step rfl rfl rfl (st_call rfl rfl rfl rfl (Usable24_ct x (harr2.weak (by exact drop_auto)) hl2 ?_))
  cases hu : usableR x.r (mets R) with
  | false =>
    have hso2 := hso.skip (x := x.r) (by rw [hu]; simp)
    repeat (refine ZX ?_; try with_reducible intro _)
    exact ⟨(i + 1, K, vo, Go), ⟨by dsimp only; omega, hKL, by dsimp only; rw [htx]; exact hso2, ho, by dsimp only; omega⟩, by dsimp only; omega, by repeat (first | exact SubL.nil | refine SubL.cons rfl ?_), by exact drop_auto⟩
  | true =>
  have hso2 := hso.ins (x := x.r) hu
  obtain ⟨adk, ck, ek, hwk⟩ := ho.arrW (C := cx B0 old) enW_len
  have hwk := hwk [] H
  rw [List.nil_append] at hwk
  subst ek
  obtain ⟨hL2, _⟩ := hA.rn hx rfl (sz rfl)
  unfold en60 at hL2
  repeat (refine ZX ?_; try with_reducible intro _)
  refine ct_midB (ι := Nat) (fun k => k ≤ K.length ∧ (∀ (j : Nat) y, K[j]? = some y → j < k → rkW y < rkW x) ∧ (∀ y, K[k]? = some y → rkW x ≤ rkW y))
    (fun k => [(7, .int .i64 (k : Int)), (6, .int .i64 (i : Int)), (0, .slice (some ⟨bl, ol, none⟩) L.length c), (1, .slice ad2 R.length c2), (5, .slice adk K.length ck)]) (fun _ => Go ++ H) ?_ ?_
  · refine loop_ind (ι := Nat) 0 (fun k => K.length - k) (fun k => k ≤ K.length ∧ (∀ (j : Nat) y, K[j]? = some y → j < k → rkW y < rkW x))
      (fun k => [(7, .int .i64 (k : Int)), (6, .int .i64 (i : Int)), (0, .slice (some ⟨bl, ol, none⟩) L.length c), (1, .slice ad2 R.length c2), (5, .slice adk K.length ck)]) (fun _ => Go ++ H)
      ⟨Nat.zero_le _, fun j y _ h => absurd h (Nat.not_lt_zero _)⟩ (by repeat (first | exact SubL.nil | refine SubL.cons rfl ?_)) (by exact drop_auto) ?_
    rintro k ⟨hk, hbf⟩
    repeat (refine ZX ?_; try with_reducible intro _)
    refine ct_draw (masks := [0, 0, 2, 7, 15, 31, 31, 127, 255, 511, 31, 31, 3103, 7199, 15391, 32767, 65535, 131071]) (plan := [0, 1, 2, 3, 4, 5, 6, 7, 8, 9, 10, 11, 12, 13, 14, 15, 16, 17]) (E := []) (by kernel_rfl) (by kernel_rfl) (by kernel_rfl) (by kernel_rfl) ?_
    repeat (refine YX ?_)
    refine isPlan ?_
    refine z3 (fun hja => ?_) (fun hja => ?_)
    rotate_left
    · repeat (refine YX ?_)
      repeat (refine ZX ?_; try with_reducible intro _)
      exact ⟨k, ⟨hk, hbf, fun y hy => by rw [List.getElem?_eq_none (by omega)] at hy; cases hy⟩, by repeat (first | exact SubL.nil | refine SubL.cons rfl ?_), by exact drop_auto⟩
    obtain ⟨y, hy⟩ : ∃ y, K[k]? = some y := ⟨_, List.getElem?_eq_getElem (by omega)⟩
    have hyw := hwf y (hKL y (List.mem_of_getElem? hy))
    obtain ⟨bk, ok, cs1, e1, _, _⟩ := (hwk.arr enW_len).els k y hy
    subst e1
    obtain ⟨hL1, _⟩ := (hwk.arr enW_len).rn hy rfl (sz rfl)
    unfold en60 at hL1
    repeat (refine YX ?_)
    have hcp : ∀ {H1 : Hp} {Θ : Value → Hp → Prop}, Θ (.int .i64 (nlC y.r.n x.r.n)) H1 → CallT (cx B0 old) (acall (cx B0 old) ansP (n + 4)) 26 [.agg ⟨en60 y.r.n⟩, .agg ⟨en60 x.r.n⟩] H1 Θ := fun h => compare26_ct (n := n) y.r.n x.r.n hyw.n hxw.n h
    refine pl_S rfl rfl rfl rfl rfl rfl (st_call rfl rfl rfl rfl (hcp ⟨by exact rec_auto, ?_⟩))
    repeat (refine YX ?_)
    repeat (refine ZX ?_; try with_reducible intro _)
    refine ct_condT te_d rfl (fun hz => ?_) (fun hz => ?_)
    · repeat (refine ZX ?_; try with_reducible intro _)
      refine ⟨k + 1, ⟨by omega, fun j z hj hlt => ?_⟩, by omega, by repeat (first | exact SubL.nil | refine SubL.cons rfl ?_), by exact drop_auto⟩
      rcases Nat.lt_or_ge j k with h | h
      · exact hbf j z hj h
      · obtain rfl : j = k := by omega
        rw [hy] at hj; cases hj
        exact (nlC_rk hyw.n hxw.n).1 hz
    · repeat (refine ZX ?_; try with_reducible intro _)
      exact ⟨k, ⟨hk, hbf, fun z hz' => by rw [hy] at hz'; cases hz'; exact Int.not_lt.1 fun h => hz ((nlC_rk hyw.n hxw.n).2 h)⟩, by repeat (first | exact SubL.nil | refine SubL.cons rfl ?_), by exact drop_auto⟩
  rintro k ⟨hk, hbf, haf⟩
  have hins := insR_at (ps := mets R) (x := x.r) (l := K.map (·.r)) (k := k) (by rw [List.length_map]; exact hk) (fun j y hj hlt => by
    rw [List.getElem?_map] at hj
    obtain ⟨z, hz, rfl⟩ := Option.map_eq_some_iff.1 hj
    exact hbf j z hz hlt) (fun y hy => by
    rw [List.getElem?_map] at hy
    obtain ⟨z, hz, rfl⟩ := Option.map_eq_some_iff.1 hy
    exact haf z hz)
  repeat (refine ZX ?_; try with_reducible intro _)
  refine ct_draw (masks := [0, 0, 2, 7, 15, 31, 31, 127, 255, 511, 31, 31, 3103, 7199, 15391, 32767, 65535, 131071, 262143]) (plan := [0, 1, 2, 3, 4, 5, 6, 7, 8, 9, 10, 11, 12, 13, 14, 15, 16, 17, 18]) (E := []) (by kernel_rfl) (by kernel_rfl) (by kernel_rfl) (by kernel_rfl) ?_
  refine pl_midE (ι := Bool) (fun t => t = false ↔ ∃ y, K[k]? = some y ∧ rkW y = rkW x)
    (fun t => [(41, .bool t), (7, .int .i64 (k : Int)), (6, .int .i64 (i : Int)), (0, .slice (some ⟨bl, ol, none⟩) L.length c), (1, .slice ad2 R.length c2), (5, .slice adk K.length ck)]) (fun _ => Go ++ H) ?_ ?_
  · repeat (refine YX ?_)
    refine isPlan ?_
    refine z3 (fun hja => ?_) (fun hja => ?_)
    · repeat (refine YX ?_)
      exact ⟨true, ⟨fun h => (by cases h), fun ⟨y, hy, _⟩ => by rw [List.getElem?_eq_none (by omega)] at hy; cases hy⟩, by repeat (first | exact SubL.nil | refine SubL.cons rfl ?_), by exact drop_auto⟩
    · obtain ⟨y, hy⟩ : ∃ y, K[k]? = some y := ⟨_, List.getElem?_eq_getElem (by omega)⟩
      have hyw := hwf y (hKL y (List.mem_of_getElem? hy))
      obtain ⟨bk, ok, cs1, e1, _, _⟩ := (hwk.arr enW_len).els k y hy
      subst e1
      obtain ⟨hL1, _⟩ := (hwk.arr enW_len).rn hy rfl (sz rfl)
      have hkl : k < K.length := (List.getElem?_eq_some_iff.1 hy).1
      unfold en60 at hL1
      repeat (refine YX ?_)
      have hcp : ∀ {H1 : Hp} {Θ : Value → Hp → Prop}, Θ (.int .i64 (nlC y.r.n x.r.n)) H1 → CallT (cx B0 old) (acall (cx B0 old) ansP (n + 4)) 26 [.agg ⟨en60 y.r.n⟩, .agg ⟨en60 x.r.n⟩] H1 Θ := fun h => compare26_ct (n := n) y.r.n x.r.n hyw.n hxw.n h
      refine pl_S rfl rfl rfl rfl rfl rfl (st_call rfl rfl rfl rfl (hcp ⟨by exact rec_auto, ?_⟩))
      repeat (refine YX ?_)
      refine ⟨nlC y.r.n x.r.n != 0, ?_, by repeat (first | exact SubL.nil | refine SubL.cons rfl ?_), by exact drop_auto⟩
      rw [bne_eq_false_iff_eq, nlC_rk0 hyw.n hxw.n]
      exact ⟨fun h => ⟨y, hy, h⟩, fun ⟨z, hz, h⟩ => by rw [hy] at hz; cases hz; exact h⟩
  rintro t ht
  cases t with
  | true =>
    have hno : ∀ y, K[k]? = some y → rkW y ≠ rkW x := fun y hy h => by have := ht.2 ⟨y, hy, h⟩; cases this
    have hins2 : insR (mets R) x.r (K.map (·.r)) = (K.map (·.r)).take k ++ ([x.r] ++ (K.map (·.r)).drop k) := by
      rw [hins, List.getElem?_map]
      cases hq : K[k]? with
      | none => rfl
      | some z => exact if_neg (hno z hq)
    rw [hins2] at hso2
    have hcut := ho.cuts (C := cx B0 old) (pre := []) (H0 := []) enW_len
    obtain ⟨ad3, c3, hs3, hw3⟩ := hcut.part 44 40 none (some (.int .i64 (k : Int))) 0 k rfl (sz rfl) (Nat.zero_le _) (by omega) (.inr ⟨rfl, rfl⟩) (.inl (by simp [natOf]))
    obtain ⟨ad4, c4, hs4, hw4⟩ := hcut.part 44 40 (some (.int .i64 (k : Int))) none k K.length rfl (sz rfl) (by omega) (Nat.le_refl _) (.inl (by simp [natOf])) (.inr ⟨rfl, rfl⟩)
    simp only [List.nil_append, List.append_nil, List.drop_zero, Nat.sub_zero] at hw3 hw4 hs3
    have hl3 : (K.take k).length = k := by rw [List.length_take]; omega
    have hl4 : ((K.drop k).take (K.length - k)).length = K.length - k := by rw [List.length_take, List.length_drop]; omega
    repeat (refine ZX ?_; try with_reducible intro _)
    refine ct_draw (masks := [0, 0, 0, 6, 15, 0, 0, 96, 224, 480, 1023, 0, 0, 6144, 16383, 32767]) (plan := [1, 2, 3, 5, 6, 7, 8, 11, 12, 13, 0, 4, 9, 10, 14, 15]) (E := [9]) (by kernel_rfl) (by kernel_rfl) (by kernel_rfl) (by kernel_rfl) ?_
    repeat (refine YX ?_)
    refine pl_p rfl rfl rfl rfl rfl rfl (p_slc rfl rfl rfl hs3) ?_
    repeat (refine YX ?_)
    refine pl_p rfl rfl rfl rfl rfl rfl (p_slc rfl rfl rfl hs4) ?_
    repeat (refine YX ?_)
    refine pl_S' (late_has 9 rfl (made_slice rfl rfl rfl (zr rfl) rfl rfl rfl rfl rfl rfl)) rfl rfl rfl rfl rfl rfl (st_buildSlice rfl (zr rfl) rfl rfl rfl rfl rfl rfl fun b0 => ⟨by exact rec_auto, ?_⟩)
    repeat (refine YX ?_)
    refine pl_S' (late_has 9 rfl (made_slice rfl rfl rfl (zr rfl) rfl rfl rfl rfl rfl rfl)) rfl rfl rfl rfl rfl rfl (st_appO (M := K.take k) (c := c3) (pre := []) (Hs := [_]) (Own.emp _ _) enW_len enW_one rfl (by rw [hl3]; rfl) (ap rfl) (hw3.weak (by exact drop_auto)) (Nat.le_trans (Nat.mul_le_mul_right _ (show 2 * (([] : List Rw).length + (K.take k).length) + 192 ≤ 6000 by rw [hl3, List.length_nil]; omega)) (by decide)) fun v3 H3 ho3 => ⟨by exact rec_auto, ?_⟩)
    repeat (refine YX ?_)
    refine pl_S' (late_has 9 rfl (made_slice rfl rfl rfl (zr rfl) rfl rfl rfl rfl rfl rfl)) rfl rfl rfl rfl rfl rfl (st_buildSlice rfl (zr rfl) rfl rfl rfl rfl rfl rfl fun bo => ⟨by exact rec_auto, ?_⟩)
    repeat (refine YX ?_)
    refine pl_S' (late_no rfl) rfl rfl rfl rfl rfl rfl (st_appO (M := [x]) (c := 1) (pre := [_]) (Hs := H3) ho3 enW_len enW_one rfl rfl (ap rfl) (arrW_one enW_len (List.Mem.head _)) (Nat.le_trans (Nat.mul_le_mul_right _ (show 2 * (([] ++ K.take k).length + [x].length) + 192 ≤ 6000 by rw [List.nil_append, hl3, List.length_singleton]; omega)) (by decide)) fun v4 H4 ho4 => ⟨by exact rec_auto, ?_⟩)
    repeat (refine YX ?_)
    refine pl_S' (late_no rfl) rfl rfl rfl rfl rfl rfl (st_appO (M := (K.drop k).take (K.length - k)) (c := c4) (pre := []) (Hs := H4) ho4 enW_len enW_one rfl (by rw [hl4]; rfl) (ap rfl) (hw4.weak (by exact drop_auto)) (Nat.le_trans (Nat.mul_le_mul_right _ (show 2 * (([] ++ K.take k ++ [x]).length + ((K.drop k).take (K.length - k)).length) + 192 ≤ 6000 by rw [hl4, List.nil_append, List.length_append, hl3, List.length_singleton]; omega)) (by decide)) fun v5 H5 ho5 => ⟨by exact rec_auto, ?_⟩)
    obtain ⟨E, hE⟩ : ∃ E, [] ++ K.take k ++ [x] ++ (K.drop k).take (K.length - k) = E := ⟨_, rfl⟩
    rw [hE] at ho5
    rw [List.take_of_length_le (l := K.drop k) (by rw [List.length_drop]; omega), List.nil_append, List.append_assoc] at hE
    repeat (refine YX ?_)
    repeat (refine ZX ?_; try with_reducible intro _)
    refine ⟨(i + 1, E, v5, H5), ⟨by dsimp only; omega, fun z hz => ?_, by dsimp only; rw [htx, ← hE]; simpa using hso2, ho5, ?_⟩, by dsimp only; omega, by repeat (first | exact SubL.nil | refine SubL.cons rfl ?_), by exact drop_auto⟩
    · dsimp only at hz
      rw [← hE] at hz
      rcases List.mem_append.1 hz with hz | hz
      · exact hKL z (List.mem_of_mem_take hz)
      · rcases List.mem_append.1 hz with hz | hz
        · rw [List.mem_singleton.1 hz]; exact hxL
        · exact hKL z (List.mem_of_mem_drop hz)
    · dsimp only
      rw [← hE, List.length_append, List.length_append, hl3, List.length_drop, List.length_singleton]
      omega
  | false =>
    obtain ⟨y, hy, hyx⟩ := ht.1 rfl
    have hyw := hwf y (hKL y (List.mem_of_getElem? hy))
    have hyr : (K.map (·.r))[k]? = some y.r := by rw [List.getElem?_map, hy]; rfl
    have hkl : k < K.length := (List.getElem?_eq_some_iff.1 hy).1
    have hins2 : insR (mets R) x.r (K.map (·.r)) = if lexc (rankL x.r (mets R)) (rankL y.r (mets R)) < 0 then (K.map (·.r)).set k x.r else K.map (·.r) := by
      rw [hins, hyr]
      exact if_pos hyx
    rw [hins2] at hso2
    obtain ⟨Gs2, ho3, b1, cb, eb, hst⟩ := ho.set (C := cx B0 old) (t := 40) (f := 0) (a' := x) (u := .agg ⟨enW x⟩) enW_len hy (sz rfl) rfl (enW_store y x)
    obtain ⟨e1, _, _⟩ := Value.slice.inj eb
    subst e1
    obtain ⟨hL1, _⟩ := (hwk.arr enW_len).rw' hy rfl (sz rfl)
    repeat (refine ZX ?_; try with_reducible intro _)
    refine ct_draw (masks := [0, 0, 3, 7, 0, 0, 48, 112, 0, 511, 1023, 2047]) (plan := [0, 1, 2, 3, 4, 5, 6, 7, 8, 9, 10, 11]) (E := []) (by kernel_rfl) (by kernel_rfl) (by kernel_rfl) (by kernel_rfl) ?_
    repeat (refine YX ?_)
    refine pl_S rfl rfl rfl rfl rfl rfl (st_call rfl rfl rfl rfl (CallT.fuel (n := n + 1 + 3) (Compare23_ct x y hxw hyw (harr2.weak (by exact drop_auto)) hl2 ⟨by exact rec_auto, ?_⟩) rfl))
    repeat (refine YX ?_)
    repeat (refine ZX ?_; try with_reducible intro _)
    unfold cmpR
    refine ct_condT te_d rfl (fun hz => ?_) (fun hz => ?_)
    · rw [if_pos hz] at hso2
      repeat (refine ZX ?_; try with_reducible intro _)
      refine rt_st rfl rfl rfl rfl rfl (hst [] H) ?_
      repeat (refine ZX ?_; try with_reducible intro _)
      refine ⟨(i + 1, K.set k x, _, Gs2), ⟨by dsimp only; omega, fun z hz => ?_, by dsimp only; rw [htx, List.map_set]; exact hso2, ho3, by dsimp only; rw [List.length_set]; omega⟩, by dsimp only; omega, by repeat (first | exact SubL.nil | refine SubL.cons rfl ?_), by exact drop_auto⟩
      rcases List.mem_or_eq_of_mem_set hz with h | rfl
      · exact hKL z h
      · exact hxL
    · rw [if_neg hz] at hso2
      repeat (refine ZX ?_; try with_reducible intro _)
      exact ⟨(i + 1, K, _, Go), ⟨by dsimp only; omega, hKL, by dsimp only; rw [htx]; exact hso2, ho, by dsimp only; omega⟩, by dsimp only; omega, by repeat (first | exact SubL.nil | refine SubL.cons rfl ?_), by exact drop_auto⟩
end
end Go.Proofs.Ythcohphflhkceaa.Abs

/- OwnRoutes, Own and Same of next hops, light. -/
namespace Go.Proofs.Ythcohphflhkceaa.Abs
open Go
set_option linter.unusedVariables false
theorem encH_len (x : Int × Int) : (encH x).length = 2 := rfl
theorem encH_one (x : Int × Int) : (encH x).all Value.oneCell' = true := rfl
theorem leafH_eq (x : Int × Int) : leafsEq (encH x) (encH x) = true := by simp [leafsEq, leafEq, encH]
theorem leafH_ne {x y : Int × Int} (h : x ≠ y) : leafsEq (encH x) (encH y) = false := by
  cases e : leafsEq (encH x) (encH y) with
  | false => rfl
  | true =>
    simp only [leafsEq, leafEq, encH, Bool.and_true, Bool.and_eq_true, beq_iff_eq] at e
    exact absurd (Prod.ext (by simp_all) (by simp_all)) h
theorem own_rsA {C : Ctx} {K : List Rw} {v : Value} {G H : Hp} (ho : Own enW 38 K v G) (hrd : ∀ x ∈ K, Rd C H x) : RsA C (G ++ H) (K.map (·.r)) v := by
  obtain ⟨ad, c, e, hw⟩ := ho.arrW (C := C) enW_len
  exact ⟨K, ad, c, e, hw [] H, fun x hx => (hrd x hx).weak (List.sublist_append_right _ _), rfl⟩
section
variable {C : Ctx} {nt : Nat} {ops : Array Oper} {l : Sl}
theorem late_two {E masks r : List Nat} (x y : Nat) (hE : E = [x, y]) (h1 : Made C ops l x) (h2 : Made C ops l y) : LateT C nt ops E masks r l := late_all fun z hz => by
  subst hE
  rcases List.mem_cons.1 hz with rfl | hz
  · exact .inr h1
  · rw [List.mem_singleton.1 hz]; exact .inr h2
end
section
variable {B0 : Nat} {old : Nat → Option (List Value)} {n : Nat} {H : Hp} {Q : Value → Hp → Prop} {ad ad2 : Option Addr} {c c2 : Nat} {R M : List (Int × Int)}
set_option maxRecDepth 10000
set_option maxHeartbeats 16000000
theorem own18_ct {L : List Rw} (hA0 : Arr (cx B0 old) H ad 38 enW L) (hrd : ∀ x ∈ L, Rd (cx B0 old) H x) (hlg : ∀ x ∈ L, x.r.a.light) (hl : L.length ≤ 1000) (hQ : ∀ w G Gr K, Own enW 38 K w G → (∀ x ∈ K, Rd (cx B0 old) Gr x) → K.map (·.r) = L.map (·.r) → Q w (G ++ (Gr ++ H))) :
    CallT (cx B0 old) (acall (cx B0 old) ansP (n + 4)) 18 [.slice ad L.length c] H Q := by
  refine call_in1 20 rfl Try.func18 rfl rfl ?_
  repeat (refine ZX ?_; try with_reducible intro _)
  refine loop_ind (ι := Nat × List Rw × Value × Hp × Hp) (0, [], .slice none 0 0, [], []) (fun j => L.length - j.1)
    (fun j => j.1 ≤ L.length ∧ j.2.1.length ≤ j.1 ∧ Own enW 38 j.2.1 j.2.2.1 j.2.2.2.1 ∧ (∀ x ∈ j.2.1, Rd (cx B0 old) j.2.2.2.2 x) ∧ j.2.1.map (·.r) = (L.take j.1).map (·.r))
    (fun j => [(4, .int .i64 (j.1 : Int)), (3, j.2.2.1), (0, .slice ad L.length c)])
    (fun j => j.2.2.2.1 ++ (j.2.2.2.2 ++ H)) ⟨Nat.zero_le _, Nat.zero_le _, .nil, fun x h => (by cases h), rfl⟩ (by repeat (first | exact SubL.nil | refine SubL.cons rfl ?_)) (by exact drop_auto) ?_
  rintro ⟨i, E, vl, G1, G2⟩ ⟨hi, hel, ho1, hrd1, hmp1⟩
  dsimp only at hi hel ho1 hrd1 hmp1 ⊢
  repeat (refine ZX ?_; try with_reducible intro _)
  refine ct_condT te_d rfl (fun hlt => ?_) (fun hlt => ?_)
  rotate_left
  · obtain rfl : i = L.length := by omega
    rw [List.take_length] at hmp1
    repeat (refine ZX ?_; try with_reducible intro _)
    exact re_1 rfl rfl (by exact drop_auto) (hQ _ G1 G2 E ho1 hrd1 hmp1)
  obtain ⟨y, hy⟩ : ∃ y, L[i]? = some y := ⟨_, List.getElem?_eq_getElem (by omega)⟩
  have hym := List.mem_of_getElem? hy
  obtain ⟨b1, o1, cs1, e1, _, _⟩ := hA0.els i y hy
  subst e1
  obtain ⟨hL0, _⟩ := hA0.rw' hy rfl (sz rfl)
  repeat (refine ZX ?_; try with_reducible intro _)
  refine rt_step rfl rfl rfl (st_call rfl rfl rfl rfl (own41W (n := n) y (hlg y hym) ((hrd y hym).weak (by exact drop_auto)) fun y9 G3 hy9 hyR => ?_))
  repeat (refine ZX ?_; try with_reducible intro _)
  refine rt_step rfl rfl rfl (st_appO (M := [y9]) (c := 1) (pre := _ :: G3) (Hs := G1) ho1 enW_len enW_one rfl rfl (ap rfl) (arrW_one enW_len (List.Mem.head _)) (Nat.le_trans (Nat.mul_le_mul_right _ (show 2 * (E.length + [y9].length) + 192 ≤ 6000 by rw [List.length_singleton]; omega)) (by decide)) fun v9 G9 o9 => ?_)
  repeat (refine ZX ?_; try with_reducible intro _)
  refine ⟨(i + 1, E ++ [y9], v9, G9, G3 ++ G2), ⟨by dsimp only; omega, by dsimp only; rw [List.length_append, List.length_singleton]; omega, o9, fun z hz => ?_, ?_⟩, by dsimp only; omega, by repeat (first | exact SubL.nil | refine SubL.cons rfl ?_), ?_⟩
  · rcases List.mem_append.1 hz with h | h
    · exact (hrd1 z h).weak (List.sublist_append_right _ _)
    · rw [List.mem_singleton.1 h]; exact hyR.weak (List.sublist_append_left _ _)
  · dsimp only
    rw [List.take_add_one, hy, List.map_append, List.map_append, hmp1, List.map_singleton, hy9]; rfl
  · dsimp only
    rw [List.append_assoc]
    exact drop_auto
theorem ownH19_ct (hA : ArrW (cx B0 old) H ad 2 encH R) (hl : R.length ≤ 2000) (hQ : ∀ v G, Own encH 2 R v G → Q v (G ++ H)) : CallT (cx B0 old) (acall (cx B0 old) ansP (n + 1)) 19 [.slice ad R.length c] H Q := by
  refine call_in1 6 rfl Try.func19 rfl rfl ?_
  repeat (refine ZX ?_; try with_reducible intro _)
  refine rt_step rfl rfl rfl (st_appO (M := R) (c := c) (pre := []) (Hs := [_]) (Own.emp _ _) encH_len encH_one rfl rfl (ap rfl) (hA.weak (List.sublist_cons_self _ _)) (Nat.le_trans (Nat.mul_le_mul_right _ (show 2 * (([] : List (Int × Int)).length + R.length) + 192 ≤ 6000 by rw [List.length_nil]; omega)) (by decide)) fun v3 H3 ho3 => ?_)
  repeat (refine ZX ?_; try with_reducible intro _)
  exact re_1 rfl rfl (List.Sublist.refl _) (hQ _ _ ho3)
theorem sameH25_ct (h1 : Arr (cx B0 old) H ad 2 encH R) (h2 : Arr (cx B0 old) H ad2 2 encH M) (hl : R.length ≤ 100000) (hyes : R = M → Q (.bool true) H) (hno : R ≠ M → Q (.bool false) H) :
    CallT (cx B0 old) (acall (cx B0 old) ansP (n + 1)) 25 [.slice ad R.length c, .slice ad2 M.length c2] H Q := by
  refine call_in2 26 rfl Try.func25 rfl rfl ?_
  repeat (refine ZX ?_; try with_reducible intro _)
  by_cases hlen : R.length = M.length
  rotate_left
  · rw [show ((R.length : Int) != (M.length : Int)) = true from bne_iff_ne.2 (by omega)]
    repeat (refine ZX ?_; try with_reducible intro _)
    exact re_1 rfl rfl (List.Sublist.refl _) (hno fun e => hlen (by rw [e]))
  rw [show ((R.length : Int) != (M.length : Int)) = false by rw [hlen]; exact bne_self_eq_false _]
  repeat (refine ZX ?_; try with_reducible intro _)
  refine loop_ind (ι := Nat) 0 (fun i => R.length - i) (fun i => i ≤ R.length ∧ R.take i = M.take i) (fun i => [(5, .int .i64 (i : Int)), (0, .slice ad R.length c), (1, .slice ad2 M.length c2)]) (fun _ => H) ⟨Nat.zero_le _, rfl⟩ (by repeat (first | exact SubL.nil | refine SubL.cons rfl ?_)) (by exact drop_auto) ?_
  rintro i ⟨hi, htk⟩
  repeat (refine ZX ?_; try with_reducible intro _)
  refine ct_condT te_d rfl (fun hc => ?_) (fun hc => ?_)
  · obtain ⟨x, hx⟩ : ∃ x, R[i]? = some x := ⟨_, List.getElem?_eq_getElem (by omega)⟩
    obtain ⟨y, hy⟩ : ∃ y, M[i]? = some y := ⟨_, List.getElem?_eq_getElem (by omega)⟩
    obtain ⟨b1, o1, e1, hL0⟩ := h1.ldW 49 hx rfl (sz rfl)
    obtain ⟨b2, o2, e2, hL1⟩ := h2.ldW 49 hy rfl (sz rfl)
    subst e1
    subst e2
    by_cases hxy : x = y
    · subst hxy
      have hs := leafH_eq x
      unfold encH at hL0 hL1 hs
      repeat (refine ZX ?_; try with_reducible intro _)
      refine ct_draw (masks := [0, 0, 3, 7, 0, 0, 48, 112, 255]) (plan := [0, 1, 2, 3, 4, 5, 6, 7, 8]) (E := []) (by kernel_rfl) (by kernel_rfl) (by kernel_rfl) (by kernel_rfl) ?_
      repeat (refine YX ?_)
      rw [hs]
      repeat (refine YX ?_)
      repeat (refine ZX ?_; try with_reducible intro _)
      refine ⟨i + 1, ⟨by omega, ?_⟩, by omega, by repeat (first | exact SubL.nil | refine SubL.cons rfl ?_), by exact drop_auto⟩
      rw [List.take_add_one, List.take_add_one, htk, hx, hy]
    · have hs := leafH_ne hxy
      unfold encH at hL0 hL1 hs
      repeat (refine ZX ?_; try with_reducible intro _)
      refine ct_draw (masks := [0, 0, 3, 7, 0, 0, 48, 112, 255]) (plan := [0, 1, 2, 3, 4, 5, 6, 7, 8]) (E := []) (by kernel_rfl) (by kernel_rfl) (by kernel_rfl) (by kernel_rfl) ?_
      repeat (refine YX ?_)
      rw [hs]
      repeat (refine YX ?_)
      repeat (refine ZX ?_; try with_reducible intro _)
      exact re_1 rfl rfl (by exact drop_auto) (hno fun e => hxy (by rw [e] at hx; exact Option.some.inj (hx.symm.trans hy)))
  · obtain rfl : i = R.length := by omega
    rw [List.take_length, List.take_of_length_le (by omega)] at htk
    repeat (refine ZX ?_; try with_reducible intro _)
    exact re_1 rfl rfl (by exact drop_auto) (hyes htk)
theorem light10_ct {L : List Rw} {n2 : Nat} (hw : Arr (cx B0 old) H ad 38 enW L) (hl : L.length ≤ 9223372036854775807) (hl2 : n2 ≤ 9223372036854775807) (hQ : ∀ t : Bool, (t = true → (∀ x ∈ L, ltR x.r) ∧ L.length ≤ 30 ∧ n2 ≤ 30) → Q (.bool t) H) :
    CallT (cx B0 old) (acall (cx B0 old) ansP (n + 3)) 10 [.slice ad L.length c, .slice ad2 n2 c2] H Q := by
  refine call_in2 12 rfl Try.func10 rfl rfl ?_
  repeat (refine ZX ?_; try with_reducible intro _)
  refine rt_step rfl rfl rfl (st_call rfl rfl rfl rfl (lights27_ct 30 hw hl fun t ht => ?_))
  repeat (refine ZX ?_; try with_reducible intro _)
  cases t with
  | false =>
    repeat (refine ZX ?_; try with_reducible intro _)
    exact re_1 rfl rfl (by exact drop_auto) (hQ _ fun h => (by cases h))
  | true =>
    obtain ⟨g1, g2⟩ := ht.1 rfl
    repeat (refine ZX ?_; try with_reducible intro _)
    exact re_1 rfl rfl (by exact drop_auto) (hQ _ fun h => ⟨g1, by omega, by have := of_decide_eq_true h; omega⟩)
end
end Go.Proofs.Ythcohphflhkceaa.Abs
