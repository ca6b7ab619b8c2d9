/- The program's nearer. -/
import Derived.Test.YtdaigoiekkofoaaMd
namespace Go.Proofs.Ytdaigoiekkofoaa.Abs
open Go
set_option linter.unusedVariables false
def nrB (d : List Int) (n : Nat) (e : Ed) : Bool := decide (d.getD n (-1) = d.getD e.n.toNat (-1) + e.c)
def edOk (M : Nat) (e : Ed) : Prop := 0 ≤ e.n ∧ e.n < M ∧ 1 ≤ e.c ∧ e.c ≤ 1000
theorem edL_ok {M : Nat} {L : List Ln} {U : List Bool} (hok : netOk M L U) (n : Nat) : ∀ i, ∀ e ∈ edL L U n i, edOk M e
  | 0, e, h => by cases h
  | i + 1, e, h => by
    rw [edL] at h
    rcases List.mem_append.1 h with h | h
    · exact edL_ok hok n i e h
    · unfold edOf at h
      split at h
      · rename_i x hx hu
        have hg := hok.2.2.2.2 x (List.mem_of_getElem? hx)
        unfold goodL at hg
        split at h
        · rw [List.mem_singleton] at h; subst h; unfold edOk; dsimp only; omega
        · split at h
          · rw [List.mem_singleton] at h; subst h; unfold edOk; dsimp only; omega
          · cases h
      · cases h
/-- The links that nearer picks are those of Next. -/
theorem near_nx {M t : Nat} {L : List Ln} {U : List Bool} {d : List Int} (hok : netOk M L U) (hd : IsDist (Rn L U) M t d) {n : Nat} (hn : n < M) : ∀ i, i ≤ L.length → ((edL L U n i).filter (nrB d n)).map (·.l) = nxL L U d n i
  | 0, _ => rfl
  | i + 1, hi => by
    rw [edL, List.filter_append, List.map_append, near_nx hok hd hn i (by omega), nxL_succ]
    congr 1
    obtain ⟨x, hx⟩ : ∃ x, L[i]? = some x := ⟨_, List.getElem?_eq_getElem (by omega)⟩
    obtain ⟨u, hu⟩ : ∃ u, U[i]? = some u := ⟨_, List.getElem?_eq_getElem (by have := hok.2.2.2.1; omega)⟩
    have hg := hok.2.2.2.2 x (List.mem_of_getElem? hx)
    unfold goodL at hg
    have hlow := fun n => hd.low (n := n)
    cases u with
    | false =>
      rw [nxB_down hx hu]
      have : edOf L U n i = [] := by unfold edOf; rw [hx, hu]
      rw [this]; rfl
    | true =>
      have e2 : edOf L U n i = if x.a = n then [⟨i, x.b, x.c⟩] else if x.b = n then [⟨i, x.a, x.c⟩] else [] := by unfold edOf; rw [hx, hu]
      have hR : ∀ u v : Nat, (x.a = u ∧ x.b = v ∨ x.a = v ∧ x.b = u) → Rn L U u v x.c.toNat := fun u v h => ⟨i, x, hx, hu, by omega, h⟩
      have hba : x.a = n → d.getD n (-1) = d.getD x.b.toNat (-1) + x.c → 0 ≤ d.getD x.b.toNat (-1) := fun h1 h2 => by
        have := hlow x.b.toNat
        have h3 := hd.le (u := n) (v := x.b.toNat) (c := x.c.toNat) hn (by omega) (hR _ _ (.inl ⟨h1, by omega⟩))
        by_cases g : 0 ≤ d.getD n (-1)
        · exact (h3 g).1
        · omega
      have hbb : x.b = n → d.getD n (-1) = d.getD x.a.toNat (-1) + x.c → 0 ≤ d.getD x.a.toNat (-1) := fun h1 h2 => by
        have := hlow x.a.toNat
        have h3 := hd.le (u := n) (v := x.a.toNat) (c := x.c.toNat) hn (by omega) (hR _ _ (.inr ⟨by omega, h1⟩))
        by_cases g : 0 ≤ d.getD n (-1)
        · exact (h3 g).1
        · omega
      rw [e2]
      by_cases h1 : x.a = n
      · rw [if_pos h1]
        by_cases h2 : d.getD n (-1) = d.getD x.b.toNat (-1) + x.c
        · rw [(nxB_iff hx hu).2 (.inl ⟨h1, hba h1 h2, h2.symm⟩)]
          rw [List.filter_cons_of_pos (show nrB d n _ = true from decide_eq_true h2)]
          rfl
        · rw [show nxB L U d n i = false from by rw [Bool.eq_false_iff, ne_eq, nxB_iff hx hu]; omega]
          rw [List.filter_cons_of_neg (by rw [show nrB d n _ = false from decide_eq_false h2]; decide)]
          rfl
      · rw [if_neg h1]
        by_cases h3 : x.b = n
        · rw [if_pos h3]
          by_cases h2 : d.getD n (-1) = d.getD x.a.toNat (-1) + x.c
          · rw [(nxB_iff hx hu).2 (.inr ⟨h1, h3, hbb h3 h2, h2.symm⟩)]
            rw [List.filter_cons_of_pos (show nrB d n _ = true from decide_eq_true h2)]
            rfl
          · rw [show nxB L U d n i = false from by rw [Bool.eq_false_iff, ne_eq, nxB_iff hx hu]; omega]
            rw [List.filter_cons_of_neg (by rw [show nrB d n _ = false from decide_eq_false h2]; decide)]
            rfl
        · rw [if_neg h3, show nxB L U d n i = false from by rw [Bool.eq_false_iff, ne_eq, nxB_iff hx hu]; omega]
          rfl
section
variable {B0 : Nat} {old : Nat → Option (List Value)} {n : Nat} {H : Hp} {Q : Value → Hp → Prop}
set_option maxRecDepth 10000
set_option maxHeartbeats 4000000
theorem nearer_ct (E : List Ed) (ad : Option Addr) (c b M k : Nat) (d : List Int) (hE : Arr (cx B0 old) H ad 3 encE E) (hl : E.length ≤ 1000) (hd : d.length = M) (hm : (b, AObj.row (d.map vI) 1 false) ∈ H) (hk : k < M) (hbd : ∀ n, d.getD n (-1) ≤ 31000) (hlow : ∀ n, -1 ≤ d.getD n (-1)) (hok : ∀ e ∈ E, edOk M e)
    (hQ : ∀ v Hs, Own encE 3 (E.filter (nrB d k)) v Hs → Q v (Hs ++ H)) :
    CallT (cx B0 old) (acall (cx B0 old) ansP (n + 1)) 39 [.slice ad E.length c, .slice (some ⟨b, 0, none⟩) M M, .int .i64 k] H Q := by
  refine call_in3 35 rfl Try.func39 rfl rfl ?_
  have hA0 := fun H' j => ldM (C := cx B0 old) (f := vI) (L := d) (t := 3) (b := b) (es := 1) (el := false) (-1) rfl (sz rfl) H' j
  repeat (first | (first | refine rt_nil ?_ | (refine isRun ?_; first | refine x1 ?_ | refine x2 ?_ | refine x3 fun _ => ?_ | refine x4 fun _ => ?_ | refine x5 fun _ => ?_ | (refine rt_step rfl rfl rfl ?_; first | refine st_buildSlice rfl (zr rfl) rfl rfl rfl rfl rfl rfl fun _ => ?_ | refine st_A rfl rfl (fun _ => rfl) rfl fun _ => ?_) | refine x8 ?_ | refine rt_skip rfl rfl rfl ?_ | refine rt_skip0 rfl rfl ?_)) | (first | refine sq_n ?_ | refine sq_r ?_ | refine sq_e ?_ | refine bk_n ?_ | refine bk_r ?_ | refine bk_e rfl ?_ | refine bk_x rfl ?_ | refine ct_seq ?_ | refine ct_region rfl ?_ | refine ct_skip ?_ | refine ct_label ?_ | refine ct_block ?_ | refine ct_exit ?_ | refine ct_ret ?_ | refine ct_scope ?_ | refine ct_true rfl ?_ | refine ct_false rfl ?_ | refine lt_step ?_))
  refine loop_ind (ι := Nat × Value × Hp) (0, .slice none 0 0, []) (fun i => E.length - i.1) (fun i => i.1 ≤ E.length ∧ Own encE 3 ((E.take i.1).filter (nrB d k)) i.2.1 i.2.2)
    (fun i => [(12, .int .i64 (i.1 : Int)), (11, .int .i64 E.length), (10, .slice ad E.length c), (7, i.2.1), (1, .slice (some ⟨b, 0, none⟩) M M), (2, .int .i64 k)])
    (fun i => i.2.2 ++ H) ⟨Nat.zero_le _, Own.nil⟩ (by repeat (first | exact SubL.nil | refine SubL.cons rfl ?_)) (by exact drop_auto) ?_
  rintro ⟨i, v, Hs⟩ ⟨hi, ho⟩
  simp only at hi ho ⊢
  repeat (first | (first | refine rt_nil ?_ | (refine isRun ?_; first | refine x1 ?_ | refine x2 ?_ | refine x3 fun _ => ?_ | refine x4 fun _ => ?_ | refine x5 fun _ => ?_ | (refine rt_step rfl rfl rfl ?_; first | refine st_buildSlice rfl (zr rfl) rfl rfl rfl rfl rfl rfl fun _ => ?_ | refine st_A rfl rfl (fun _ => rfl) rfl fun _ => ?_) | refine x8 ?_ | refine rt_skip rfl rfl rfl ?_ | refine rt_skip0 rfl rfl ?_)) | (first | refine sq_n ?_ | refine sq_r ?_ | refine sq_e ?_ | refine bk_n ?_ | refine bk_r ?_ | refine bk_e rfl ?_ | refine bk_x rfl ?_ | refine ct_seq ?_ | refine ct_region rfl ?_ | refine ct_skip ?_ | refine ct_label ?_ | refine ct_block ?_ | refine ct_exit ?_ | refine ct_ret ?_ | refine ct_scope ?_ | refine ct_true rfl ?_ | refine ct_false rfl ?_ | refine lt_step ?_))
  refine ct_condT te_d rfl (fun hc => ?_) (fun hc => ?_)
  rotate_left
  · have hc : i = E.length := by omega
    subst hc
    rw [List.take_length] at ho
    repeat (first | (first | refine rt_nil ?_ | (refine isRun ?_; first | refine x1 ?_ | refine x2 ?_ | refine x3 fun _ => ?_ | refine x4 fun _ => ?_ | refine x5 fun _ => ?_ | (refine rt_step rfl rfl rfl ?_; first | refine st_buildSlice rfl (zr rfl) rfl rfl rfl rfl rfl rfl fun _ => ?_ | refine st_A rfl rfl (fun _ => rfl) rfl fun _ => ?_) | refine x8 ?_ | refine rt_skip rfl rfl rfl ?_ | refine rt_skip0 rfl rfl ?_)) | (first | refine sq_n ?_ | refine sq_r ?_ | refine sq_e ?_ | refine bk_n ?_ | refine bk_r ?_ | refine bk_e rfl ?_ | refine bk_x rfl ?_ | refine ct_seq ?_ | refine ct_region rfl ?_ | refine ct_skip ?_ | refine ct_label ?_ | refine ct_block ?_ | refine ct_exit ?_ | refine ct_ret ?_ | refine ct_scope ?_ | refine ct_true rfl ?_ | refine ct_false rfl ?_ | refine lt_step ?_))
    exact re_1 rfl rfl (by exact drop_auto) (hQ v Hs ho)
  obtain ⟨x, hx⟩ : ∃ x, E[i]? = some x := ⟨_, List.getElem?_eq_getElem (by omega)⟩
  have hxo := hok x (List.mem_of_getElem? hx)
  unfold edOk at hxo
  obtain ⟨b1, o1, rfl, hL0⟩ := hE.ldW 56 hx rfl (sz rfl)
  have h1 := hbd x.n.toNat
  have h2 := hlow x.n.toNat
  have htk : (E.take (i + 1)).filter (nrB d k) = (E.take i).filter (nrB d k) ++ (if nrB d k x then [x] else []) := by
    rw [List.take_add_one, hx, List.filter_append]
    congr 1
    cases h : nrB d k x <;> simp [h]
  have hfl := List.length_filter_le (nrB d k) (E.take i)
  rw [List.length_take] at hfl
  repeat (first | (first | refine rt_nil ?_ | (refine isRun ?_; first | refine x1 ?_ | refine x2 ?_ | refine x3 fun _ => ?_ | refine x4 fun _ => ?_ | refine x5 fun _ => ?_ | (refine rt_step rfl rfl rfl ?_; first | refine st_buildSlice rfl (zr rfl) rfl rfl rfl rfl rfl rfl fun _ => ?_ | refine st_A rfl rfl (fun _ => rfl) rfl fun _ => ?_) | refine x8 ?_ | refine rt_skip rfl rfl rfl ?_ | refine rt_skip0 rfl rfl ?_)) | (first | refine sq_n ?_ | refine sq_r ?_ | refine sq_e ?_ | refine bk_n ?_ | refine bk_r ?_ | refine bk_e rfl ?_ | refine bk_x rfl ?_ | refine ct_seq ?_ | refine ct_region rfl ?_ | refine ct_skip ?_ | refine ct_label ?_ | refine ct_block ?_ | refine ct_exit ?_ | refine ct_ret ?_ | refine ct_scope ?_ | refine ct_true rfl ?_ | refine ct_false rfl ?_ | refine lt_step ?_))
  refine ct_draw (masks := [0, 0, 3, 7, 0, 0, 32, 112, 240, 0, 512, 2032, 4095]) (plan := [0, 1, 2, 3, 4, 5, 6, 7, 8, 9, 10, 11, 12]) (E := []) (by kernel_rfl) (by kernel_rfl) (by kernel_rfl) (by kernel_rfl) ?_
  repeat (first | refine pl_nil ?_ | (refine isPlan ?_; first | refine y1 ?_ | refine y2 ?_ | refine pl_skip rfl rfl rfl rfl rfl ?_ | refine pl_skip0 rfl rfl rfl rfl ?_))
  repeat (first | (first | refine rt_nil ?_ | (refine isRun ?_; first | refine x1 ?_ | refine x2 ?_ | refine x3 fun _ => ?_ | refine x4 fun _ => ?_ | refine x5 fun _ => ?_ | (refine rt_step rfl rfl rfl ?_; first | refine st_buildSlice rfl (zr rfl) rfl rfl rfl rfl rfl rfl fun _ => ?_ | refine st_A rfl rfl (fun _ => rfl) rfl fun _ => ?_) | refine x8 ?_ | refine rt_skip rfl rfl rfl ?_ | refine rt_skip0 rfl rfl ?_)) | (first | refine sq_n ?_ | refine sq_r ?_ | refine sq_e ?_ | refine bk_n ?_ | refine bk_r ?_ | refine bk_e rfl ?_ | refine bk_x rfl ?_ | refine ct_seq ?_ | refine ct_region rfl ?_ | refine ct_skip ?_ | refine ct_label ?_ | refine ct_block ?_ | refine ct_exit ?_ | refine ct_ret ?_ | refine ct_scope ?_ | refine ct_true rfl ?_ | refine ct_false rfl ?_ | refine lt_step ?_))
  refine ct_condT te_e rfl (fun hb => ?_) (fun hb => ?_)
  · rw [show nrB d k x = true from by unfold nrB; exact decide_eq_true hb, if_pos rfl] at htk
    repeat (first | (first | refine rt_nil ?_ | (refine isRun ?_; first | refine x1 ?_ | refine x2 ?_ | refine x3 fun _ => ?_ | refine x4 fun _ => ?_ | refine x5 fun _ => ?_ | (refine rt_step rfl rfl rfl ?_; first | refine st_buildSlice rfl (zr rfl) rfl rfl rfl rfl rfl rfl fun _ => ?_ | refine st_A rfl rfl (fun _ => rfl) rfl fun _ => ?_) | refine x8 ?_ | refine rt_skip rfl rfl rfl ?_ | refine rt_skip0 rfl rfl ?_)) | (first | refine sq_n ?_ | refine sq_r ?_ | refine sq_e ?_ | refine bk_n ?_ | refine bk_r ?_ | refine bk_e rfl ?_ | refine bk_x rfl ?_ | refine ct_seq ?_ | refine ct_region rfl ?_ | refine ct_skip ?_ | refine ct_label ?_ | refine ct_block ?_ | refine ct_exit ?_ | refine ct_ret ?_ | refine ct_scope ?_ | refine ct_true rfl ?_ | refine ct_false rfl ?_ | refine lt_step ?_))
    refine rt_step rfl rfl rfl (st_appP (M := [x]) (c := 1) (pre := [_, _]) ho encE_len encE_one rfl rfl (ap rfl) (arrW_one encE_len hm0) (by show _ * (24 + 1) ≤ _; simp only [List.length_singleton]; omega) fun v' Hs' ho' => ?_)
    repeat (first | (first | refine rt_nil ?_ | (refine isRun ?_; first | refine x1 ?_ | refine x2 ?_ | refine x3 fun _ => ?_ | refine x4 fun _ => ?_ | refine x5 fun _ => ?_ | (refine rt_step rfl rfl rfl ?_; first | refine st_buildSlice rfl (zr rfl) rfl rfl rfl rfl rfl rfl fun _ => ?_ | refine st_A rfl rfl (fun _ => rfl) rfl fun _ => ?_) | refine x8 ?_ | refine rt_skip rfl rfl rfl ?_ | refine rt_skip0 rfl rfl ?_)) | (first | refine sq_n ?_ | refine sq_r ?_ | refine sq_e ?_ | refine bk_n ?_ | refine bk_r ?_ | refine bk_e rfl ?_ | refine bk_x rfl ?_ | refine ct_seq ?_ | refine ct_region rfl ?_ | refine ct_skip ?_ | refine ct_label ?_ | refine ct_block ?_ | refine ct_exit ?_ | refine ct_ret ?_ | refine ct_scope ?_ | refine ct_true rfl ?_ | refine ct_false rfl ?_ | refine lt_step ?_))
    refine ⟨(i + 1, v', Hs'), ⟨by omega, by rw [htk]; exact ho'⟩, by dsimp only; omega, by repeat (first | exact SubL.nil | refine SubL.cons rfl ?_), by exact drop_auto⟩
  · rw [show nrB d k x = false from by unfold nrB; exact decide_eq_false hb, if_neg (by decide), List.append_nil] at htk
    repeat (first | (first | refine rt_nil ?_ | (refine isRun ?_; first | refine x1 ?_ | refine x2 ?_ | refine x3 fun _ => ?_ | refine x4 fun _ => ?_ | refine x5 fun _ => ?_ | (refine rt_step rfl rfl rfl ?_; first | refine st_buildSlice rfl (zr rfl) rfl rfl rfl rfl rfl rfl fun _ => ?_ | refine st_A rfl rfl (fun _ => rfl) rfl fun _ => ?_) | refine x8 ?_ | refine rt_skip rfl rfl rfl ?_ | refine rt_skip0 rfl rfl ?_)) | (first | refine sq_n ?_ | refine sq_r ?_ | refine sq_e ?_ | refine bk_n ?_ | refine bk_r ?_ | refine bk_e rfl ?_ | refine bk_x rfl ?_ | refine ct_seq ?_ | refine ct_region rfl ?_ | refine ct_skip ?_ | refine ct_label ?_ | refine ct_block ?_ | refine ct_exit ?_ | refine ct_ret ?_ | refine ct_scope ?_ | refine ct_true rfl ?_ | refine ct_false rfl ?_ | refine lt_step ?_))
    refine ⟨(i + 1, v, Hs), ⟨by omega, by rw [htk]; exact ho⟩, by dsimp only; omega, by repeat (first | exact SubL.nil | refine SubL.cons rfl ?_), by exact drop_auto⟩
end
end Go.Proofs.Ytdaigoiekkofoaa.Abs

/- The program's parents; Reverse. -/
namespace Go.Proofs.Ytdaigoiekkofoaa.Abs
open Go
set_option linter.unusedVariables false
theorem Rows.arr {α : Type} {C : Ctx} {en : α → List Value} {k : Nat} {LL : List (List α)} {vs : List Value} {Hs H : Hp} (h : Rows en k LL vs Hs) (hl : ∀ x, (en x).length = k) (hs : Hs.Sublist H) {i : Nat} {L : List α} (hi : LL[i]? = some L) :
    ∃ ad c, vs[i]? = some (.slice ad L.length c) ∧ Arr C H ad k en L := by
  obtain ⟨v, A, Hi, B, e1, e2, ho, _⟩ := h.at hi
  obtain ⟨ad, c, rfl, ha⟩ := ho.arrW (C := C) hl
  subst e2
  exact ⟨ad, c, e1, ((ha A B).arr hl).weak hs⟩
section
variable {B0 : Nat} {old : Nat → Option (List Value)} {n : Nat} {H : Hp} {Q : Value → Hp → Prop}
set_option maxRecDepth 10000
set_option maxHeartbeats 4000000
theorem parents_ct (M t b bo : Nat) (L : List Ln) (U : List Bool) (d : List Int) (vs : List Value) (Hs : Hp) (hok : netOk M L U) (hd : IsDist (Rn L U) M t d) (hr : Rows encE 3 (edA L U M L.length) vs Hs) (hs : Hs.Sublist H) (hm : (b, AObj.row (d.map vI) 1 false) ∈ H) (hmo : (bo, AObj.row (vs.map vV) 1 false) ∈ H)
    (hQ : ∀ bl, Q (.slice (some ⟨bl, 0, none⟩) M M) ((bl, .row ((pars L U d M).map vI) 1 false) :: H)) :
    CallT (cx B0 old) (acall (cx B0 old) ansP (n + 2)) 44 [.slice (some ⟨bo, 0, none⟩) M M, .slice (some ⟨b, 0, none⟩) M M] H Q := by
  have hM : M ≤ 32 := by have := hok.2.1; omega
  have hdl := hd.1
  have hLl : L.length ≤ 128 := hok.2.2.1
  have hbd := hd.bound (fun u v c hr => hr.all hok) hM
  have hlow := fun n => hd.low (n := n)
  refine call_in2 38 rfl Try.func44 rfl rfl ?_
  repeat (first | (first | refine rt_nil ?_ | (refine isRun ?_; first | refine x1 ?_ | refine x2 ?_ | refine x3 fun _ => ?_ | refine x4 fun _ => ?_ | refine x5 fun _ => ?_ | (refine rt_step rfl rfl rfl ?_; first | refine st_buildSlice rfl (zr rfl) rfl rfl rfl rfl rfl rfl fun _ => ?_ | refine st_A rfl rfl (fun _ => rfl) rfl fun _ => ?_) | refine x8 ?_ | refine rt_skip rfl rfl rfl ?_ | refine rt_skip0 rfl rfl ?_)) | (first | refine sq_n ?_ | refine sq_r ?_ | refine sq_e ?_ | refine bk_n ?_ | refine bk_r ?_ | refine bk_e rfl ?_ | refine bk_x rfl ?_ | refine ct_seq ?_ | refine ct_region rfl ?_ | refine ct_skip ?_ | refine ct_label ?_ | refine ct_block ?_ | refine ct_exit ?_ | refine ct_ret ?_ | refine ct_scope ?_ | refine ct_true rfl ?_ | refine ct_false rfl ?_ | refine lt_step ?_))
  refine rt_step rfl rfl rfl (st_makeM vI 0 rfl rfl rfl rfl rfl (Nat.ble_eq_true_of_le (by show 8 * M ≤ _; omega)) (Nat.ble_eq_true_of_le (by omega)) rfl fun bl => ?_)
  repeat (first | (first | refine rt_nil ?_ | (refine isRun ?_; first | refine x1 ?_ | refine x2 ?_ | refine x3 fun _ => ?_ | refine x4 fun _ => ?_ | refine x5 fun _ => ?_ | (refine rt_step rfl rfl rfl ?_; first | refine st_buildSlice rfl (zr rfl) rfl rfl rfl rfl rfl rfl fun _ => ?_ | refine st_A rfl rfl (fun _ => rfl) rfl fun _ => ?_) | refine x8 ?_ | refine rt_skip rfl rfl rfl ?_ | refine rt_skip0 rfl rfl ?_)) | (first | refine sq_n ?_ | refine sq_r ?_ | refine sq_e ?_ | refine bk_n ?_ | refine bk_r ?_ | refine bk_e rfl ?_ | refine bk_x rfl ?_ | refine ct_seq ?_ | refine ct_region rfl ?_ | refine ct_skip ?_ | refine ct_label ?_ | refine ct_block ?_ | refine ct_exit ?_ | refine ct_ret ?_ | refine ct_scope ?_ | refine ct_true rfl ?_ | refine ct_false rfl ?_ | refine lt_step ?_))
  refine loop_ind (ι := Nat × List Int) (0, List.replicate M 0) (fun i => M - i.1) (fun i => i.1 ≤ M ∧ i.2.length = M ∧ ∀ j, j < i.1 → i.2[j]? = some (par L U d j))
    (fun i => [(13, .int .i64 (i.1 : Int)), (12, .int .i64 M), (5, .slice (some ⟨bl, 0, none⟩) M M), (0, .slice (some ⟨bo, 0, none⟩) M M), (1, .slice (some ⟨b, 0, none⟩) M M)])
    (fun i => (bl, .row (i.2.map vI) 1 false) :: H) ⟨Nat.zero_le _, by simp, fun j hj => absurd hj (by simp)⟩ (by repeat (first | exact SubL.nil | refine SubL.cons rfl ?_)) (by exact drop_auto) ?_
  rintro ⟨i, l⟩ ⟨hi, hll, hall⟩
  simp only at hi hll hall ⊢
  repeat (first | (first | refine rt_nil ?_ | (refine isRun ?_; first | refine x1 ?_ | refine x2 ?_ | refine x3 fun _ => ?_ | refine x4 fun _ => ?_ | refine x5 fun _ => ?_ | (refine rt_step rfl rfl rfl ?_; first | refine st_buildSlice rfl (zr rfl) rfl rfl rfl rfl rfl rfl fun _ => ?_ | refine st_A rfl rfl (fun _ => rfl) rfl fun _ => ?_) | refine x8 ?_ | refine rt_skip rfl rfl rfl ?_ | refine rt_skip0 rfl rfl ?_)) | (first | refine sq_n ?_ | refine sq_r ?_ | refine sq_e ?_ | refine bk_n ?_ | refine bk_r ?_ | refine bk_e rfl ?_ | refine bk_x rfl ?_ | refine ct_seq ?_ | refine ct_region rfl ?_ | refine ct_skip ?_ | refine ct_label ?_ | refine ct_block ?_ | refine ct_exit ?_ | refine ct_ret ?_ | refine ct_scope ?_ | refine ct_true rfl ?_ | refine ct_false rfl ?_ | refine lt_step ?_))
  refine ct_condT te_d rfl (fun hc => ?_) (fun hc => ?_)
  rotate_left
  · have hc : i = M := by omega
    subst hc
    have e : l = pars L U d i := List.ext_getElem? fun j => by
      by_cases g : j < i
      · rw [hall j g]
        unfold pars
        rw [List.getElem?_map, List.getElem?_range g]
        rfl
      · rw [List.getElem?_eq_none (by omega), List.getElem?_eq_none (by rw [pars_length]; omega)]
    rw [e]
    repeat (first | (first | refine rt_nil ?_ | (refine isRun ?_; first | refine x1 ?_ | refine x2 ?_ | refine x3 fun _ => ?_ | refine x4 fun _ => ?_ | refine x5 fun _ => ?_ | (refine rt_step rfl rfl rfl ?_; first | refine st_buildSlice rfl (zr rfl) rfl rfl rfl rfl rfl rfl fun _ => ?_ | refine st_A rfl rfl (fun _ => rfl) rfl fun _ => ?_) | refine x8 ?_ | refine rt_skip rfl rfl rfl ?_ | refine rt_skip0 rfl rfl ?_)) | (first | refine sq_n ?_ | refine sq_r ?_ | refine sq_e ?_ | refine bk_n ?_ | refine bk_r ?_ | refine bk_e rfl ?_ | refine bk_x rfl ?_ | refine ct_seq ?_ | refine ct_region rfl ?_ | refine ct_skip ?_ | refine ct_label ?_ | refine ct_block ?_ | refine ct_exit ?_ | refine ct_ret ?_ | refine ct_scope ?_ | refine ct_true rfl ?_ | refine ct_false rfl ?_ | refine lt_step ?_))
    exact re_1 rfl rfl (by exact drop_auto) (hQ bl)
  have hc' : i < M := by omega
  obtain ⟨ade, ce, hve, hae⟩ := hr.arr (C := cx B0 old) encE_len hs (edA_get (L := L) (U := U) (i := L.length) hc')
  have hL0 : ∀ H', ((bl, AObj.row ((l.set i (-1)).map vI) 1 false) :: H).Sublist H' → LdT (cx B0 old) 52 H' bo (0 + i * 1) (.slice ade (edL L U i L.length).length ce) := fun H' hs' => ld1 (.own _ _ (hs'.subset (List.Mem.tail _ hmo))) rfl (sz rfl) (by rw [Nat.zero_add, Nat.mul_one, List.getElem?_map, hve]; rfl)
  have hel := edL_len L U i L.length
  repeat (first | (first | refine rt_nil ?_ | (refine isRun ?_; first | refine x1 ?_ | refine x2 ?_ | refine x3 fun _ => ?_ | refine x4 fun _ => ?_ | refine x5 fun _ => ?_ | (refine rt_step rfl rfl rfl ?_; first | refine st_buildSlice rfl (zr rfl) rfl rfl rfl rfl rfl rfl fun _ => ?_ | refine st_A rfl rfl (fun _ => rfl) rfl fun _ => ?_) | refine x8 ?_ | refine rt_skip rfl rfl rfl ?_ | refine rt_skip0 rfl rfl ?_)) | (first | refine sq_n ?_ | refine sq_r ?_ | refine sq_e ?_ | refine bk_n ?_ | refine bk_r ?_ | refine bk_e rfl ?_ | refine bk_x rfl ?_ | refine ct_seq ?_ | refine ct_region rfl ?_ | refine ct_skip ?_ | refine ct_label ?_ | refine ct_block ?_ | refine ct_exit ?_ | refine ct_ret ?_ | refine ct_scope ?_ | refine ct_true rfl ?_ | refine ct_false rfl ?_ | refine lt_step ?_))
  refine rt_step rfl rfl rfl (st_call rfl rfl rfl rfl (nearer_ct (edL L U i L.length) ade ce b M i d (hae.weak (by exact drop_auto)) (by omega) hdl (List.Mem.tail _ hm) hc' hbd hlow (edL_ok hok i L.length) fun v Hn hn => ?_))
  have hnx := near_nx hok hd hc' L.length (Nat.le_refl _)
  obtain ⟨adn, cn, rfl, han⟩ := hn.arrW (C := cx B0 old) encE_len
  obtain ⟨F, hF⟩ : ∃ F, F = (edL L U i L.length).filter (nrB d i) := ⟨_, rfl⟩
  rw [← hF] at hnx hn han ⊢
  repeat (first | (first | refine rt_nil ?_ | (refine isRun ?_; first | refine x1 ?_ | refine x2 ?_ | refine x3 fun _ => ?_ | refine x4 fun _ => ?_ | refine x5 fun _ => ?_ | (refine rt_step rfl rfl rfl ?_; first | refine st_buildSlice rfl (zr rfl) rfl rfl rfl rfl rfl rfl fun _ => ?_ | refine st_A rfl rfl (fun _ => rfl) rfl fun _ => ?_) | refine x8 ?_ | refine rt_skip rfl rfl rfl ?_ | refine rt_skip0 rfl rfl ?_)) | (first | refine sq_n ?_ | refine sq_r ?_ | refine sq_e ?_ | refine bk_n ?_ | refine bk_r ?_ | refine bk_e rfl ?_ | refine bk_x rfl ?_ | refine ct_seq ?_ | refine ct_region rfl ?_ | refine ct_skip ?_ | refine ct_label ?_ | refine ct_block ?_ | refine ct_exit ?_ | refine ct_ret ?_ | refine ct_scope ?_ | refine ct_true rfl ?_ | refine ct_false rfl ?_ | refine lt_step ?_))
  have hset : ∀ (l' : List Int), l'.length = M → (∀ j, j < i → l'[j]? = some (par L U d j)) → l'[i]? = some (par L U d i) → ∀ j, j < i + 1 → l'[j]? = some (par L U d j) := fun l' h1 h2 h3 j hj => by
    by_cases e : j = i
    · subst e; exact h3
    · exact h2 j (by omega)
  refine ct_condT te_d rfl (fun hz => ?_) (fun hz => ?_)
  · obtain ⟨e0, F', rfl⟩ : ∃ a r, F = a :: r := by
      cases F with
      | nil => simp at hz
      | cons a r => exact ⟨a, r, rfl⟩
    have hp : par L U d i = e0.l := by unfold par; rw [← hnx]; rfl
    obtain ⟨b5, o5, rfl, hL0⟩ := ((han [] ((bl, AObj.row ((l.set i (-1)).map vI) 1 false) :: H)).arr encE_len).ldF 3 0 (i := 0) rfl rfl rfl rfl (sz rfl)
    have hll' : (l.set ((i : Int)).toNat (-1)).length = M := by rw [List.length_set, hll]
    repeat (first | (first | refine rt_nil ?_ | (refine isRun ?_; first | refine x1 ?_ | refine x2 ?_ | refine x3 fun _ => ?_ | refine x4 fun _ => ?_ | refine x5 fun _ => ?_ | (refine rt_step rfl rfl rfl ?_; first | refine st_buildSlice rfl (zr rfl) rfl rfl rfl rfl rfl rfl fun _ => ?_ | refine st_A rfl rfl (fun _ => rfl) rfl fun _ => ?_) | refine x8 ?_ | refine rt_skip rfl rfl rfl ?_ | refine rt_skip0 rfl rfl ?_)) | (first | refine sq_n ?_ | refine sq_r ?_ | refine sq_e ?_ | refine bk_n ?_ | refine bk_r ?_ | refine bk_e rfl ?_ | refine bk_x rfl ?_ | refine ct_seq ?_ | refine ct_region rfl ?_ | refine ct_skip ?_ | refine ct_label ?_ | refine ct_block ?_ | refine ct_exit ?_ | refine ct_ret ?_ | refine ct_scope ?_ | refine ct_true rfl ?_ | refine ct_false rfl ?_ | refine lt_step ?_))
    refine ⟨(i + 1, (l.set i (-1)).set i e0.l), ⟨by omega, by rw [List.length_set, List.length_set, hll], hset _ (by rw [List.length_set, List.length_set, hll]) (fun j hj => by rw [List.getElem?_set, if_neg (by omega), List.getElem?_set, if_neg (by omega)]; exact hall j hj) (by rw [List.getElem?_set, if_pos rfl, if_pos (by rw [List.length_set]; omega), hp])⟩, by dsimp only; omega, by repeat (first | exact SubL.nil | refine SubL.cons rfl ?_), by exact drop_auto⟩
  · have hF0 : F = [] := by
      cases F with
      | nil => rfl
      | cons a r => simp only [List.length_cons] at hz; omega
    have hp : par L U d i = -1 := by unfold par; rw [← hnx, hF0]; rfl
    repeat (first | (first | refine rt_nil ?_ | (refine isRun ?_; first | refine x1 ?_ | refine x2 ?_ | refine x3 fun _ => ?_ | refine x4 fun _ => ?_ | refine x5 fun _ => ?_ | (refine rt_step rfl rfl rfl ?_; first | refine st_buildSlice rfl (zr rfl) rfl rfl rfl rfl rfl rfl fun _ => ?_ | refine st_A rfl rfl (fun _ => rfl) rfl fun _ => ?_) | refine x8 ?_ | refine rt_skip rfl rfl rfl ?_ | refine rt_skip0 rfl rfl ?_)) | (first | refine sq_n ?_ | refine sq_r ?_ | refine sq_e ?_ | refine bk_n ?_ | refine bk_r ?_ | refine bk_e rfl ?_ | refine bk_x rfl ?_ | refine ct_seq ?_ | refine ct_region rfl ?_ | refine ct_skip ?_ | refine ct_label ?_ | refine ct_block ?_ | refine ct_exit ?_ | refine ct_ret ?_ | refine ct_scope ?_ | refine ct_true rfl ?_ | refine ct_false rfl ?_ | refine lt_step ?_))
    refine ⟨(i + 1, l.set i (-1)), ⟨by omega, by rw [List.length_set, hll], hset _ (by rw [List.length_set, hll]) (fun j hj => by rw [List.getElem?_set, if_neg (by omega)]; exact hall j hj) (by rw [List.getElem?_set, if_pos rfl, if_pos (by omega), hp])⟩, by dsimp only; omega, by repeat (first | exact SubL.nil | refine SubL.cons rfl ?_), by exact drop_auto⟩
theorem reverse_ct (l : List Int) (v : Value) (Hs : Hp) (ho : Own encI 1 l v Hs) (hl : l.length ≤ 100000) (hQ : ∀ w Hs', Own encI 1 l.reverse v Hs' → Q w (Hs' ++ H)) :
    CallT (cx B0 old) (acall (cx B0 old) ansP (n + 1)) 45 [v] (Hs ++ H) Q := by
  refine call_in1 28 rfl Try.func45 rfl rfl ?_
  obtain ⟨ad, c, e, _⟩ := ho.arrW (C := cx B0 old) encI_len
  subst e
  repeat (first | (first | refine rt_nil ?_ | (refine isRun ?_; first | refine x1 ?_ | refine x2 ?_ | refine x3 fun _ => ?_ | refine x4 fun _ => ?_ | refine x5 fun _ => ?_ | (refine rt_step rfl rfl rfl ?_; first | refine st_buildSlice rfl (zr rfl) rfl rfl rfl rfl rfl rfl fun _ => ?_ | refine st_A rfl rfl (fun _ => rfl) rfl fun _ => ?_) | refine x8 ?_ | refine rt_skip rfl rfl rfl ?_ | refine rt_skip0 rfl rfl ?_)) | (first | refine sq_n ?_ | refine sq_r ?_ | refine sq_e ?_ | refine bk_n ?_ | refine bk_r ?_ | refine bk_e rfl ?_ | refine bk_x rfl ?_ | refine ct_seq ?_ | refine ct_region rfl ?_ | refine ct_skip ?_ | refine ct_label ?_ | refine ct_block ?_ | refine ct_exit ?_ | refine ct_ret ?_ | refine ct_scope ?_ | refine ct_true rfl ?_ | refine ct_false rfl ?_ | refine lt_step ?_))
  refine loop_ind (ι := Nat × List Int × Hp) (0, l, Hs) (fun i => l.length - i.1) (fun i => 2 * i.1 ≤ l.length + 1 ∧ i.2.1.length = l.length ∧ (∀ k, k < l.length → i.2.1[k]? = if k < i.1 ∨ l.length ≤ k + i.1 then l[l.length - 1 - k]? else l[k]?) ∧ Own encI 1 i.2.1 (.slice ad l.length c) i.2.2)
    (fun i => [(3, .int .i64 ((l.length : Int) - 1 - i.1)), (2, .int .i64 (i.1 : Int)), (0, .slice ad l.length c)]) (fun i => i.2.2 ++ H)
    ⟨by dsimp only; omega, rfl, fun k hk => by dsimp only; rw [if_neg (by omega)], ho⟩ ?_ (by exact drop_auto) ?_
  · dsimp only
    rw [show (l.length : Int) - 1 - ((0 : Nat) : Int) = (l.length : Int) - 1 from by omega]
    repeat (first | exact SubL.nil | refine SubL.cons rfl ?_)
  rintro ⟨i, li, Hi⟩ ⟨hi, hll, hall, hoi⟩
  simp only at hi hll hall hoi ⊢
  repeat (first | (first | refine rt_nil ?_ | (refine isRun ?_; first | refine x1 ?_ | refine x2 ?_ | refine x3 fun _ => ?_ | refine x4 fun _ => ?_ | refine x5 fun _ => ?_ | (refine rt_step rfl rfl rfl ?_; first | refine st_buildSlice rfl (zr rfl) rfl rfl rfl rfl rfl rfl fun _ => ?_ | refine st_A rfl rfl (fun _ => rfl) rfl fun _ => ?_) | refine x8 ?_ | refine rt_skip rfl rfl rfl ?_ | refine rt_skip0 rfl rfl ?_)) | (first | refine sq_n ?_ | refine sq_r ?_ | refine sq_e ?_ | refine bk_n ?_ | refine bk_r ?_ | refine bk_e rfl ?_ | refine bk_x rfl ?_ | refine ct_seq ?_ | refine ct_region rfl ?_ | refine ct_skip ?_ | refine ct_label ?_ | refine ct_block ?_ | refine ct_exit ?_ | refine ct_ret ?_ | refine ct_scope ?_ | refine ct_true rfl ?_ | refine ct_false rfl ?_ | refine lt_step ?_))
  refine ct_condT te_d rfl (fun hc => ?_) (fun hc => ?_)
  rotate_left
  · have e : li = l.reverse := List.ext_getElem? fun k => by
      by_cases hk : k < l.length
      · rw [hall k hk, List.getElem?_reverse hk]
        split
        · rfl
        · rename_i h
          rw [show l.length - 1 - k = k from by omega]
      · rw [List.getElem?_eq_none (by omega), List.getElem?_eq_none (by rw [List.length_reverse]; omega)]
    rw [e] at hoi
    repeat (first | (first | refine rt_nil ?_ | (refine isRun ?_; first | refine x1 ?_ | refine x2 ?_ | refine x3 fun _ => ?_ | refine x4 fun _ => ?_ | refine x5 fun _ => ?_ | (refine rt_step rfl rfl rfl ?_; first | refine st_buildSlice rfl (zr rfl) rfl rfl rfl rfl rfl rfl fun _ => ?_ | refine st_A rfl rfl (fun _ => rfl) rfl fun _ => ?_) | refine x8 ?_ | refine rt_skip rfl rfl rfl ?_ | refine rt_skip0 rfl rfl ?_)) | (first | refine sq_n ?_ | refine sq_r ?_ | refine sq_e ?_ | refine bk_n ?_ | refine bk_r ?_ | refine bk_e rfl ?_ | refine bk_x rfl ?_ | refine ct_seq ?_ | refine ct_region rfl ?_ | refine ct_skip ?_ | refine ct_label ?_ | refine ct_block ?_ | refine ct_exit ?_ | refine ct_ret ?_ | refine ct_scope ?_ | refine ct_true rfl ?_ | refine ct_false rfl ?_ | refine lt_step ?_))
    exact re_0 rfl (by exact drop_auto) (fun w => hQ w Hi hoi)
  have h1 : i < li.length := by omega
  have h2 : l.length - 1 - i < li.length := by omega
  obtain ⟨x, hx⟩ : ∃ x, li[i]? = some x := ⟨_, List.getElem?_eq_getElem h1⟩
  obtain ⟨y, hy⟩ : ∃ y, li[l.length - 1 - i]? = some y := ⟨_, List.getElem?_eq_getElem h2⟩
  obtain ⟨ad', c', e, ha⟩ := hoi.arrW (C := cx B0 old) encI_len
  obtain ⟨rfl, _, rfl⟩ := Value.slice.inj e
  have hyt : ((l.length : Int) - 1 - i).toNat = l.length - 1 - i := by omega
  obtain ⟨b1, o1, rfl, hL0⟩ := ((ha [] H).arr encI_len).ld1 3 hx rfl rfl (sz rfl)
  obtain ⟨b2, o2, e2, hL1⟩ := ((ha [] H).arr encI_len).ld1 3 hy rfl rfl (sz rfl)
  cases e2
  rw [← hyt] at hL1
  obtain ⟨H1, ho1, b3, c3, e3, hs1⟩ := hoi.set (C := cx B0 old) (t := 3) encI_len (f := 0) (a' := y) (u := vI y) hx (sz rfl) rfl rfl
  obtain ⟨g3, _, rfl⟩ := Value.slice.inj e3
  cases g3
  have hy1 : (li.set i y)[l.length - 1 - i]? = some y := by rw [List.getElem?_set, if_neg (by omega)]; exact hy
  obtain ⟨H2, ho2, b4, c4, e4, hs2⟩ := ho1.set (C := cx B0 old) (t := 3) encI_len (f := 0) (a' := x) (u := vI x) hy1 (sz rfl) rfl rfl
  obtain ⟨g4, _, rfl⟩ := Value.slice.inj e4
  cases g4
  rw [← hyt] at hs2
  repeat (first | (first | refine rt_nil ?_ | (refine isRun ?_; first | refine x1 ?_ | refine x2 ?_ | refine x3 fun _ => ?_ | refine x4 fun _ => ?_ | refine x5 fun _ => ?_ | (refine rt_step rfl rfl rfl ?_; first | refine st_buildSlice rfl (zr rfl) rfl rfl rfl rfl rfl rfl fun _ => ?_ | refine st_A rfl rfl (fun _ => rfl) rfl fun _ => ?_) | refine x8 ?_ | refine rt_skip rfl rfl rfl ?_ | refine rt_skip0 rfl rfl ?_)) | (first | refine sq_n ?_ | refine sq_r ?_ | refine sq_e ?_ | refine bk_n ?_ | refine bk_r ?_ | refine bk_e rfl ?_ | refine bk_x rfl ?_ | refine ct_seq ?_ | refine ct_region rfl ?_ | refine ct_skip ?_ | refine ct_label ?_ | refine ct_block ?_ | refine ct_exit ?_ | refine ct_ret ?_ | refine ct_scope ?_ | refine ct_true rfl ?_ | refine ct_false rfl ?_ | refine lt_step ?_))
  refine ct_draw (masks := [0, 0, 0, 0, 0, 0, 48, 112, 0, 0, 768, 1792, 4083, 8179, 16383, 32767]) (plan := [0, 1, 2, 3, 4, 5, 6, 7, 8, 9, 10, 11, 12, 13, 14, 15]) (E := []) (by kernel_rfl) (by kernel_rfl) (by kernel_rfl) (by kernel_rfl) ?_
  repeat (first | refine pl_nil ?_ | (refine isPlan ?_; first | refine y1 ?_ | refine y2 ?_ | refine pl_skip rfl rfl rfl rfl rfl ?_ | refine pl_skip0 rfl rfl rfl rfl ?_))
  apply pl_st rfl rfl rfl rfl rfl rfl rfl rfl
  case hp => exact hs1 [] H
  case hr => exact rec_auto
  repeat (first | refine pl_nil ?_ | (refine isPlan ?_; first | refine y1 ?_ | refine y2 ?_ | refine pl_skip rfl rfl rfl rfl rfl ?_ | refine pl_skip0 rfl rfl rfl rfl ?_))
  apply pl_st rfl rfl rfl rfl rfl rfl rfl rfl
  case hp => exact hs2 [] H
  case hr => exact rec_auto
  repeat (first | refine pl_nil ?_ | (refine isPlan ?_; first | refine y1 ?_ | refine y2 ?_ | refine pl_skip rfl rfl rfl rfl rfl ?_ | refine pl_skip0 rfl rfl rfl rfl ?_))
  repeat (first | (first | refine rt_nil ?_ | (refine isRun ?_; first | refine x1 ?_ | refine x2 ?_ | refine x3 fun _ => ?_ | refine x4 fun _ => ?_ | refine x5 fun _ => ?_ | (refine rt_step rfl rfl rfl ?_; first | refine st_buildSlice rfl (zr rfl) rfl rfl rfl rfl rfl rfl fun _ => ?_ | refine st_A rfl rfl (fun _ => rfl) rfl fun _ => ?_) | refine x8 ?_ | refine rt_skip rfl rfl rfl ?_ | refine rt_skip0 rfl rfl ?_)) | (first | refine sq_n ?_ | refine sq_r ?_ | refine sq_e ?_ | refine bk_n ?_ | refine bk_r ?_ | refine bk_e rfl ?_ | refine bk_x rfl ?_ | refine ct_seq ?_ | refine ct_region rfl ?_ | refine ct_skip ?_ | refine ct_label ?_ | refine ct_block ?_ | refine ct_exit ?_ | refine ct_ret ?_ | refine ct_scope ?_ | refine ct_true rfl ?_ | refine ct_false rfl ?_ | refine lt_step ?_))
  refine ⟨(i + 1, (li.set i y).set (l.length - 1 - i) x, H2), ⟨by dsimp only; omega, by rw [List.length_set, List.length_set, hll], fun k hk => ?_, ho2⟩, by dsimp only; omega, ?_, by exact drop_auto⟩
  · dsimp only
    have hxi := hall i (by omega)
    rw [hx, if_neg (by omega)] at hxi
    have hyi := hall (l.length - 1 - i) (by omega)
    rw [hy, if_neg (by omega)] at hyi
    rw [List.getElem?_set, List.getElem?_set, List.length_set]
    by_cases g1 : l.length - 1 - i = k
    · subst g1
      rw [if_pos rfl, if_pos (by omega), if_pos (by omega), hxi, show l.length - 1 - (l.length - 1 - i) = i from by omega]
    · rw [if_neg g1]
      by_cases g2 : i = k
      · subst g2
        rw [if_pos rfl, if_pos (by omega), if_pos (by omega), hyi]
      · rw [if_neg g2, hall k hk]
        by_cases g3 : k < i ∨ l.length ≤ k + i
        · rw [if_pos g3, if_pos (by omega)]
        · rw [if_neg g3, if_neg (by omega)]
  · rw [show (l.length : Int) - 1 - ((i + 1 : Nat) : Int) = (l.length : Int) - 1 - i - 1 from by omega]
    repeat (first | exact SubL.nil | refine SubL.cons rfl ?_)
end
end Go.Proofs.Ytdaigoiekkofoaa.Abs
