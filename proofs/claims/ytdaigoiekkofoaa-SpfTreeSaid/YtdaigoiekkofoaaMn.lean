/- The program's Paths: the numbers of paths that are known. -/
import Derived.Test.YtdaigoiekkofoaaMh
import Derived.Test.YtdaigoiekkofoaaMt
namespace Go.Proofs.Ytdaigoiekkofoaa.Abs
open Go
set_option linter.unusedVariables false
theorem nm60 {B0 : Nat} {old : Nat → Option (List Value)} : NumMap (cx B0 old) 60 .i64 (.int .i64 0) := ⟨⟨_, _, _, rfl, rfl, rfl, rfl, rfl⟩⟩
theorem st_insert {C : Ctx} {hd : HH Prop} {l : Sl} {H H' : Hp} {v : Value} {Θ : Value → Hp → Prop} {t : TypeId} {x y z : Operand} {b c c' : Nat} {es es' : List MEnt} {k : Value} (h1 : evalL l x = some (.map (some b))) (h2 : evalL l y = some k) (h3 : evalL l z = some v) (hu : updE C t es c k v = some (es', c')) (hsw : Swap H b (.map es c) (.map es' c') H') (h : Θ undef H') :
    StepT C hd (.insert t x y z) l H Θ := by
  have h := st_update (hd := hd) (Θ := Θ) h1 h2 h3 hu hsw h
  unfold StepT at h ⊢
  exact ⟨h.1, h.2⟩
theorem edL_oth {M : Nat} {L : List Ln} {U : List Bool} (hok : netOk M L U) (n : Nat) : ∀ i, ∀ e ∈ edL L U n i, e.n.toNat = oth L e.l n
  | 0, e, h => by cases h
  | i + 1, e, h => by
    rw [edL] at h
    rcases List.mem_append.1 h with h | h
    · exact edL_oth hok n i e h
    · unfold edOf at h
      split at h
      · rename_i x hx hu
        have ho : oth L (i : Int) n = if x.a = n then x.b.toNat else x.a.toNat := by unfold oth; rw [Int.toNat_natCast, hx]
        split at h
        · rename_i g
          rw [List.mem_singleton] at h; subst h; dsimp only; rw [ho, if_pos g]
        · rename_i g
          split at h
          · rw [List.mem_singleton] at h; subst h; dsimp only; rw [ho, if_neg g]
          · cases h
      · cases h
/-- What the map of known numbers holds. -/
structure Kn (L : List Ln) (U : List Bool) (d : List Int) (t : Nat) (ms : List (Int × Int × Nat)) : Prop where
  val : ∀ k i v, fG ms k = some (i, v) → ∃ j : Nat, k = j ∧ v = npaths L U d t j
  src : ∃ i v, fG ms t = some (i, v)
theorem fG_app {ms : List (Int × Int × Nat)} {k k' v : Int} {c : Nat} : fG (ms ++ [(k, v, c)]) k' = match fG ms k' with | some p => some p | none => if k' = k then some (ms.length, v) else none := by
  induction ms with
  | nil =>
    by_cases e : k' = k <;> simp [fG, e]
  | cons p ms ih =>
    obtain ⟨a, m, n⟩ := p
    rw [List.cons_append]
    unfold fG
    by_cases e : k' = a
    · rw [if_pos e, if_pos e]
    · rw [if_neg e, if_neg e, ih]
      cases fG ms k' with
      | some p => rfl
      | none =>
        by_cases g : k' = k
        · rw [if_pos g, if_pos g]; rfl
        · rw [if_neg g, if_neg g]; rfl
theorem Kn.add {L : List Ln} {U : List Bool} {d : List Int} {t : Nat} {ms : List (Int × Int × Nat)} (h : Kn L U d t ms) (k c : Nat) : Kn L U d t (ms ++ [((k : Int), npaths L U d t k, c)]) := by
  refine ⟨fun k' i v hv => ?_, ?_⟩
  · rw [fG_app] at hv
    split at hv
    · rename_i p hp
      cases hv
      exact h.val _ _ _ hp
    · split at hv
      · rename_i g
        cases hv
        exact ⟨k, g, rfl⟩
      · cases hv
  · obtain ⟨i, v, hs⟩ := h.src
    exact ⟨i, v, by rw [fG_app, hs]⟩
section
variable {B0 : Nat} {old : Nat → Option (List Value)} {n : Nat} {H : Hp} {Q : Value → Hp → Prop}
set_option maxRecDepth 10000
set_option maxHeartbeats 8000000
/-- The rows of the variables that the inner function shares. -/
structure Vars (H : Hp) (bk ba bd bc m b bo M : Nat) (d : List Int) (vs : List Value) : Prop where
  fk : (bk, AObj.row [.map (some m)] 1 false) ∈ H
  fa : (ba, AObj.row [.slice (some ⟨bo, 0, none⟩) M M] 1 false) ∈ H
  fd : (bd, AObj.row [.slice (some ⟨b, 0, none⟩) M M] 1 false) ∈ H
  fc : (bc, AObj.row [.func (.func 43) #[] #[.pointer (some ⟨bk, 0, none⟩), .pointer (some ⟨ba, 0, none⟩), .pointer (some ⟨bd, 0, none⟩), .pointer (some ⟨bc, 0, none⟩)]] 1 false) ∈ H
  fo : (bo, AObj.row (vs.map vV) 1 false) ∈ H
  fr : (b, AObj.row (d.map vI) 1 false) ∈ H
theorem Vars.weak {H H' : Hp} {bk ba bd bc m b bo M : Nat} {d : List Int} {vs : List Value} (h : Vars H bk ba bd bc m b bo M d vs) (hs : ∀ x ∈ H, x ∈ H') : Vars H' bk ba bd bc m b bo M d vs :=
  ⟨hs _ h.fk, hs _ h.fa, hs _ h.fd, hs _ h.fc, hs _ h.fo, hs _ h.fr⟩
theorem count_ct (M t bk ba bd bc m b bo : Nat) (L : List Ln) (U : List Bool) (d : List Int) (vs : List Value) (He : Hp) (hok : netOk M L U) (hr : Rows encE 3 (edA L U M L.length) vs He) (hd : IsDist (Rn L U) M t d) (htM : t < M) : ∀ (r k : Nat) (ms : List (Int × Int × Nat)) (c : Nat) (H : Hp) (Q : Value → Hp → Prop) (hH : He.Sublist H) (hv : Vars H bk ba bd bc m b bo M d vs)
    (hk : k < M) (h0 : 0 ≤ d.getD k (-1)) (hkr : d.getD k (-1) < r) (hkn : Kn L U d t ms)
    (hQ : ∀ ms' c', Kn L U d t ms' → (∀ j : Nat, d.getD k (-1) < d.getD j (-1) → fG ms' (j : Int) = fG ms (j : Int)) → Q (.int .i64 (npaths L U d t k)) ((m, .map (mkG .i64 vI ms') c') :: H)),
    CallT (cx B0 old) (acall (cx B0 old) ansP (n + r + 1)) 43 [.int .i64 k, .pointer (some ⟨bk, 0, none⟩), .pointer (some ⟨ba, 0, none⟩), .pointer (some ⟨bd, 0, none⟩), .pointer (some ⟨bc, 0, none⟩)] ((m, .map (mkG .i64 vI ms) c) :: H) Q := by
  have hM : M ≤ 32 := by have := hok.2.1; omega
  have hLl : L.length ≤ 128 := hok.2.2.1
  have hvl : vs.length = M := by rw [hr.length, edA_len]
  have hbd := hd.bound (fun u v c hr => hr.all hok) hM
  have hlow := fun n => hd.low (n := n)
  intro r
  induction r with
  | zero => intro k ms c H Q hH hv hk h0 hkr; omega
  | succ r ih =>
  intro k ms c H Q hH hv hk h0 hkr hkn hQ
  obtain ⟨vk, va, vd, vc, vo, vr⟩ := id hv
  have hL0 : ∀ H', H.Sublist H' → LdT (cx B0 old) 60 H' bk 0 (.map (some m)) := fun H' hs => ld1 (.own _ _ (hs.subset vk)) rfl (sz rfl) rfl
  have hL1 : ∀ H', H.Sublist H' → LdT (cx B0 old) 50 H' ba 0 (.slice (some ⟨bo, 0, none⟩) M M) := fun H' hs => ld1 (.own _ _ (hs.subset va)) rfl (sz rfl) rfl
  have hL2 : ∀ H', H.Sublist H' → LdT (cx B0 old) 30 H' bd 0 (.slice (some ⟨b, 0, none⟩) M M) := fun H' hs => ld1 (.own _ _ (hs.subset vd)) rfl (sz rfl) rfl
  have hL3 : ∀ H', H.Sublist H' → LdT (cx B0 old) 61 H' bc 0 (.func (.func 43) #[] #[.pointer (some ⟨bk, 0, none⟩), .pointer (some ⟨ba, 0, none⟩), .pointer (some ⟨bd, 0, none⟩), .pointer (some ⟨bc, 0, none⟩)]) := fun H' hs => ld1 (.own _ _ (hs.subset vc)) rfl (sz rfl) rfl
  refine call_in 44 rfl Try.func43 rfl rfl ?_
  repeat (first | (first | refine rt_nil ?_ | (refine isRun ?_; first | refine x1 ?_ | refine x2 ?_ | refine x3 fun _ => ?_ | refine x4 fun _ => ?_ | refine x5 fun _ => ?_ | (refine rt_step rfl rfl rfl ?_; first | refine st_buildSlice rfl (zr rfl) rfl rfl rfl rfl rfl rfl fun _ => ?_ | refine st_A rfl rfl (fun _ => rfl) rfl fun _ => ?_) | refine x8 ?_ | refine rt_skip rfl rfl rfl ?_ | refine rt_skip0 rfl rfl ?_)) | (first | refine sq_n ?_ | refine sq_r ?_ | refine sq_e ?_ | refine bk_n ?_ | refine bk_r ?_ | refine bk_e rfl ?_ | refine bk_x rfl ?_ | refine ct_seq ?_ | refine ct_region rfl ?_ | refine ct_skip ?_ | refine ct_label ?_ | refine ct_block ?_ | refine ct_exit ?_ | refine ct_ret ?_ | refine ct_scope ?_ | refine ct_true rfl ?_ | refine ct_false rfl ?_ | refine lt_step ?_))
  have hlk := lookE_G (C := cx B0 old) (f := vI) nm60 ms k true
  obtain ⟨fk, hfk⟩ : ∃ f, f = fG ms (k : Int) := ⟨_, rfl⟩
  rw [← hfk] at hlk
  cases fk with
  | some p =>
    obtain ⟨i, v⟩ := p
    simp only [if_true] at hlk
    obtain ⟨j, hj, rfl⟩ := hkn.val _ _ _ hfk.symm
    obtain rfl : k = j := by omega
    apply rt_r rfl rfl rfl
    case hp => exact rd_lookup rfl rfl (List.Mem.head _) hlk
    repeat (first | (first | refine rt_nil ?_ | (refine isRun ?_; first | refine x1 ?_ | refine x2 ?_ | refine x3 fun _ => ?_ | refine x4 fun _ => ?_ | refine x5 fun _ => ?_ | (refine rt_step rfl rfl rfl ?_; first | refine st_buildSlice rfl (zr rfl) rfl rfl rfl rfl rfl rfl fun _ => ?_ | refine st_A rfl rfl (fun _ => rfl) rfl fun _ => ?_) | refine x8 ?_ | refine rt_skip rfl rfl rfl ?_ | refine rt_skip0 rfl rfl ?_)) | (first | refine sq_n ?_ | refine sq_r ?_ | refine sq_e ?_ | refine bk_n ?_ | refine bk_r ?_ | refine bk_e rfl ?_ | refine bk_x rfl ?_ | refine ct_seq ?_ | refine ct_region rfl ?_ | refine ct_skip ?_ | refine ct_label ?_ | refine ct_block ?_ | refine ct_exit ?_ | refine ct_ret ?_ | refine ct_scope ?_ | refine ct_true rfl ?_ | refine ct_false rfl ?_ | refine lt_step ?_))
    exact re_1 rfl rfl (by exact drop_auto) (hQ ms c hkn fun j _ => rfl)
  | none =>
    simp only [if_true] at hlk
    have hkt : k ≠ t := fun e => by
      subst e
      obtain ⟨i, v, h⟩ := hkn.src
      rw [← hfk] at h
      cases h
    apply rt_r rfl rfl rfl
    case hp => exact rd_lookup rfl rfl (List.Mem.head _) hlk
    repeat (first | (first | refine rt_nil ?_ | (refine isRun ?_; first | refine x1 ?_ | refine x2 ?_ | refine x3 fun _ => ?_ | refine x4 fun _ => ?_ | refine x5 fun _ => ?_ | (refine rt_step rfl rfl rfl ?_; first | refine st_buildSlice rfl (zr rfl) rfl rfl rfl rfl rfl rfl fun _ => ?_ | refine st_A rfl rfl (fun _ => rfl) rfl fun _ => ?_) | refine x8 ?_ | refine rt_skip rfl rfl rfl ?_ | refine rt_skip0 rfl rfl ?_)) | (first | refine sq_n ?_ | refine sq_r ?_ | refine sq_e ?_ | refine bk_n ?_ | refine bk_r ?_ | refine bk_e rfl ?_ | refine bk_x rfl ?_ | refine ct_seq ?_ | refine ct_region rfl ?_ | refine ct_skip ?_ | refine ct_label ?_ | refine ct_block ?_ | refine ct_exit ?_ | refine ct_ret ?_ | refine ct_scope ?_ | refine ct_true rfl ?_ | refine ct_false rfl ?_ | refine lt_step ?_))
    obtain ⟨ade, ce, hve, hae⟩ := hr.arr (C := cx B0 old) (H := (m, .map (mkG .i64 vI ms) c) :: H) encE_len (hH.trans (List.sublist_cons_self _ _)) (edA_get (L := L) (U := U) (i := L.length) hk)
    have hL4 : ∀ H' : Hp, H.Sublist H' → LdT (cx B0 old) 52 H' bo (0 + (k : Int).toNat * 1) (.slice ade (edL L U k L.length).length ce) := fun H' hs => ld1 (.own _ _ (hs.subset vo)) rfl (sz rfl) (by rw [Int.toNat_natCast, Nat.zero_add, Nat.mul_one, List.getElem?_map, hve]; rfl)
    have hel := edL_len L U k L.length
    refine ct_draw (masks := [0, 0, 3, 7, 0, 0, 63, 127, 0]) (plan := [0, 1, 2, 3, 4, 5, 8, 6, 7]) (E := []) (by kernel_rfl) (by kernel_rfl) (by kernel_rfl) (by kernel_rfl) ?_
    repeat (first | refine pl_nil ?_ | (refine isPlan ?_; first | refine y1 ?_ | refine y2 ?_ | refine pl_skip rfl rfl rfl rfl rfl ?_ | refine pl_skip0 rfl rfl rfl rfl ?_))
    refine pl_S rfl rfl rfl rfl rfl rfl (st_call rfl rfl rfl rfl (nearer_ct (edL L U k L.length) ade ce b M k d hae (by omega) hd.1 (List.Mem.tail _ vr) hk hbd hlow (edL_ok hok k L.length) fun v Hn hn => ⟨by exact rec_auto, ?_⟩))
    have hnx := near_nx hok hd hk L.length (Nat.le_refl _)
    obtain ⟨F, hF⟩ : ∃ F, F = (edL L U k L.length).filter (nrB d k) := ⟨_, rfl⟩
    have hFl : F.length ≤ 128 := by rw [hF]; have := List.length_filter_le (nrB d k) (edL L U k L.length); omega
    have hFm : ∀ e ∈ F, edOk M e ∧ d.getD k (-1) = d.getD e.n.toNat (-1) + e.c ∧ e.n.toNat = oth L e.l k ∧ 0 ≤ d.getD e.n.toNat (-1) := fun e he => by
      rw [hF] at he
      obtain ⟨h1, h2⟩ := List.mem_filter.1 he
      have ho := edL_oth hok k L.length e h1
      obtain ⟨_, _, _, _, _, _, _, g, _⟩ := nxL_oth hok (i := e.l) (by rw [← hnx]; exact List.mem_map.2 ⟨e, he, rfl⟩)
      exact ⟨edL_ok hok k L.length e h1, of_decide_eq_true h2, ho, by rw [ho]; exact g⟩
    have hsum : npaths L U d t k = F.foldl (fun s e => addP s (npaths L U d t e.n.toNat)) 0 := by
      rw [npaths_eq hok hbd hkt h0, ← hnx, ← hF, List.foldl_map]
      exact foldl_congr fun s e he => by rw [(hFm e he).2.2.1]
    rw [← hF] at hnx hn
    have hfr := fun j => foldl_range (f := fun i => npaths L U d t i.toNat) (fun i => npaths_range L U d t i.toNat) ((F.take j).map (·.n)) 0 (by decide)
    obtain ⟨adn, cn, rfl, han⟩ := hn.arrW (C := cx B0 old) encE_len
    clear hL4
    repeat (first | refine pl_nil ?_ | (refine isPlan ?_; first | refine y1 ?_ | refine y2 ?_ | refine pl_skip rfl rfl rfl rfl rfl ?_ | refine pl_skip0 rfl rfl rfl rfl ?_))
    repeat (first | (first | refine rt_nil ?_ | (refine isRun ?_; first | refine x1 ?_ | refine x2 ?_ | refine x3 fun _ => ?_ | refine x4 fun _ => ?_ | refine x5 fun _ => ?_ | (refine rt_step rfl rfl rfl ?_; first | refine st_buildSlice rfl (zr rfl) rfl rfl rfl rfl rfl rfl fun _ => ?_ | refine st_A rfl rfl (fun _ => rfl) rfl fun _ => ?_) | refine x8 ?_ | refine rt_skip rfl rfl rfl ?_ | refine rt_skip0 rfl rfl ?_)) | (first | refine sq_n ?_ | refine sq_r ?_ | refine sq_e ?_ | refine bk_n ?_ | refine bk_r ?_ | refine bk_e rfl ?_ | refine bk_x rfl ?_ | refine ct_seq ?_ | refine ct_region rfl ?_ | refine ct_skip ?_ | refine ct_label ?_ | refine ct_block ?_ | refine ct_exit ?_ | refine ct_ret ?_ | refine ct_scope ?_ | refine ct_true rfl ?_ | refine ct_false rfl ?_ | refine lt_step ?_))
    refine CodeT.perm (H' := (m, .map (mkG .i64 vI ms) c) :: (Hn ++ H)) ?_ pull0
    refine loop_ind (ι := Nat × List (Int × Int × Nat) × Nat) (0, ms, c) (fun i => F.length - i.1) (fun i => i.1 ≤ F.length ∧ Kn L U d t i.2.1 ∧ ∀ j : Nat, d.getD k (-1) ≤ d.getD j (-1) → fG i.2.1 (j : Int) = fG ms (j : Int))
      (fun i => [(28, .int .i64 (i.1 : Int)), (27, .int .i64 F.length), (26, .slice adn F.length cn), (9, .int .i64 ((F.take i.1).foldl (fun s e => addP s (npaths L U d t e.n.toNat)) 0)), (0, .int .i64 k), (1, .pointer (some ⟨bk, 0, none⟩)), (4, .pointer (some ⟨bc, 0, none⟩))])
      (fun i => (m, .map (mkG .i64 vI i.2.1) i.2.2) :: (Hn ++ H)) ⟨Nat.zero_le _, hkn, fun j _ => rfl⟩ (by repeat (first | exact SubL.nil | refine SubL.cons rfl ?_)) (List.Sublist.refl _) ?_
    rintro ⟨i, ms', c'⟩ ⟨hi, hkn', hsame⟩
    simp only at hi hkn' hsame ⊢
    have hs0 := hfr i
    rw [List.foldl_map] at hs0
    repeat (first | (first | refine rt_nil ?_ | (refine isRun ?_; first | refine x1 ?_ | refine x2 ?_ | refine x3 fun _ => ?_ | refine x4 fun _ => ?_ | refine x5 fun _ => ?_ | (refine rt_step rfl rfl rfl ?_; first | refine st_buildSlice rfl (zr rfl) rfl rfl rfl rfl rfl rfl fun _ => ?_ | refine st_A rfl rfl (fun _ => rfl) rfl fun _ => ?_) | refine x8 ?_ | refine rt_skip rfl rfl rfl ?_ | refine rt_skip0 rfl rfl ?_)) | (first | refine sq_n ?_ | refine sq_r ?_ | refine sq_e ?_ | refine bk_n ?_ | refine bk_r ?_ | refine bk_e rfl ?_ | refine bk_x rfl ?_ | refine ct_seq ?_ | refine ct_region rfl ?_ | refine ct_skip ?_ | refine ct_label ?_ | refine ct_block ?_ | refine ct_exit ?_ | refine ct_ret ?_ | refine ct_scope ?_ | refine ct_true rfl ?_ | refine ct_false rfl ?_ | refine lt_step ?_))
    refine ct_condT te_d rfl (fun hc => ?_) (fun hc => ?_)
    rotate_left
    · have hi' : i = F.length := by omega
      subst hi'
      rw [List.take_length, ← hsum]
      have hq : fG ms' (k : Int) = none := by rw [hsame k (by omega)]; exact hfk.symm
      repeat (first | (first | refine rt_nil ?_ | (refine isRun ?_; first | refine x1 ?_ | refine x2 ?_ | refine x3 fun _ => ?_ | refine x4 fun _ => ?_ | refine x5 fun _ => ?_ | (refine rt_step rfl rfl rfl ?_; first | refine st_buildSlice rfl (zr rfl) rfl rfl rfl rfl rfl rfl fun _ => ?_ | refine st_A rfl rfl (fun _ => rfl) rfl fun _ => ?_) | refine x8 ?_ | refine rt_skip rfl rfl rfl ?_ | refine rt_skip0 rfl rfl ?_)) | (first | refine sq_n ?_ | refine sq_r ?_ | refine sq_e ?_ | refine bk_n ?_ | refine bk_r ?_ | refine bk_e rfl ?_ | refine bk_x rfl ?_ | refine ct_seq ?_ | refine ct_region rfl ?_ | refine ct_skip ?_ | refine ct_label ?_ | refine ct_block ?_ | refine ct_exit ?_ | refine ct_ret ?_ | refine ct_scope ?_ | refine ct_true rfl ?_ | refine ct_false rfl ?_ | refine lt_step ?_))
      refine rt_step0 rfl rfl (st_update rfl rfl rfl (updE_G nm60 ms' c' _ (npaths L U d t k) hq) sw0 ?_)
      repeat (first | (first | refine rt_nil ?_ | (refine isRun ?_; first | refine x1 ?_ | refine x2 ?_ | refine x3 fun _ => ?_ | refine x4 fun _ => ?_ | refine x5 fun _ => ?_ | (refine rt_step rfl rfl rfl ?_; first | refine st_buildSlice rfl (zr rfl) rfl rfl rfl rfl rfl rfl fun _ => ?_ | refine st_A rfl rfl (fun _ => rfl) rfl fun _ => ?_) | refine x8 ?_ | refine rt_skip rfl rfl rfl ?_ | refine rt_skip0 rfl rfl ?_)) | (first | refine sq_n ?_ | refine sq_r ?_ | refine sq_e ?_ | refine bk_n ?_ | refine bk_r ?_ | refine bk_e rfl ?_ | refine bk_x rfl ?_ | refine ct_seq ?_ | refine ct_region rfl ?_ | refine ct_skip ?_ | refine ct_label ?_ | refine ct_block ?_ | refine ct_exit ?_ | refine ct_ret ?_ | refine ct_scope ?_ | refine ct_true rfl ?_ | refine ct_false rfl ?_ | refine lt_step ?_))
      refine re_1 rfl rfl (H' := (m, .map (mkG .i64 vI (ms' ++ [((k : Int), npaths L U d t k, c')])) (c' + 1)) :: H) (by exact drop_auto) (hQ _ _ (hkn'.add k c') fun j hj => ?_)
      rw [fG_app, ← hsame j (by omega)]
      cases fG ms' (j : Int) with
      | some p => rfl
      | none =>
        dsimp only
        rw [if_neg]
        intro e
        have : j = k := by omega
        subst this
        omega
    obtain ⟨e, he⟩ : ∃ e, F[i]? = some e := ⟨_, List.getElem?_eq_getElem (by omega)⟩
    obtain ⟨⟨e0, e1, e2, e3⟩, hed, heo, hen⟩ := hFm e (List.mem_of_getElem? he)
    obtain ⟨b6, o6, rfl, hL4⟩ := ((han [] H).arr encE_len).ldW 56 he rfl (sz rfl)
    have htk : (F.take (i + 1)).foldl (fun s e => addP s (npaths L U d t e.n.toNat)) 0 = addP ((F.take i).foldl (fun s e => addP s (npaths L U d t e.n.toNat)) 0) (npaths L U d t e.n.toNat) := by
      rw [List.take_add_one, he, List.foldl_append]; rfl
    obtain ⟨S, hS⟩ : ∃ S, S = (F.take i).foldl (fun s e => addP s (npaths L U d t e.n.toNat)) 0 := ⟨_, rfl⟩
    rw [← hS] at htk hs0 ⊢
    have hnp := npaths_range L U d t e.n.toNat
    obtain ⟨k', hk'⟩ := Int.eq_ofNat_of_zero_le e0
    have hk2 : e.n.toNat = k' := by omega
    rw [hk2] at hed hnp htk hen
    rw [List.nil_append] at hL4
    repeat (first | (first | refine rt_nil ?_ | (refine isRun ?_; first | refine x1 ?_ | refine x2 ?_ | refine x3 fun _ => ?_ | refine x4 fun _ => ?_ | refine x5 fun _ => ?_ | (refine rt_step rfl rfl rfl ?_; first | refine st_buildSlice rfl (zr rfl) rfl rfl rfl rfl rfl rfl fun _ => ?_ | refine st_A rfl rfl (fun _ => rfl) rfl fun _ => ?_) | refine x8 ?_ | refine rt_skip rfl rfl rfl ?_ | refine rt_skip0 rfl rfl ?_)) | (first | refine sq_n ?_ | refine sq_r ?_ | refine sq_e ?_ | refine bk_n ?_ | refine bk_r ?_ | refine bk_e rfl ?_ | refine bk_x rfl ?_ | refine ct_seq ?_ | refine ct_region rfl ?_ | refine ct_skip ?_ | refine ct_label ?_ | refine ct_block ?_ | refine ct_exit ?_ | refine ct_ret ?_ | refine ct_scope ?_ | refine ct_true rfl ?_ | refine ct_false rfl ?_ | refine lt_step ?_))
    rename_i b7
    rw [hk']
    refine rt_step rfl rfl rfl (st_call rfl rfl rfl rfl (CallT.perm (H' := (m, .map (mkG .i64 vI ms') c') :: ((b7, .row (encE e) 3 false) :: (Hn ++ H))) (ih k' ms' c' _ _ ((hH.trans (List.sublist_append_right _ _)).trans (List.sublist_cons_self _ _)) (hv.weak fun x hx => List.Mem.tail _ (List.mem_append_right _ hx)) (by omega) (by omega) (by omega) hkn' fun ms2 c2 hkn2 hs2 => ?_) pm1))
    repeat (first | (first | refine rt_nil ?_ | (refine isRun ?_; first | refine x1 ?_ | refine x2 ?_ | refine x3 fun _ => ?_ | refine x4 fun _ => ?_ | refine x5 fun _ => ?_ | (refine rt_step rfl rfl rfl ?_; first | refine st_buildSlice rfl (zr rfl) rfl rfl rfl rfl rfl rfl fun _ => ?_ | refine st_A rfl rfl (fun _ => rfl) rfl fun _ => ?_) | refine x8 ?_ | refine rt_skip rfl rfl rfl ?_ | refine rt_skip0 rfl rfl ?_)) | (first | refine sq_n ?_ | refine sq_r ?_ | refine sq_e ?_ | refine bk_n ?_ | refine bk_r ?_ | refine bk_e rfl ?_ | refine bk_x rfl ?_ | refine ct_seq ?_ | refine ct_region rfl ?_ | refine ct_skip ?_ | refine ct_label ?_ | refine ct_block ?_ | refine ct_exit ?_ | refine ct_ret ?_ | refine ct_scope ?_ | refine ct_true rfl ?_ | refine ct_false rfl ?_ | refine lt_step ?_))
    have hmin : (if (1073741824 : Int) < S + npaths L U d t k' then 1073741824 else S + npaths L U d t k') = addP S (npaths L U d t k') := by
      unfold addP
      split <;> omega
    rw [hmin]
    refine ⟨(i + 1, ms2, c2), ⟨by omega, hkn2, fun j hj => ?_⟩, by dsimp only; omega, ?_, by exact drop_auto⟩
    · dsimp only
      rw [hs2 j (by omega)]
      exact hsame j hj
    · dsimp only
      rw [htk]
      repeat (first | exact SubL.nil | refine SubL.cons rfl ?_)
end
end Go.Proofs.Ytdaigoiekkofoaa.Abs

/- The program's Paths. -/
namespace Go.Proofs.Ytdaigoiekkofoaa.Abs
open Go
set_option linter.unusedVariables false
section
variable {B0 : Nat} {old : Nat → Option (List Value)} {n : Nat} {H : Hp} {Q : Value → Hp → Prop}
set_option maxRecDepth 10000
set_option maxHeartbeats 8000000
theorem ppaths_ct (N k k2 : Int) (ad ad2 : Option Addr) (c c2 : Nat) (L : List Ln) (U : List Bool) (h1 : Arr (cx B0 old) H ad 3 encLn L) (h2 : Arr (cx B0 old) H ad2 1 (fun b => [.bool b]) U) (hl : L.length ≤ 9223372036854775807)
    (hgood : ∀ (M f t : Nat) d, N = M → k = f → k2 = t → netOk N L U → f < M → t < M → IsDist (Rn L U) M t d → Q (.int .i64 (npaths L U d t f)) H) (hbad : ¬ (netOk N L U ∧ 0 ≤ k ∧ k < N ∧ 0 ≤ k2 ∧ k2 < N) → Q (.int .i64 0) H) :
    CallT (cx B0 old) (acall (cx B0 old) ansP (n + 31001 + 2)) 18 [.int .i64 N, .slice ad L.length c, .slice ad2 U.length c2, .int .i64 k, .int .i64 k2] H Q := by
  refine call_in 42 rfl Try.func18 rfl rfl ?_
  repeat (first | (first | refine rt_nil ?_ | (refine isRun ?_; first | refine x1 ?_ | refine x2 ?_ | refine x3 fun _ => ?_ | refine x4 fun _ => ?_ | refine x5 fun _ => ?_ | (refine rt_step rfl rfl rfl ?_; first | refine st_buildSlice rfl (zr rfl) rfl rfl rfl rfl rfl rfl fun _ => ?_ | refine st_A rfl rfl (fun _ => rfl) rfl fun _ => ?_) | refine x8 ?_ | refine rt_skip rfl rfl rfl ?_ | refine rt_skip0 rfl rfl ?_)) | (first | refine sq_n ?_ | refine sq_r ?_ | refine sq_e ?_ | refine bk_n ?_ | refine bk_r ?_ | refine bk_e rfl ?_ | refine bk_x rfl ?_ | refine ct_seq ?_ | refine ct_region rfl ?_ | refine ct_skip ?_ | refine ct_label ?_ | refine ct_block ?_ | refine ct_exit ?_ | refine ct_ret ?_ | refine ct_scope ?_ | refine ct_true rfl ?_ | refine ct_false rfl ?_ | refine lt_step ?_))
  refine rt_step rfl rfl rfl (st_call rfl rfl rfl rfl (pvalid_ct N ad ad2 _ c c2 2 L U [k, k2] (h1.weak (by exact drop_auto)) hl (arr_flat encI_len [k, k2] hm0) (by simp) (fun hok hk => ?_) (fun hno => ?_)))
  rotate_left
  · repeat (first | (first | refine rt_nil ?_ | (refine isRun ?_; first | refine x1 ?_ | refine x2 ?_ | refine x3 fun _ => ?_ | refine x4 fun _ => ?_ | refine x5 fun _ => ?_ | (refine rt_step rfl rfl rfl ?_; first | refine st_buildSlice rfl (zr rfl) rfl rfl rfl rfl rfl rfl fun _ => ?_ | refine st_A rfl rfl (fun _ => rfl) rfl fun _ => ?_) | refine x8 ?_ | refine rt_skip rfl rfl rfl ?_ | refine rt_skip0 rfl rfl ?_)) | (first | refine sq_n ?_ | refine sq_r ?_ | refine sq_e ?_ | refine bk_n ?_ | refine bk_r ?_ | refine bk_e rfl ?_ | refine bk_x rfl ?_ | refine ct_seq ?_ | refine ct_region rfl ?_ | refine ct_skip ?_ | refine ct_label ?_ | refine ct_block ?_ | refine ct_exit ?_ | refine ct_ret ?_ | refine ct_scope ?_ | refine ct_true rfl ?_ | refine ct_false rfl ?_ | refine lt_step ?_))
    exact re_1 rfl rfl (by exact drop_auto) (hbad fun h => hno ⟨h.1, fun e he => by
      rcases List.mem_cons.1 he with rfl | he
      · exact ⟨h.2.1, h.2.2.1⟩
      · rw [List.mem_singleton] at he; subst he; exact h.2.2.2⟩)
  obtain ⟨k0, kN⟩ := hk k (by simp)
  obtain ⟨k20, k2N⟩ := hk k2 (by simp)
  obtain ⟨M, rfl⟩ := Int.eq_ofNat_of_zero_le (show 0 ≤ N by omega)
  obtain ⟨f, rfl⟩ := Int.eq_ofNat_of_zero_le k0
  obtain ⟨t, rfl⟩ := Int.eq_ofNat_of_zero_le k20
  have ht : t < M := by omega
  have hf : f < M := by omega
  have hM : M ≤ 32 := by have := hok.2.1; omega
  have hLl : L.length ≤ 128 := hok.2.2.1
  clear hbad k0 kN k20 k2N hk
  repeat (first | (first | refine rt_nil ?_ | (refine isRun ?_; first | refine x1 ?_ | refine x2 ?_ | refine x3 fun _ => ?_ | refine x4 fun _ => ?_ | refine x5 fun _ => ?_ | (refine rt_step rfl rfl rfl ?_; first | refine st_buildSlice rfl (zr rfl) rfl rfl rfl rfl rfl rfl fun _ => ?_ | refine st_A rfl rfl (fun _ => rfl) rfl fun _ => ?_) | refine x8 ?_ | refine rt_skip rfl rfl rfl ?_ | refine rt_skip0 rfl rfl ?_)) | (first | refine sq_n ?_ | refine sq_r ?_ | refine sq_e ?_ | refine bk_n ?_ | refine bk_r ?_ | refine bk_e rfl ?_ | refine bk_x rfl ?_ | refine ct_seq ?_ | refine ct_region rfl ?_ | refine ct_skip ?_ | refine ct_label ?_ | refine ct_block ?_ | refine ct_exit ?_ | refine ct_ret ?_ | refine ct_scope ?_ | refine ct_true rfl ?_ | refine ct_false rfl ?_ | refine lt_step ?_))
  refine rt_step rfl rfl rfl (st_call rfl rfl rfl rfl (edges_ct M ad ad2 c c2 L U hok (h1.weak (by exact drop_auto)) (h2.weak (by exact drop_auto)) fun vs He bo hr => ?_))
  repeat (first | (first | refine rt_nil ?_ | (refine isRun ?_; first | refine x1 ?_ | refine x2 ?_ | refine x3 fun _ => ?_ | refine x4 fun _ => ?_ | refine x5 fun _ => ?_ | (refine rt_step rfl rfl rfl ?_; first | refine st_buildSlice rfl (zr rfl) rfl rfl rfl rfl rfl rfl fun _ => ?_ | refine st_A rfl rfl (fun _ => rfl) rfl fun _ => ?_) | refine x8 ?_ | refine rt_skip rfl rfl rfl ?_ | refine rt_skip0 rfl rfl ?_)) | (first | refine sq_n ?_ | refine sq_r ?_ | refine sq_e ?_ | refine bk_n ?_ | refine bk_r ?_ | refine bk_e rfl ?_ | refine bk_x rfl ?_ | refine ct_seq ?_ | refine ct_region rfl ?_ | refine ct_skip ?_ | refine ct_label ?_ | refine ct_block ?_ | refine ct_exit ?_ | refine ct_ret ?_ | refine ct_scope ?_ | refine ct_true rfl ?_ | refine ct_false rfl ?_ | refine lt_step ?_))
  rename_i b0 b11
  refine rt_step rfl rfl rfl (st_call rfl rfl rfl rfl (distances_ct M t bo L U vs He hok hr (by exact drop_auto) (by exact in_auto) ht fun d b hd => ?_))
  have hbd := hd.bound (fun u v c hr => hr.all hok) hM
  have hlow := fun n => hd.low (n := n)
  have hdl := hd.1
  have hA0 := fun H' j => ldM (C := cx B0 old) (f := vI) (L := d) (t := 3) (b := b) (es := 1) (el := false) (-1) rfl (sz rfl) H' j
  repeat (first | (first | refine rt_nil ?_ | (refine isRun ?_; first | refine x1 ?_ | refine x2 ?_ | refine x3 fun _ => ?_ | refine x4 fun _ => ?_ | refine x5 fun _ => ?_ | (refine rt_step rfl rfl rfl ?_; first | refine st_buildSlice rfl (zr rfl) rfl rfl rfl rfl rfl rfl fun _ => ?_ | refine st_A rfl rfl (fun _ => rfl) rfl fun _ => ?_) | refine x8 ?_ | refine rt_skip rfl rfl rfl ?_ | refine rt_skip0 rfl rfl ?_)) | (first | refine sq_n ?_ | refine sq_r ?_ | refine sq_e ?_ | refine bk_n ?_ | refine bk_r ?_ | refine bk_e rfl ?_ | refine bk_x rfl ?_ | refine ct_seq ?_ | refine ct_region rfl ?_ | refine ct_skip ?_ | refine ct_label ?_ | refine ct_block ?_ | refine ct_exit ?_ | refine ct_ret ?_ | refine ct_scope ?_ | refine ct_true rfl ?_ | refine ct_false rfl ?_ | refine lt_step ?_))
  rename_i b12
  refine ct_condT te_d rfl (fun hc => ?_) (fun hc => ?_)
  · have hc : d.getD f (-1) < 0 := by simpa using hc
    repeat (first | (first | refine rt_nil ?_ | (refine isRun ?_; first | refine x1 ?_ | refine x2 ?_ | refine x3 fun _ => ?_ | refine x4 fun _ => ?_ | refine x5 fun _ => ?_ | (refine rt_step rfl rfl rfl ?_; first | refine st_buildSlice rfl (zr rfl) rfl rfl rfl rfl rfl rfl fun _ => ?_ | refine st_A rfl rfl (fun _ => rfl) rfl fun _ => ?_) | refine x8 ?_ | refine rt_skip rfl rfl rfl ?_ | refine rt_skip0 rfl rfl ?_)) | (first | refine sq_n ?_ | refine sq_r ?_ | refine sq_e ?_ | refine bk_n ?_ | refine bk_r ?_ | refine bk_e rfl ?_ | refine bk_x rfl ?_ | refine ct_seq ?_ | refine ct_region rfl ?_ | refine ct_skip ?_ | refine ct_label ?_ | refine ct_block ?_ | refine ct_exit ?_ | refine ct_ret ?_ | refine ct_scope ?_ | refine ct_true rfl ?_ | refine ct_false rfl ?_ | refine lt_step ?_))
    have hft : f ≠ t := fun e => by
      subst e
      have := hd.src ht
      omega
    have e := npaths_none (L := L) (U := U) hft hc
    have hq := hgood M f t d rfl rfl rfl hok hf ht hd
    rw [e] at hq
    exact re_1 rfl rfl (by exact drop_auto) hq
  have hc : 0 ≤ d.getD f (-1) := by
    have : ¬ d.getD ((f : Int)).toNat (-1) < 0 := hc
    rw [Int.toNat_natCast] at this
    omega
  clear hA0
  repeat (first | (first | refine rt_nil ?_ | (refine isRun ?_; first | refine x1 ?_ | refine x2 ?_ | refine x3 fun _ => ?_ | refine x4 fun _ => ?_ | refine x5 fun _ => ?_ | (refine rt_step rfl rfl rfl ?_; first | refine st_buildSlice rfl (zr rfl) rfl rfl rfl rfl rfl rfl fun _ => ?_ | refine st_A rfl rfl (fun _ => rfl) rfl fun _ => ?_) | refine x8 ?_ | refine rt_skip rfl rfl rfl ?_ | refine rt_skip0 rfl rfl ?_)) | (first | refine sq_n ?_ | refine sq_r ?_ | refine sq_e ?_ | refine bk_n ?_ | refine bk_r ?_ | refine bk_e rfl ?_ | refine bk_x rfl ?_ | refine ct_seq ?_ | refine ct_region rfl ?_ | refine ct_skip ?_ | refine ct_label ?_ | refine ct_block ?_ | refine ct_exit ?_ | refine ct_ret ?_ | refine ct_scope ?_ | refine ct_true rfl ?_ | refine ct_false rfl ?_ | refine lt_step ?_))
  rename_i bm
  refine rt_step0 rfl rfl (st_insert rfl rfl rfl (updE_G nm60 [] 0 (t : Int) 1 rfl) sw0 ?_)
  repeat (first | (first | refine rt_nil ?_ | (refine isRun ?_; first | refine x1 ?_ | refine x2 ?_ | refine x3 fun _ => ?_ | refine x4 fun _ => ?_ | refine x5 fun _ => ?_ | (refine rt_step rfl rfl rfl ?_; first | refine st_buildSlice rfl (zr rfl) rfl rfl rfl rfl rfl rfl fun _ => ?_ | refine st_A rfl rfl (fun _ => rfl) rfl fun _ => ?_) | refine x8 ?_ | refine rt_skip rfl rfl rfl ?_ | refine rt_skip0 rfl rfl ?_)) | (first | refine sq_n ?_ | refine sq_r ?_ | refine sq_e ?_ | refine bk_n ?_ | refine bk_r ?_ | refine bk_e rfl ?_ | refine bk_x rfl ?_ | refine ct_seq ?_ | refine ct_region rfl ?_ | refine ct_skip ?_ | refine ct_label ?_ | refine ct_block ?_ | refine ct_exit ?_ | refine ct_ret ?_ | refine ct_scope ?_ | refine ct_true rfl ?_ | refine ct_false rfl ?_ | refine lt_step ?_))
  rename_i b13 b14
  have hkn : Kn L U d t [((t : Int), 1, 0)] := ⟨(fun k i v h => by
    unfold fG at h
    split at h
    · rename_i e
      cases h
      exact ⟨t, e, (npaths_self L U d t).symm⟩
    · cases h), 0, 1, (by unfold fG; rw [if_pos rfl])⟩
  refine rt_step rfl rfl rfl (st_call rfl rfl rfl rfl (CallT.perm (count_ct M t b13 b11 b12 b14 bm b bo L U d vs He hok hr hd ht 31001 f [((t : Int), 1, 0)] 1 _ _ (by exact drop_auto) ⟨by exact in_auto, by exact in_auto, by exact in_auto, by exact in_auto, by exact in_auto, by exact in_auto⟩ hf hc (by have := hbd f; omega) hkn fun ms' c' _ _ => ?_) pm2))
  repeat (first | (first | refine rt_nil ?_ | (refine isRun ?_; first | refine x1 ?_ | refine x2 ?_ | refine x3 fun _ => ?_ | refine x4 fun _ => ?_ | refine x5 fun _ => ?_ | (refine rt_step rfl rfl rfl ?_; first | refine st_buildSlice rfl (zr rfl) rfl rfl rfl rfl rfl rfl fun _ => ?_ | refine st_A rfl rfl (fun _ => rfl) rfl fun _ => ?_) | refine x8 ?_ | refine rt_skip rfl rfl rfl ?_ | refine rt_skip0 rfl rfl ?_)) | (first | refine sq_n ?_ | refine sq_r ?_ | refine sq_e ?_ | refine bk_n ?_ | refine bk_r ?_ | refine bk_e rfl ?_ | refine bk_x rfl ?_ | refine ct_seq ?_ | refine ct_region rfl ?_ | refine ct_skip ?_ | refine ct_label ?_ | refine ct_block ?_ | refine ct_exit ?_ | refine ct_ret ?_ | refine ct_scope ?_ | refine ct_true rfl ?_ | refine ct_false rfl ?_ | refine lt_step ?_))
  exact re_1 rfl rfl (by exact drop_auto) (hgood M f t d rfl rfl rfl hok hf ht hd)
end
end Go.Proofs.Ytdaigoiekkofoaa.Abs

/- The contract of the statement SpfNext. -/
namespace Go.Proofs.Ytdaigoiekkofoaa.Abs
open Go
set_option linter.unusedVariables false
def CntS (N k k2 : Int) (L : List Ln) (U : List Bool) (x : Int) : Prop := (valB N k k2 L U → ∃ d, IsDist (Rn L U) N.toNat k2.toNat d ∧ x = npaths L U d k2.toNat k.toNat) ∧ (¬ valB N k k2 L U → x = 0)
theorem CntS.uniq {N k k2 : Int} {L : List Ln} {U : List Bool} {l l' : Int} (h : CntS N k k2 L U l) (h' : CntS N k k2 L U l') : l = l' := by
  by_cases hv : valB N k k2 L U
  · obtain ⟨d, h1, rfl⟩ := h.1 hv
    obtain ⟨d', h2, rfl⟩ := h'.1 hv
    rw [h1.uniq h2]
  · rw [h.2 hv, h'.2 hv]
section
variable {B0 : Nat} {old : Nat → Option (List Value)} {n : Nat} {H : Hp} {Q : Value → Hp → Prop}
set_option maxRecDepth 10000
set_option maxHeartbeats 4000000
variable {N k k2 : Int} {ad ad2 : Option Addr} {c c2 : Nat} {L : List Ln} {U : List Bool}
theorem pnextS (h1 : Arr (cx B0 old) H ad 3 encLn L) (h2 : Arr (cx B0 old) H ad2 1 encBo U) (hl : L.length ≤ 60) (hQ : ∀ v Hs, Res (cx B0 old) (NextS N k k2 L U) v (Hs ++ H) → Q v (Hs ++ H)) :
    CallT (cx B0 old) (acall (cx B0 old) ansP (n + 5)) 16 [.int .i64 N, .slice ad L.length c, .slice ad2 U.length c2, .int .i64 k, .int .i64 k2] H Q :=
  pnext_ct N k k2 ad ad2 c c2 L U h1 h2 (by omega) (fun M s t d v Hs e1 e2 e3 hok hs ht hd ho => by
    subst e1 e2 e3
    exact hQ _ Hs (res_own ⟨fun _ => ⟨d, hd, rfl⟩, fun hno => absurd (show valB M s t L U from ⟨hok, by omega, by omega, by omega, by omega⟩) hno⟩ ho)) (fun hno => hQ _ [] (res_nil' ⟨fun h => absurd h hno, fun _ => rfl⟩))
theorem ppathsS (h1 : Arr (cx B0 old) H ad 3 encLn L) (h2 : Arr (cx B0 old) H ad2 1 encBo U) (hl : L.length ≤ 60) (hQ : ∀ x, CntS N k k2 L U x → Q (.int .i64 x) H) :
    CallT (cx B0 old) (acall (cx B0 old) ansP (n + 31001 + 2)) 18 [.int .i64 N, .slice ad L.length c, .slice ad2 U.length c2, .int .i64 k, .int .i64 k2] H Q :=
  ppaths_ct N k k2 ad ad2 c c2 L U h1 h2 (by omega) (fun M s t d e1 e2 e3 hok hs ht hd => by
    subst e1 e2 e3
    exact hQ _ ⟨fun _ => ⟨d, hd, rfl⟩, fun hno => absurd (show valB M s t L U from ⟨hok, by omega, by omega, by omega, by omega⟩) hno⟩) (fun hno => hQ _ ⟨fun h => absurd h hno, fun _ => rfl⟩)
theorem rpathsS (h1 : Arr (cx B0 old) H ad 3 encLn L) (h2 : Arr (cx B0 old) H ad2 1 encBo U) (hl : L.length ≤ 60) (hQ : ∀ x, CntS N k k2 L U x → Q (.int .i64 x) H) :
    CallT (cx B0 old) (acall (cx B0 old) ansP (n + 6)) 19 [.int .i64 N, .slice ad L.length c, .slice ad2 U.length c2, .int .i64 k, .int .i64 k2] H Q :=
  rpaths_ct N k k2 ad ad2 c c2 L U h1 h2 (by omega) (fun M s t d e1 e2 e3 hok hs ht hd => by
    subst e1 e2 e3
    exact hQ _ ⟨fun _ => ⟨d, hd, rfl⟩, fun hno => absurd (show valB M s t L U from ⟨hok, by omega, by omega, by omega, by omega⟩) hno⟩) (fun hno => hQ _ ⟨fun h => absurd h hno, fun _ => rfl⟩)
theorem spfnext_ct (N k k2 : Int) (ad ad2 : Option Addr) (c c2 : Nat) (L : List Ln) (U : List Bool) (h1 : ArrW (cx B0 old) H ad 3 encLn L) (h2 : ArrW (cx B0 old) H ad2 1 encBo U) (hQ : ∀ H', Q (.bool true) H') :
    CallT (cx B0 old) (acall (cx B0 old) ansP (n + 31001 + 3)) 3 [.int .i64 N, .slice ad L.length c, .slice ad2 U.length c2, .int .i64 k, .int .i64 k2] H Q := by
  refine call_in 69 rfl Try.func3 rfl rfl ?_
  repeat' (first | (first | refine rt_nil ?_ | (refine isRun ?_; first | refine x1 ?_ | refine x2 ?_ | refine x3 fun _ => ?_ | refine x4 fun _ => ?_ | refine x5 fun _ => ?_ | (refine rt_step rfl rfl rfl ?_; first | refine st_buildSlice rfl (zr rfl) rfl rfl rfl rfl rfl rfl fun _ => ?_ | refine st_A rfl rfl (fun _ => rfl) rfl fun _ => ?_) | refine x8 ?_ | refine rt_skip rfl rfl rfl ?_ | refine rt_skip0 rfl rfl ?_)) | (first | refine sq_n ?_ | refine sq_r ?_ | refine sq_e ?_ | refine bk_n ?_ | refine bk_r ?_ | refine bk_e rfl ?_ | refine bk_x rfl ?_ | refine ct_seq ?_ | refine ct_region rfl ?_ | refine ct_skip ?_ | refine ct_label ?_ | refine ct_block ?_ | refine ct_exit ?_ | refine ct_ret ?_ | refine ct_scope ?_ | refine ct_true rfl ?_ | refine ct_false rfl ?_ | refine lt_step ?_) | (first | refine pl_nil ?_ | (refine isPlan ?_; first | refine y1 ?_ | refine y2 ?_ | refine pl_skip rfl rfl rfl rfl rfl ?_ | refine pl_skip0 rfl rfl rfl rfl ?_)) | (refine isPlan ?_; refine y3 ?_) | (first | (refine isRun ?_; refine z1 (fun hc => ?_) (fun hc => ?_)) | refine z2 (fun hc => ?_) (fun hc => ?_) | (refine isPlan ?_; refine z3 (fun hc => ?_) (fun hc => ?_))))
  · refine rt_step rfl rfl rfl (st_call rfl rfl rfl rfl (call_ext rfl ?_))
    repeat (first | (first | refine rt_nil ?_ | (refine isRun ?_; first | refine x1 ?_ | refine x2 ?_ | refine x3 fun _ => ?_ | refine x4 fun _ => ?_ | refine x5 fun _ => ?_ | (refine rt_step rfl rfl rfl ?_; first | refine st_buildSlice rfl (zr rfl) rfl rfl rfl rfl rfl rfl fun _ => ?_ | refine st_A rfl rfl (fun _ => rfl) rfl fun _ => ?_) | refine x8 ?_ | refine rt_skip rfl rfl rfl ?_ | refine rt_skip0 rfl rfl ?_)) | (first | refine sq_n ?_ | refine sq_r ?_ | refine sq_e ?_ | refine bk_n ?_ | refine bk_r ?_ | refine bk_e rfl ?_ | refine bk_x rfl ?_ | refine ct_seq ?_ | refine ct_region rfl ?_ | refine ct_skip ?_ | refine ct_label ?_ | refine ct_block ?_ | refine ct_exit ?_ | refine ct_ret ?_ | refine ct_scope ?_ | refine ct_true rfl ?_ | refine ct_false rfl ?_ | refine lt_step ?_))
    exact re_1 rfl rfl (by exact drop_auto) (hQ H)
  · refine rt_step rfl rfl rfl (st_call rfl rfl rfl rfl (call_ext rfl ?_))
    repeat (first | (first | refine rt_nil ?_ | (refine isRun ?_; first | refine x1 ?_ | refine x2 ?_ | refine x3 fun _ => ?_ | refine x4 fun _ => ?_ | refine x5 fun _ => ?_ | (refine rt_step rfl rfl rfl ?_; first | refine st_buildSlice rfl (zr rfl) rfl rfl rfl rfl rfl rfl fun _ => ?_ | refine st_A rfl rfl (fun _ => rfl) rfl fun _ => ?_) | refine x8 ?_ | refine rt_skip rfl rfl rfl ?_ | refine rt_skip0 rfl rfl ?_)) | (first | refine sq_n ?_ | refine sq_r ?_ | refine sq_e ?_ | refine bk_n ?_ | refine bk_r ?_ | refine bk_e rfl ?_ | refine bk_x rfl ?_ | refine ct_seq ?_ | refine ct_region rfl ?_ | refine ct_skip ?_ | refine ct_label ?_ | refine ct_block ?_ | refine ct_exit ?_ | refine ct_ret ?_ | refine ct_scope ?_ | refine ct_true rfl ?_ | refine ct_false rfl ?_ | refine lt_step ?_))
    exact re_1 rfl rfl (by exact drop_auto) (hQ H)
  refine rt_step rfl rfl rfl (st_call rfl rfl rfl rfl (own13_ct h1 (by omega) fun v1 H1 ho1 => ?_))
  repeat (first | (first | refine rt_nil ?_ | (refine isRun ?_; first | refine x1 ?_ | refine x2 ?_ | refine x3 fun _ => ?_ | refine x4 fun _ => ?_ | refine x5 fun _ => ?_ | (refine rt_step rfl rfl rfl ?_; first | refine st_buildSlice rfl (zr rfl) rfl rfl rfl rfl rfl rfl fun _ => ?_ | refine st_A rfl rfl (fun _ => rfl) rfl fun _ => ?_) | refine x8 ?_ | refine rt_skip rfl rfl rfl ?_ | refine rt_skip0 rfl rfl ?_)) | (first | refine sq_n ?_ | refine sq_r ?_ | refine sq_e ?_ | refine bk_n ?_ | refine bk_r ?_ | refine bk_e rfl ?_ | refine bk_x rfl ?_ | refine ct_seq ?_ | refine ct_region rfl ?_ | refine ct_skip ?_ | refine ct_label ?_ | refine ct_block ?_ | refine ct_exit ?_ | refine ct_ret ?_ | refine ct_scope ?_ | refine ct_true rfl ?_ | refine ct_false rfl ?_ | refine lt_step ?_))
  refine rt_step rfl rfl rfl (st_call rfl rfl rfl rfl (own14_ct (h2.weak (by exact drop_auto)) (by omega) fun v2 H2 ho2 => ?_))
  obtain ⟨a1, c1, rfl, w1⟩ := ho1.arrW (C := cx B0 old) encLn_len
  obtain ⟨a2, c2', rfl, w2⟩ := ho2.arrW (C := cx B0 old) encBo_len
  have hL : L.length ≤ 60 := by omega
  have hU : U.length ≤ 60 := by omega
  have r1 : Arr (cx B0 old) (H2 ++ (H1 ++ H)) a1 3 encLn L := ((w1 [] H).arr encLn_len).weak (List.sublist_append_right _ _)
  have r2 : Arr (cx B0 old) (H2 ++ (H1 ++ H)) a2 1 encBo U := (w2 [] (H1 ++ H)).arr encBo_len
  have r3 : Arr (cx B0 old) (H2 ++ (H1 ++ H)) ad 3 encLn L := (h1.arr encLn_len).weak ((List.sublist_append_right _ _).trans (List.sublist_append_right _ _))
  have r4 : Arr (cx B0 old) (H2 ++ (H1 ++ H)) ad2 1 encBo U := (h2.arr encBo_len).weak ((List.sublist_append_right _ _).trans (List.sublist_append_right _ _))
  clear w1 w2 h1 h2 ho1 ho2
  generalize H2 ++ (H1 ++ H) = G at *
  repeat (first | (first | refine rt_nil ?_ | (refine isRun ?_; first | refine x1 ?_ | refine x2 ?_ | refine x3 fun _ => ?_ | refine x4 fun _ => ?_ | refine x5 fun _ => ?_ | (refine rt_step rfl rfl rfl ?_; first | refine st_buildSlice rfl (zr rfl) rfl rfl rfl rfl rfl rfl fun _ => ?_ | refine st_A rfl rfl (fun _ => rfl) rfl fun _ => ?_) | refine x8 ?_ | refine rt_skip rfl rfl rfl ?_ | refine rt_skip0 rfl rfl ?_)) | (first | refine sq_n ?_ | refine sq_r ?_ | refine sq_e ?_ | refine bk_n ?_ | refine bk_r ?_ | refine bk_e rfl ?_ | refine bk_x rfl ?_ | refine ct_seq ?_ | refine ct_region rfl ?_ | refine ct_skip ?_ | refine ct_label ?_ | refine ct_block ?_ | refine ct_exit ?_ | refine ct_ret ?_ | refine ct_scope ?_ | refine ct_true rfl ?_ | refine ct_false rfl ?_ | refine lt_step ?_))
  refine rt_step rfl rfl rfl (st_call rfl rfl rfl rfl (pnextS r1 r2 hL fun v3 H3 q3 => ?_))
  repeat (first | (first | refine rt_nil ?_ | (refine isRun ?_; first | refine x1 ?_ | refine x2 ?_ | refine x3 fun _ => ?_ | refine x4 fun _ => ?_ | refine x5 fun _ => ?_ | (refine rt_step rfl rfl rfl ?_; first | refine st_buildSlice rfl (zr rfl) rfl rfl rfl rfl rfl rfl fun _ => ?_ | refine st_A rfl rfl (fun _ => rfl) rfl fun _ => ?_) | refine x8 ?_ | refine rt_skip rfl rfl rfl ?_ | refine rt_skip0 rfl rfl ?_)) | (first | refine sq_n ?_ | refine sq_r ?_ | refine sq_e ?_ | refine bk_n ?_ | refine bk_r ?_ | refine bk_e rfl ?_ | refine bk_x rfl ?_ | refine ct_seq ?_ | refine ct_region rfl ?_ | refine ct_skip ?_ | refine ct_label ?_ | refine ct_block ?_ | refine ct_exit ?_ | refine ct_ret ?_ | refine ct_scope ?_ | refine ct_true rfl ?_ | refine ct_false rfl ?_ | refine lt_step ?_))
  refine rt_step rfl rfl rfl (st_call rfl rfl rfl rfl (rnextS (r3.weak (by exact drop_auto)) (r4.weak (by exact drop_auto)) hL fun v4 H4 q4 => ?_))
  repeat (first | (first | refine rt_nil ?_ | (refine isRun ?_; first | refine x1 ?_ | refine x2 ?_ | refine x3 fun _ => ?_ | refine x4 fun _ => ?_ | refine x5 fun _ => ?_ | (refine rt_step rfl rfl rfl ?_; first | refine st_buildSlice rfl (zr rfl) rfl rfl rfl rfl rfl rfl fun _ => ?_ | refine st_A rfl rfl (fun _ => rfl) rfl fun _ => ?_) | refine x8 ?_ | refine rt_skip rfl rfl rfl ?_ | refine rt_skip0 rfl rfl ?_)) | (first | refine sq_n ?_ | refine sq_r ?_ | refine sq_e ?_ | refine bk_n ?_ | refine bk_r ?_ | refine bk_e rfl ?_ | refine bk_x rfl ?_ | refine ct_seq ?_ | refine ct_region rfl ?_ | refine ct_skip ?_ | refine ct_label ?_ | refine ct_block ?_ | refine ct_exit ?_ | refine ct_ret ?_ | refine ct_scope ?_ | refine ct_true rfl ?_ | refine ct_false rfl ?_ | refine lt_step ?_))
  refine rt_step rfl rfl rfl (st_call rfl rfl rfl rfl (same15_ct (fun _ _ => NextS.uniq) (fun _ => NextS.len) (q3.weak (by exact drop_auto)) q4 ?_))
  repeat (first | (first | refine rt_nil ?_ | (refine isRun ?_; first | refine x1 ?_ | refine x2 ?_ | refine x3 fun _ => ?_ | refine x4 fun _ => ?_ | refine x5 fun _ => ?_ | (refine rt_step rfl rfl rfl ?_; first | refine st_buildSlice rfl (zr rfl) rfl rfl rfl rfl rfl rfl fun _ => ?_ | refine st_A rfl rfl (fun _ => rfl) rfl fun _ => ?_) | refine x8 ?_ | refine rt_skip rfl rfl rfl ?_ | refine rt_skip0 rfl rfl ?_)) | (first | refine sq_n ?_ | refine sq_r ?_ | refine sq_e ?_ | refine bk_n ?_ | refine bk_r ?_ | refine bk_e rfl ?_ | refine bk_x rfl ?_ | refine ct_seq ?_ | refine ct_region rfl ?_ | refine ct_skip ?_ | refine ct_label ?_ | refine ct_block ?_ | refine ct_exit ?_ | refine ct_ret ?_ | refine ct_scope ?_ | refine ct_true rfl ?_ | refine ct_false rfl ?_ | refine lt_step ?_))
  refine rt_step rfl rfl rfl (st_call rfl rfl rfl rfl (ppathsS (r1.weak (by exact drop_auto)) (r2.weak (by exact drop_auto)) hL fun x5 q5 => ?_))
  repeat (first | (first | refine rt_nil ?_ | (refine isRun ?_; first | refine x1 ?_ | refine x2 ?_ | refine x3 fun _ => ?_ | refine x4 fun _ => ?_ | refine x5 fun _ => ?_ | (refine rt_step rfl rfl rfl ?_; first | refine st_buildSlice rfl (zr rfl) rfl rfl rfl rfl rfl rfl fun _ => ?_ | refine st_A rfl rfl (fun _ => rfl) rfl fun _ => ?_) | refine x8 ?_ | refine rt_skip rfl rfl rfl ?_ | refine rt_skip0 rfl rfl ?_)) | (first | refine sq_n ?_ | refine sq_r ?_ | refine sq_e ?_ | refine bk_n ?_ | refine bk_r ?_ | refine bk_e rfl ?_ | refine bk_x rfl ?_ | refine ct_seq ?_ | refine ct_region rfl ?_ | refine ct_skip ?_ | refine ct_label ?_ | refine ct_block ?_ | refine ct_exit ?_ | refine ct_ret ?_ | refine ct_scope ?_ | refine ct_true rfl ?_ | refine ct_false rfl ?_ | refine lt_step ?_))
  refine rt_step rfl rfl rfl (st_call rfl rfl rfl rfl (rpathsS (r3.weak (by exact drop_auto)) (r4.weak (by exact drop_auto)) hL fun x6 q6 => ?_))
  obtain rfl := q5.uniq q6
  repeat (first | (first | refine rt_nil ?_ | (refine isRun ?_; first | refine x1 ?_ | refine x2 ?_ | refine x3 fun _ => ?_ | refine x4 fun _ => ?_ | refine x5 fun _ => ?_ | (refine rt_step rfl rfl rfl ?_; first | refine st_buildSlice rfl (zr rfl) rfl rfl rfl rfl rfl rfl fun _ => ?_ | refine st_A rfl rfl (fun _ => rfl) rfl fun _ => ?_) | refine x8 ?_ | refine rt_skip rfl rfl rfl ?_ | refine rt_skip0 rfl rfl ?_)) | (first | refine sq_n ?_ | refine sq_r ?_ | refine sq_e ?_ | refine bk_n ?_ | refine bk_r ?_ | refine bk_e rfl ?_ | refine bk_x rfl ?_ | refine ct_seq ?_ | refine ct_region rfl ?_ | refine ct_skip ?_ | refine ct_label ?_ | refine ct_block ?_ | refine ct_exit ?_ | refine ct_ret ?_ | refine ct_scope ?_ | refine ct_true rfl ?_ | refine ct_false rfl ?_ | refine lt_step ?_))
  rw [beq_self_eq_true x5]
  repeat (first | (first | refine rt_nil ?_ | (refine isRun ?_; first | refine x1 ?_ | refine x2 ?_ | refine x3 fun _ => ?_ | refine x4 fun _ => ?_ | refine x5 fun _ => ?_ | (refine rt_step rfl rfl rfl ?_; first | refine st_buildSlice rfl (zr rfl) rfl rfl rfl rfl rfl rfl fun _ => ?_ | refine st_A rfl rfl (fun _ => rfl) rfl fun _ => ?_) | refine x8 ?_ | refine rt_skip rfl rfl rfl ?_ | refine rt_skip0 rfl rfl ?_)) | (first | refine sq_n ?_ | refine sq_r ?_ | refine sq_e ?_ | refine bk_n ?_ | refine bk_r ?_ | refine bk_e rfl ?_ | refine bk_x rfl ?_ | refine ct_seq ?_ | refine ct_region rfl ?_ | refine ct_skip ?_ | refine ct_label ?_ | refine ct_block ?_ | refine ct_exit ?_ | refine ct_ret ?_ | refine ct_scope ?_ | refine ct_true rfl ?_ | refine ct_false rfl ?_ | refine lt_step ?_))
  refine rt_step rfl rfl rfl (st_call rfl rfl rfl rfl (same20_ct (r1.weak (by exact drop_auto)) (r3.weak (by exact drop_auto)) hL ?_))
  repeat (first | (first | refine rt_nil ?_ | (refine isRun ?_; first | refine x1 ?_ | refine x2 ?_ | refine x3 fun _ => ?_ | refine x4 fun _ => ?_ | refine x5 fun _ => ?_ | (refine rt_step rfl rfl rfl ?_; first | refine st_buildSlice rfl (zr rfl) rfl rfl rfl rfl rfl rfl fun _ => ?_ | refine st_A rfl rfl (fun _ => rfl) rfl fun _ => ?_) | refine x8 ?_ | refine rt_skip rfl rfl rfl ?_ | refine rt_skip0 rfl rfl ?_)) | (first | refine sq_n ?_ | refine sq_r ?_ | refine sq_e ?_ | refine bk_n ?_ | refine bk_r ?_ | refine bk_e rfl ?_ | refine bk_x rfl ?_ | refine ct_seq ?_ | refine ct_region rfl ?_ | refine ct_skip ?_ | refine ct_label ?_ | refine ct_block ?_ | refine ct_exit ?_ | refine ct_ret ?_ | refine ct_scope ?_ | refine ct_true rfl ?_ | refine ct_false rfl ?_ | refine lt_step ?_))
  refine rt_step rfl rfl rfl (st_call rfl rfl rfl rfl (same21_ct (r2.weak (by exact drop_auto)) (r4.weak (by exact drop_auto)) hU ?_))
  repeat (first | (first | refine rt_nil ?_ | (refine isRun ?_; first | refine x1 ?_ | refine x2 ?_ | refine x3 fun _ => ?_ | refine x4 fun _ => ?_ | refine x5 fun _ => ?_ | (refine rt_step rfl rfl rfl ?_; first | refine st_buildSlice rfl (zr rfl) rfl rfl rfl rfl rfl rfl fun _ => ?_ | refine st_A rfl rfl (fun _ => rfl) rfl fun _ => ?_) | refine x8 ?_ | refine rt_skip rfl rfl rfl ?_ | refine rt_skip0 rfl rfl ?_)) | (first | refine sq_n ?_ | refine sq_r ?_ | refine sq_e ?_ | refine bk_n ?_ | refine bk_r ?_ | refine bk_e rfl ?_ | refine bk_x rfl ?_ | refine ct_seq ?_ | refine ct_region rfl ?_ | refine ct_skip ?_ | refine ct_label ?_ | refine ct_block ?_ | refine ct_exit ?_ | refine ct_ret ?_ | refine ct_scope ?_ | refine ct_true rfl ?_ | refine ct_false rfl ?_ | refine lt_step ?_))
  refine rt_step rfl rfl rfl (st_call rfl rfl rfl rfl (call_ext rfl ?_))
  repeat (first | (first | refine rt_nil ?_ | (refine isRun ?_; first | refine x1 ?_ | refine x2 ?_ | refine x3 fun _ => ?_ | refine x4 fun _ => ?_ | refine x5 fun _ => ?_ | (refine rt_step rfl rfl rfl ?_; first | refine st_buildSlice rfl (zr rfl) rfl rfl rfl rfl rfl rfl fun _ => ?_ | refine st_A rfl rfl (fun _ => rfl) rfl fun _ => ?_) | refine x8 ?_ | refine rt_skip rfl rfl rfl ?_ | refine rt_skip0 rfl rfl ?_)) | (first | refine sq_n ?_ | refine sq_r ?_ | refine sq_e ?_ | refine bk_n ?_ | refine bk_r ?_ | refine bk_e rfl ?_ | refine bk_x rfl ?_ | refine ct_seq ?_ | refine ct_region rfl ?_ | refine ct_skip ?_ | refine ct_label ?_ | refine ct_block ?_ | refine ct_exit ?_ | refine ct_ret ?_ | refine ct_scope ?_ | refine ct_true rfl ?_ | refine ct_false rfl ?_ | refine lt_step ?_))
  exact re_1 rfl rfl (List.Sublist.refl _) (hQ _)
end
end Go.Proofs.Ytdaigoiekkofoaa.Abs

/- Contracts and readings for the statement SpfNext, together. -/
