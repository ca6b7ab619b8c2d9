/- The keys of a map, collected and sorted. -/
import Derived.Test.YtoimfchhmocgeaaQm
import Derived.Test.YtoimfchhmocgeaaSep11
namespace Go.Proofs.Ytoimfchhmocgeaa.Abs
open Go
set_option linter.unusedVariables false
section
variable {K V : Type}
theorem nodup_map_inj {α β : Type} {f : α → β} : ∀ {L : List α}, (L.map f).Nodup → ∀ {x y : α}, x ∈ L → y ∈ L → f x = f y → x = y
  | [], _, x, y, hx, _, _ => by cases hx
  | a :: l, hn, x, y, hx, hy, e => by
    rw [List.map_cons, List.nodup_cons] at hn
    rcases List.mem_cons.1 hx with h1 | h1 <;> rcases List.mem_cons.1 hy with h2 | h2
    · rw [h1, h2]
    · exact absurd (by rw [← h1, e]; exact List.mem_map_of_mem h2) hn.1
    · exact absurd (by rw [← h2, ← e]; exact List.mem_map_of_mem h1) hn.1
    · exact nodup_map_inj hn.2 h1 h2 e
theorem nd_len {α : Type} : ∀ {l m : List α}, l.Nodup → (∀ x ∈ l, x ∈ m) → l.length ≤ m.length
  | [], m, _, _ => Nat.zero_le _
  | a :: l, m, hn, h => by
    obtain ⟨m1, m2, rfl⟩ := List.append_of_mem (h a (List.mem_cons_self ..))
    rw [List.nodup_cons] at hn
    have := nd_len (m := m1 ++ m2) hn.2 fun x hx => by
      have h1 := h x (List.mem_cons_of_mem _ hx)
      rcases List.mem_append.1 h1 with h2 | h2
      · exact List.mem_append_left _ h2
      · rcases List.mem_cons.1 h2 with rfl | h2
        · exact absurd hx hn.1
        · exact List.mem_append_right _ h2
    simp only [List.length_append, List.length_cons] at this ⊢
    omega
theorem Born.inj {ms : List (K × V × Nat)} {c : Nat} (h : Born ms c) {p q : K × V × Nat} (hp : p ∈ ms) (hq : q ∈ ms) (e : p.2.2 = q.2.2) : p = q := nodup_map_inj (f := fun p : K × V × Nat => p.2.2) h.nd hp hq e
/-- What a round of a range over a map's keys leaves. -/
def RndI (Lp : Nat) (fr : Fr) (ps : List Nat) (A B : Code) (it : Nat) (io : AObj) (St : Hp → Prop) (v : Value) (H' : Hp) : Prop :=
  v = .bool true ∧ ∃ R, St R ∧ ((Lp, .loop 0 none fr ps A B) :: (it, io) :: R).Sublist H'
end
section
variable {B0 : Nat} {old : Nat → Option (List Value)} {n : Nat} {H Hs : Hp} {Q : Value → Hp → Prop} {eb c : Nat} {ms : List (Kk × Nat × Nat)}
set_option maxRecDepth 10000
set_option maxHeartbeats 4000000
theorem keys73_ct (hQ : ∀ b2, Q (.func (.func 82) #[] #[.pointer (some ⟨b2, 0, none⟩)]) ((b2, .row [.map (some eb)] 1 false) :: H)) : CallT (cx B0 old) (acall (cx B0 old) ansP (n + 1)) 73 [.map (some eb)] H Q := by
  refine call_in1 4 rfl Try.func73 rfl rfl ?_
  repeat (first | refine Z0 ?_ | (refine ZR ?_; first | refine x1 ?_ | refine x2 ?_ | refine x8 ?_ | refine Z1 ?_ | refine Z2 ?_ | refine x3 fun _ => ?_ | refine x4 fun _ => ?_ | refine x5 fun _ => ?_ | refine Z3 fun _ => ?_ | refine Z4 fun _ => ?_) | refine ZC ?_)
  exact re_1 rfl rfl (by exact drop_auto) (hQ _)
theorem it82_ct (b2 Lp nt : Nat) (lf : Sl) (fr : Fr) (ps : List Nat) (A B : Code) (St : List (Kk × Nat × Nat) → Hp → Prop) (R0 : Hp) (hps : ps.length = 1) (hfr : FrHas nt lf fr) (hb : Born ms c)
    (hst : ∀ vs R, St vs R → (b2, AObj.row [.map (some eb)] 1 false) ∈ R ∧ (eb, AObj.map (mkH ekM evP ms) c) ∈ R) (h0 : St [] R0)
    (hround : ∀ vs R q p it io, p ∈ ms → (vs ++ [p]).length ≤ ms.length → St vs R → CodeT (cx B0 old) (ahand (cx B0 old) ansP n) true nt A (parL nt ps [ekM p.1] lf) ((Lp, .loop 0 q fr ps A B) :: (it, io) :: R) fun e l2 H2 => match e with
      | .normal => ∃ q' H3, H2.Perm ((Lp, .loop 0 q' fr ps A B) :: H3) ∧ CodeT (cx B0 old) (ahand (cx B0 old) ansP n) true nt B l2 ((Lp, .loop 1 q' fr ps A B) :: H3) fun e l3 H4 => rndΦ Lp fr ps A B (RndI Lp fr ps A B it io (St (vs ++ [p]))) e H4
      | _ => False)
    (hQ : ∀ vs R v, St vs R → vs.Perm ms → Q v ((Lp, .loop 0 none fr ps A B) :: R)) :
    CallT (cx B0 old) (acall (cx B0 old) ansP (n + 2)) 82 [.func (.yield Lp) #[] #[], .pointer (some ⟨b2, 0, none⟩)] ((Lp, .loop 0 none fr ps A B) :: R0) Q := by
  refine call_in2 14 rfl Try.func82 rfl rfl ?_
  obtain ⟨g1, g2⟩ := hst _ _ h0
  have hL0 : ∀ H', R0.Sublist H' → LdT (cx B0 old) 82 H' b2 0 (.map (some eb)) := fun H' hs => ld1 (.own _ _ (hs.subset g1)) rfl (sz rfl) rfl
  repeat (first | refine Z0 ?_ | (refine ZR ?_; first | refine x1 ?_ | refine x2 ?_ | refine x8 ?_ | refine Z1 ?_ | refine Z2 ?_ | refine x3 fun _ => ?_ | refine x4 fun _ => ?_ | refine x5 fun _ => ?_ | refine Z3 fun _ => ?_ | refine Z4 fun _ => ?_) | refine ZC ?_)
  refine rt_step rfl rfl rfl (st_range rfl (List.Mem.tail _ g2) rfl fun it => ?_)
  repeat (first | refine Z0 ?_ | (refine ZR ?_; first | refine x1 ?_ | refine x2 ?_ | refine x8 ?_ | refine Z1 ?_ | refine Z2 ?_ | refine x3 fun _ => ?_ | refine x4 fun _ => ?_ | refine x5 fun _ => ?_ | refine Z3 fun _ => ?_ | refine Z4 fun _ => ?_) | refine ZC ?_)
  refine CodeT.perm ?_ (List.Perm.swap _ _ _)
  refine loop_ind (ι := List (Kk × Nat × Nat) × Hp) ([], R0) (fun i => ms.length - i.1.length) (fun i => i.1.Nodup ∧ (∀ p ∈ i.1, p ∈ ms) ∧ St i.1 i.2)
    (fun i => [(5, .pointer (some ⟨it, 0, none⟩)), (0, .func (.yield Lp) #[] #[])])
    (fun i => (Lp, .loop 0 none fr ps A B) :: (it, .iter (some eb) c (i.1.map (·.2.2)) c) :: i.2) ⟨List.nodup_nil, fun p h => (by cases h), h0⟩ (by repeat (first | exact SubL.nil | refine SubL.cons rfl ?_)) (List.Sublist.refl _) ?_
  rintro ⟨vs, R⟩ ⟨hnd, hsub, hs⟩
  dsimp only at hnd hsub hs ⊢
  obtain ⟨g1, g2⟩ := hst _ _ hs
  have hmsd : ms.Nodup := (List.pairwise_map.1 hb.nd).imp fun h e => h (by rw [e])
  refine CodeT.perm ?_ (List.Perm.swap _ _ _)
  repeat (first | refine Z0 ?_ | (refine ZR ?_; first | refine x1 ?_ | refine x2 ?_ | refine x8 ?_ | refine Z1 ?_ | refine Z2 ?_ | refine x3 fun _ => ?_ | refine x4 fun _ => ?_ | refine x5 fun _ => ?_ | refine Z3 fun _ => ?_ | refine Z4 fun _ => ?_) | refine ZC ?_)
  refine rt_step rfl rfl rfl (st_nextH rfl (List.Mem.tail _ g2) hb (fun hall => ?_) (fun p hp hnp => ?_))
  · repeat (first | refine Z0 ?_ | (refine ZR ?_; first | refine x1 ?_ | refine x2 ?_ | refine x8 ?_ | refine Z1 ?_ | refine Z2 ?_ | refine x3 fun _ => ?_ | refine x4 fun _ => ?_ | refine x5 fun _ => ?_ | refine Z3 fun _ => ?_ | refine Z4 fun _ => ?_) | refine ZC ?_)
    have hperm : vs.Perm ms := by
      rw [List.perm_ext_iff_of_nodup hnd hmsd]
      refine fun p => ⟨hsub p, fun hp => ?_⟩
      obtain ⟨q, hq, e⟩ := List.mem_map.1 (hall p hp)
      have e2 : q = p := by
        have h1 := hsub q hq
        exact hb.inj h1 hp e
      exact e2 ▸ hq
    exact re_0 rfl (List.sublist_cons_self _ _) (fun v => hQ vs R v hs hperm)
  repeat (first | refine Z0 ?_ | (refine ZR ?_; first | refine x1 ?_ | refine x2 ?_ | refine x8 ?_ | refine Z1 ?_ | refine Z2 ?_ | refine x3 fun _ => ?_ | refine x4 fun _ => ?_ | refine x5 fun _ => ?_ | refine Z3 fun _ => ?_ | refine Z4 fun _ => ?_) | refine ZC ?_)
  refine rt_r rfl rfl rfl (rd_entryH rfl (List.Mem.head _) (List.Mem.tail _ (List.Mem.tail _ g2)) hb hp) ?_
  have hnd' : (vs ++ [p]).Nodup := List.nodup_append.2 ⟨hnd, by simp, fun a ha b hb e => by
    rw [List.mem_singleton.1 hb] at e
    exact hnp (by rw [← e]; exact List.mem_map_of_mem ha)⟩
  have hsub2 : ∀ q ∈ vs ++ [p], q ∈ ms := fun q hq => by
    rcases List.mem_append.1 hq with h | h
    · exact hsub q h
    · rw [List.mem_singleton.1 h]; exact hp
  have hlen : (vs ++ [p]).length ≤ ms.length := nd_len hnd' hsub2
  rw [ekM_eq, evP_eq]
  repeat (first | refine Z0 ?_ | (refine ZR ?_; first | refine x1 ?_ | refine x2 ?_ | refine x8 ?_ | refine Z1 ?_ | refine Z2 ?_ | refine x3 fun _ => ?_ | refine x4 fun _ => ?_ | refine x5 fun _ => ?_ | refine Z3 fun _ => ?_ | refine Z4 fun _ => ?_) | refine ZC ?_)
  rename_i b3
  refine rt_step rfl rfl rfl (st_yield (q := none) rfl rfl rfl (by rw [hps]; rfl) (H1 := (b3, _) :: (it, _) :: R) (((List.Perm.swap _ _ _).cons _).trans (List.Perm.swap _ _ _)) hfr (((hround vs R none p it (.iter (some eb) c (vs.map (·.2.2) ++ [p.2.2]) c) hp hlen hs).mono ?_).weak (fun t v h => h) (List.Sublist.cons_cons _ (List.sublist_cons_self _ _))))
  intro e l2 H2 h
  cases e with
  | exit j => exact h
  | ret => exact h
  | normal =>
    obtain ⟨q', H3, hp', h⟩ := h
    refine ⟨q', H3, hp', h.mono fun e l3 H4 h => ?_⟩
    obtain ⟨st, q2, H5, hp2, h⟩ := h
    refine ⟨st, q2, H5, hp2, ?_⟩
    have key : ∀ {v : Value} {H' : Hp}, RndI Lp fr ps A B it (.iter (some eb) c (vs.map (·.2.2) ++ [p.2.2]) c) (St (vs ++ [p])) v H' → v = .bool true ∧ ∃ R', St (vs ++ [p]) R' ∧ ((Lp, AObj.loop 0 none fr ps A B) :: (it, AObj.iter (some eb) c (vs.map (·.2.2) ++ [p.2.2]) c) :: R').Sublist H' := fun h => h
    cases e with
    | normal =>
      obtain ⟨_, R', hs', hsub'⟩ := key h
      repeat (first | refine Z0 ?_ | (refine ZR ?_; first | refine x1 ?_ | refine x2 ?_ | refine x8 ?_ | refine Z1 ?_ | refine Z2 ?_ | refine x3 fun _ => ?_ | refine x4 fun _ => ?_ | refine x5 fun _ => ?_ | refine Z3 fun _ => ?_ | refine Z4 fun _ => ?_) | refine ZC ?_)
      have hlen := hlen
      refine ⟨(vs ++ [p], R'), ⟨hnd', hsub2, hs'⟩, ?_, by repeat (first | exact SubL.nil | refine SubL.cons rfl ?_), ?_⟩
      · dsimp only
        rw [List.length_append, List.length_singleton] at hlen ⊢
        omega
      · dsimp only
        rw [List.map_append]
        exact hsub'
    | exit j =>
      obtain ⟨hf, _⟩ := key h
      cases hf
    | ret =>
      obtain ⟨hf, _⟩ := key h
      cases hf
theorem app86_ct (b2 : Nat) (hb : Born ms c) (hl : ms.length ≤ 2000) (hm : (eb, AObj.map (mkH ekM evP ms) c) ∈ H)
    (hQ : ∀ (vs : List (Kk × Nat × Nat)) v G, vs.Perm ms → Own enK 2 (vs.map (·.1)) v G → Q v (G ++ H)) :
    CallT (cx B0 old) (acall (cx B0 old) ansP (n + 3)) 86 [.slice none 0 0, .func (.func 82) #[] #[.pointer (some ⟨b2, 0, none⟩)]] ((b2, .row [.map (some eb)] 1 false) :: H) Q := by
  refine call_inM 13 rfl Try.func86 rfl rfl ?_
  refine cm_seq (cm_code ?_)
  repeat (first | refine Z0 ?_ | (refine ZR ?_; first | refine x1 ?_ | refine x2 ?_ | refine x8 ?_ | refine Z1 ?_ | refine Z2 ?_ | refine x3 fun _ => ?_ | refine x4 fun _ => ?_ | refine x5 fun _ => ?_ | refine Z3 fun _ => ?_ | refine Z4 fun _ => ?_) | refine ZC ?_)
  rename_i c2
  refine cm_seq (cm_seq (cm_code ?_))
  repeat (first | refine Z0 ?_ | (refine ZR ?_; first | refine x1 ?_ | refine x2 ?_ | refine x8 ?_ | refine Z1 ?_ | refine Z2 ?_ | refine x3 fun _ => ?_ | refine x4 fun _ => ?_ | refine x5 fun _ => ?_ | refine Z3 fun _ => ?_ | refine Z4 fun _ => ?_) | refine ZC ?_)
  refine cm_block (cm_range rfl rfl ?_)
  intro m fr hfr
  refine it82_ct (n := n) (ms := ms) (c := c) (eb := eb) b2 (m + 1) 13 _ fr _ _ _
    (fun vs R => ∃ v G, Own enK 2 (vs.map (·.1)) v G ∧ vs.length ≤ ms.length ∧ R = (m, .dblk) :: (c2, .row [v] 1 false) :: (b2, .row [.map (some eb)] 1 false) :: (G ++ H)) _ rfl hfr hb ?_ ?_ ?_ ?_
  · rintro vs R ⟨v, G, ho, hvl, rfl⟩
    exact ⟨List.Mem.tail _ (List.Mem.tail _ (List.Mem.head _)), List.Mem.tail _ (List.Mem.tail _ (List.Mem.tail _ (List.mem_append_right _ hm)))⟩
  · exact ⟨_, _, Own.nil, Nat.zero_le _, rfl⟩
  · rintro vs R q p it io hp hvl2 ⟨v, G, ho, hvl, rfl⟩
    obtain ⟨ad4, c4', e4, _⟩ := ho.arrW (C := cx B0 old) enK_len
    subst e4
    rw [ekM_eq]
    repeat (first | refine Z0 ?_ | (refine ZR ?_; first | refine x1 ?_ | refine x2 ?_ | refine x8 ?_ | refine Z1 ?_ | refine Z2 ?_ | refine x3 fun _ => ?_ | refine x4 fun _ => ?_ | refine x5 fun _ => ?_ | refine Z3 fun _ => ?_ | refine Z4 fun _ => ?_) | refine ZC ?_)
    refine ⟨q, _, List.Perm.swap _ _ _, ?_⟩
    repeat (first | refine Z0 ?_ | (refine ZR ?_; first | refine x1 ?_ | refine x2 ?_ | refine x8 ?_ | refine Z1 ?_ | refine Z2 ?_ | refine x3 fun _ => ?_ | refine x4 fun _ => ?_ | refine x5 fun _ => ?_ | refine Z3 fun _ => ?_ | refine Z4 fun _ => ?_) | refine ZC ?_)
    rename_i bs
    refine rt_step rfl rfl rfl (st_appP (M := [p.1]) (c := 1) (pre := [_, _, _, _, _, _, _]) ho enK_len enK_one rfl rfl (ap rfl) (arrW_one enK_len hm0) (Nat.le_trans (Nat.mul_le_mul_right _ (show 2 * ((vs.map (·.1)).length + [p.1].length) + 192 ≤ 6000 by simp only [List.length_singleton, List.length_map]; omega)) (by decide)) fun v1 G1 o1 => ?_)
    obtain ⟨ad5, c5', e5, _⟩ := o1.arrW (C := cx B0 old) enK_len
    subst e5
    repeat (first | refine Z0 ?_ | (refine ZR ?_; first | refine x1 ?_ | refine x2 ?_ | refine x8 ?_ | refine Z1 ?_ | refine Z2 ?_ | refine x3 fun _ => ?_ | refine x4 fun _ => ?_ | refine x5 fun _ => ?_ | refine Z3 fun _ => ?_ | refine Z4 fun _ => ?_) | refine ZC ?_)
    unfold rndΦ RndI
    exact ⟨1, q, _, List.Perm.swap _ _ _, rfl, _, ⟨_, _, by rw [List.map_append]; exact o1, hvl2, rfl⟩, by exact drop_auto⟩
  · rintro vs R v ⟨v', G, ho, hvl, rfl⟩ hperm
    refine ⟨0, none, _, List.Perm.refl _, rfl, ?_⟩
    obtain ⟨ad4, c4', e4, _⟩ := ho.arrW (C := cx B0 old) enK_len
    subst e4
    refine cm_code ?_
    repeat (first | refine Z0 ?_ | (refine ZR ?_; first | refine x1 ?_ | refine x2 ?_ | refine x8 ?_ | refine Z1 ?_ | refine Z2 ?_ | refine x3 fun _ => ?_ | refine x4 fun _ => ?_ | refine x5 fun _ => ?_ | refine Z3 fun _ => ?_ | refine Z4 fun _ => ?_) | refine ZC ?_)
    refine lv_one (List.Perm.refl _) ⟨G ++ H, by exact drop_auto, ?_⟩
    exact res_tmp rfl (res_nil (hQ vs _ G hperm ho))
theorem coll80_ct (b2 : Nat) (hb : Born ms c) (hl : ms.length ≤ 2000) (hm : (eb, AObj.map (mkH ekM evP ms) c) ∈ H)
    (hQ : ∀ (vs : List (Kk × Nat × Nat)) v G, vs.Perm ms → Own enK 2 (vs.map (·.1)) v G → Q v (G ++ H)) :
    CallT (cx B0 old) (acall (cx B0 old) ansP (n + 4)) 80 [.func (.func 82) #[] #[.pointer (some ⟨b2, 0, none⟩)]] ((b2, .row [.map (some eb)] 1 false) :: H) Q := by
  refine call_in1 5 rfl Try.func80 rfl rfl ?_
  repeat (first | refine Z0 ?_ | (refine ZR ?_; first | refine x1 ?_ | refine x2 ?_ | refine x8 ?_ | refine Z1 ?_ | refine Z2 ?_ | refine x3 fun _ => ?_ | refine x4 fun _ => ?_ | refine x5 fun _ => ?_ | refine Z3 fun _ => ?_ | refine Z4 fun _ => ?_) | refine ZC ?_)
  refine rt_step rfl rfl rfl (st_call rfl rfl rfl rfl (app86_ct b2 hb hl hm fun vs v G hp ho => ?_))
  repeat (first | refine Z0 ?_ | (refine ZR ?_; first | refine x1 ?_ | refine x2 ?_ | refine x8 ?_ | refine Z1 ?_ | refine Z2 ?_ | refine x3 fun _ => ?_ | refine x4 fun _ => ?_ | refine x5 fun _ => ?_ | refine Z3 fun _ => ?_ | refine Z4 fun _ => ?_) | refine ZC ?_)
  exact re_1 rfl rfl (List.Sublist.refl _) (hQ vs v G hp ho)
/-- What is asked of the sort. -/
def SortT (C : Ctx) (hc : Abs.H Prop) (ks : List Kk) : Prop := ∀ {H G : Hp} {v : Value} {Q : Value → Hp → Prop}, Own enK 2 ks v G → (∀ w ks' G', Own enK 2 ks' v G' → ks'.Perm ks → (ks'.map rkK).Pairwise (· ≤ ·) → Q w (G' ++ H)) → CallT C hc 81 [v, .func (.func 64) #[] #[]] (G ++ H) Q
theorem sorted72_ct (b2 : Nat) (hb : Born ms c) (hl : ms.length ≤ 2000) (hm : (eb, AObj.map (mkH ekM evP ms) c) ∈ H) (hs : ∀ ks : List Kk, ks.Perm (ms.map (·.1)) → SortT (cx B0 old) (acall (cx B0 old) ansP (n + 4)) ks)
    (hQ : ∀ ks v G, ks.Perm (ms.map (·.1)) → (ks.map rkK).Pairwise (· ≤ ·) → Own enK 2 ks v G → Q v (G ++ H)) :
    CallT (cx B0 old) (acall (cx B0 old) ansP (n + 5)) 72 [.func (.func 82) #[] #[.pointer (some ⟨b2, 0, none⟩)], .func (.func 64) #[] #[]] ((b2, .row [.map (some eb)] 1 false) :: H) Q := by
  refine call_in2 12 rfl Try.func72 rfl rfl ?_
  repeat (first | refine Z0 ?_ | (refine ZR ?_; first | refine x1 ?_ | refine x2 ?_ | refine x8 ?_ | refine Z1 ?_ | refine Z2 ?_ | refine x3 fun _ => ?_ | refine x4 fun _ => ?_ | refine x5 fun _ => ?_ | refine Z3 fun _ => ?_ | refine Z4 fun _ => ?_) | refine ZC ?_)
  refine rt_step rfl rfl rfl (st_call rfl rfl rfl rfl (coll80_ct b2 hb hl hm fun vs v G hp ho => ?_))
  repeat (first | refine Z0 ?_ | (refine ZR ?_; first | refine x1 ?_ | refine x2 ?_ | refine x8 ?_ | refine Z1 ?_ | refine Z2 ?_ | refine x3 fun _ => ?_ | refine x4 fun _ => ?_ | refine x5 fun _ => ?_ | refine Z3 fun _ => ?_ | refine Z4 fun _ => ?_) | refine ZC ?_)
  refine rt_step rfl rfl rfl (st_call rfl rfl rfl rfl (hs _ (hp.map _) ho fun w ks G2 o2 p2 s2 => ?_))
  repeat (first | refine Z0 ?_ | (refine ZR ?_; first | refine x1 ?_ | refine x2 ?_ | refine x8 ?_ | refine Z1 ?_ | refine Z2 ?_ | refine x3 fun _ => ?_ | refine x4 fun _ => ?_ | refine x5 fun _ => ?_ | refine Z3 fun _ => ?_ | refine Z4 fun _ => ?_) | refine ZC ?_)
  exact re_1 rfl rfl (List.Sublist.refl _) (hQ ks v G2 (p2.trans (hp.map _)) s2 o2)
end
end Go.Proofs.Ytoimfchhmocgeaa.Abs

/- The book's Claims: the range over the sorted keys. -/
namespace Go.Proofs.Ytoimfchhmocgeaa.Abs
open Go
set_option linter.unusedVariables false
/-- A claim as a caller sees it. -/
structure C57 where
  bd : Int
  mac : Int
  seq : Int
  fz : Bool
def en57 (x : C57) : List Value := [.int .i64 x.bd, .int .u64 x.mac, .int .u32 x.seq, .bool x.fz]
theorem en57_len (x : C57) : (en57 x).length = 4 := rfl
theorem en57_one (x : C57) : (en57 x).all Value.oneCell' = true := rfl
def clmO (f : Kk → Int × Bool) (k : Kk) : C57 := ⟨k.bd, k.mac, (f k).1, (f k).2⟩
/-- What a round of a range over sorted keys leaves. -/
def RndS (Lp : Nat) (fr : Fr) (ps : List Nat) (A B : Code) (G : Hp) (St : Hp → Prop) (v : Value) (H' : Hp) : Prop :=
  v = .bool true ∧ ∃ R, St R ∧ ((Lp, .loop 0 none fr ps A B) :: (G ++ R)).Sublist H'
section
variable {B0 : Nat} {old : Nat → Option (List Value)} {n : Nat} {H : Hp} {Q : Value → Hp → Prop} {p cb mb cc mc : Nat} {lim win last : Int} {cs ms : List (Kk × Nat × Nat)}
set_option maxRecDepth 10000
set_option maxHeartbeats 8000000
theorem it71_ct (bx Lp nt : Nat) (lf : Sl) (fr : Fr) (ps : List Nat) (A B : Code) (St : List Kk → Hp → Prop) (R0 : Hp) (hps : ps.length = 2) (hfr : FrHas nt lf fr) (hb : Born cs cc) (hu : Uq cs) (hl : cs.length ≤ 2000)
    (hs : ∀ ks : List Kk, ks.Perm (cs.map (·.1)) → SortT (cx B0 old) (acall (cx B0 old) ansP (n + 4)) ks)
    (hst : ∀ vs R, St vs R → (bx, AObj.row [.map (some cb)] 1 false) ∈ R ∧ (cb, AObj.map (mkH ekM evP cs) cc) ∈ R) (h0 : St [] R0)
    (hround : ∀ vs R q k b G, lkH cs k = some b → vs.length ≤ 2000 → St vs R → CodeT (cx B0 old) (ahand (cx B0 old) ansP (n + 4)) true nt A (parL nt ps [ekM k, evP b] lf) ((Lp, .loop 0 q fr ps A B) :: (G ++ R)) fun e l2 H2 => match e with
      | .normal => ∃ q' H3, H2.Perm ((Lp, .loop 0 q' fr ps A B) :: H3) ∧ CodeT (cx B0 old) (ahand (cx B0 old) ansP (n + 4)) true nt B l2 ((Lp, .loop 1 q' fr ps A B) :: H3) fun e l3 H4 => rndΦ Lp fr ps A B (RndS Lp fr ps A B G (St (vs ++ [k]))) e H4
      | _ => False)
    (hQ : ∀ ks R v, St ks R → ks.Perm (cs.map (·.1)) → (ks.map rkK).Pairwise (· ≤ ·) → Q v ((Lp, .loop 0 none fr ps A B) :: R)) :
    CallT (cx B0 old) (acall (cx B0 old) ansP (n + 6)) 71 [.func (.yield Lp) #[] #[], .pointer (some ⟨bx, 0, none⟩)] ((Lp, .loop 0 none fr ps A B) :: R0) Q := by
  refine call_in2 21 rfl Try.func71 rfl rfl ?_
  obtain ⟨g1, g2⟩ := hst _ _ h0
  have hL0 : ∀ H', R0.Sublist H' → LdT (cx B0 old) 82 H' bx 0 (.map (some cb)) := fun H' hs => ld1 (.own _ _ (hs.subset g1)) rfl (sz rfl) rfl
  repeat (first | refine Z0 ?_ | (refine ZR ?_; first | refine x1 ?_ | refine x2 ?_ | refine x8 ?_ | refine Z1 ?_ | refine Z2 ?_ | refine x3 fun _ => ?_ | refine x4 fun _ => ?_ | refine x5 fun _ => ?_ | refine Z3 fun _ => ?_ | refine Z4 fun _ => ?_) | refine ZC ?_)
  refine rt_step rfl rfl rfl (st_call rfl rfl rfl rfl (keys73_ct fun b2 => ?_))
  repeat (first | refine Z0 ?_ | (refine ZR ?_; first | refine x1 ?_ | refine x2 ?_ | refine x8 ?_ | refine Z1 ?_ | refine Z2 ?_ | refine x3 fun _ => ?_ | refine x4 fun _ => ?_ | refine x5 fun _ => ?_ | refine Z3 fun _ => ?_ | refine Z4 fun _ => ?_) | refine ZC ?_)
  refine rt_step rfl rfl rfl (st_call rfl rfl rfl rfl (sorted72_ct b2 hb hl (List.Mem.tail _ g2) hs fun ks v G hp hso ho => ?_))
  obtain ⟨ad, c, e1, ga⟩ := ho.arrW (C := cx B0 old) enK_len
  subst e1
  clear hL0
  repeat (first | refine Z0 ?_ | (refine ZR ?_; first | refine x1 ?_ | refine x2 ?_ | refine x8 ?_ | refine Z1 ?_ | refine Z2 ?_ | refine x3 fun _ => ?_ | refine x4 fun _ => ?_ | refine x5 fun _ => ?_ | refine Z3 fun _ => ?_ | refine Z4 fun _ => ?_) | refine ZC ?_)
  refine CodeT.perm ?_ List.perm_middle.symm
  have hkl : ks.length ≤ 2000 := by rw [hp.length_eq, List.length_map]; exact hl
  refine loop_ind (ι := Nat × Hp) (0, R0) (fun i => ks.length - i.1) (fun i => i.1 ≤ ks.length ∧ St (ks.take i.1) i.2)
    (fun i => [(9, .int .i64 (i.1 : Int)), (8, .int .i64 (ks.length : Int)), (7, .slice ad ks.length c), (0, .func (.yield Lp) #[] #[]), (1, .pointer (some ⟨bx, 0, none⟩))])
    (fun i => (Lp, .loop 0 none fr ps A B) :: (G ++ i.2)) ⟨Nat.zero_le _, h0⟩ (by repeat (first | exact SubL.nil | refine SubL.cons rfl ?_)) (List.Sublist.refl _) ?_
  clear g1 g2
  rintro ⟨i, R⟩ ⟨hi, hS⟩
  dsimp only at hi hS ⊢
  repeat (first | refine Z0 ?_ | (refine ZR ?_; first | refine x1 ?_ | refine x2 ?_ | refine x8 ?_ | refine Z1 ?_ | refine Z2 ?_ | refine x3 fun _ => ?_ | refine x4 fun _ => ?_ | refine x5 fun _ => ?_ | refine Z3 fun _ => ?_ | refine Z4 fun _ => ?_) | refine ZC ?_)
  refine ct_condT te_d rfl (fun hlt => ?_) (fun hlt => ?_)
  rotate_left
  · obtain rfl : i = ks.length := by omega
    rw [List.take_length] at hS
    repeat (first | refine Z0 ?_ | (refine ZR ?_; first | refine x1 ?_ | refine x2 ?_ | refine x8 ?_ | refine Z1 ?_ | refine Z2 ?_ | refine x3 fun _ => ?_ | refine x4 fun _ => ?_ | refine x5 fun _ => ?_ | refine Z3 fun _ => ?_ | refine Z4 fun _ => ?_) | refine ZC ?_)
    exact re_0 rfl (List.Sublist.cons_cons _ (List.sublist_append_right _ _)) (fun v => hQ ks R v hS hp hso)
  obtain ⟨g1, g2⟩ := hst _ _ hS
  have hlt' : i < ks.length := by omega
  have hx := List.getElem?_eq_getElem hlt'
  have hxm := List.getElem_mem hlt'
  have htk : ks.take (i + 1) = ks.take i ++ [ks[i]] := by rw [List.take_add_one, hx]; rfl
  generalize ks[i] = k at *
  obtain ⟨⟨k2, b, bo⟩, hq, e2⟩ := List.mem_map.1 (hp.mem_iff.1 hxm)
  have e2 : k2 = k := e2
  subst e2
  have hlkb := hu.lkH hq
  have hlk := lookE_K (C := cx B0 old) (ev := evP) keyMapC cs k2 false
  rw [hlkb, ekM_eq] at hlk
  simp only [Bool.false_eq_true, if_false] at hlk
  obtain ⟨b1, o1, e1, hL0⟩ := ((ga [] R).arr enK_len).ldW 91 hx rfl (sz rfl)
  subst e1
  unfold enK at hL0
  have hL1 : ∀ H', R.Sublist H' → LdT (cx B0 old) 82 H' bx 0 (.map (some cb)) := fun H' hs => ld1 (.own _ _ (hs.subset g1)) rfl (sz rfl) rfl
  repeat (first | refine Z0 ?_ | (refine ZR ?_; first | refine x1 ?_ | refine x2 ?_ | refine x8 ?_ | refine Z1 ?_ | refine Z2 ?_ | refine x3 fun _ => ?_ | refine x4 fun _ => ?_ | refine x5 fun _ => ?_ | refine Z3 fun _ => ?_ | refine Z4 fun _ => ?_) | refine ZC ?_)
  refine ct_draw (masks := [0, 0, 0, 0, 12, 31, 63]) (plan := [0, 1, 2, 3, 4, 5, 6]) (E := []) (by kernel_rfl) (by kernel_rfl) (by kernel_rfl) (by kernel_rfl) ?_
  repeat (first | refine Y0 ?_ | (refine YP ?_; first | refine y1 ?_ | refine y2 ?_ | refine Y1 ?_ | refine Y2 ?_))
  refine pl_R rfl rfl rfl rfl rfl rfl (rd_lookup rfl rfl (by exact in_auto) hlk) ?_
  repeat (first | refine Y0 ?_ | (refine YP ?_; first | refine y1 ?_ | refine y2 ?_ | refine Y1 ?_ | refine Y2 ?_))
  refine pl_S rfl rfl rfl rfl rfl rfl (st_yield (q := none) rfl rfl rfl (by rw [hps]; rfl) (List.Perm.swap _ _ _) hfr (((hround (ks.take i) R none k2 b G hlkb (by rw [List.length_take]; omega) hS).mono ?_).weak (fun t v h => h) (List.Sublist.cons_cons _ (List.sublist_cons_self _ _))))
  intro e l2 H2 h
  cases e with
  | exit j => exact h
  | ret => exact h
  | normal =>
    obtain ⟨q', H3, hp', h⟩ := h
    refine ⟨q', H3, hp', h.mono fun e l3 H4 h => ?_⟩
    obtain ⟨st', q2, H5, hp2, h⟩ := h
    refine ⟨st', q2, H5, hp2, ?_⟩
    have key : ∀ {v : Value} {H' : Hp}, RndS Lp fr ps A B G (St (ks.take i ++ [k2])) v H' → v = .bool true ∧ ∃ R', St (ks.take i ++ [k2]) R' ∧ ((Lp, AObj.loop 0 none fr ps A B) :: (G ++ R')).Sublist H' := fun h => h
    cases e with
    | normal =>
      obtain ⟨_, R', hs', hsub'⟩ := key h
      refine ⟨by exact rec_auto, ?_⟩
      repeat (first | refine Y0 ?_ | (refine YP ?_; first | refine y1 ?_ | refine y2 ?_ | refine Y1 ?_ | refine Y2 ?_))
      repeat (first | refine Z0 ?_ | (refine ZR ?_; first | refine x1 ?_ | refine x2 ?_ | refine x8 ?_ | refine Z1 ?_ | refine Z2 ?_ | refine x3 fun _ => ?_ | refine x4 fun _ => ?_ | refine x5 fun _ => ?_ | refine Z3 fun _ => ?_ | refine Z4 fun _ => ?_) | refine ZC ?_)
      refine ⟨(i + 1, R'), ⟨by dsimp only; omega, ?_⟩, by dsimp only; omega, by repeat (first | exact SubL.nil | refine SubL.cons rfl ?_), hsub'⟩
      dsimp only
      rw [htk]
      exact hs'
    | exit j =>
      obtain ⟨hf, _⟩ := key h
      cases hf
    | ret =>
      obtain ⟨hf, _⟩ := key h
      cases hf
end
end Go.Proofs.Ytoimfchhmocgeaa.Abs

/- The book's Claims. -/
namespace Go.Proofs.Ytoimfchhmocgeaa.Abs
open Go
set_option linter.unusedVariables false
theorem it_a {a L m x l : Nat × AObj} {X G B : Hp} : (a :: L :: (X ++ (m :: x :: l :: (G ++ B)))).Perm (L :: a :: m :: x :: l :: (G ++ (X ++ B))) := by
  refine (List.Perm.swap _ _ _).trans (List.Perm.append_left [L, a] ?_)
  exact (List.perm_append_comm_assoc X [m, x, l] (G ++ B)).trans (List.Perm.append_left [m, x, l] (List.perm_append_comm_assoc X G B))
theorem it_b {s a L m x l : Nat × AObj} {X G B : Hp} : (s :: L :: a :: m :: x :: l :: (G ++ (X ++ B))).Perm (L :: s :: a :: (X ++ (m :: x :: l :: (G ++ B)))) := by
  refine (List.Perm.swap _ _ _).trans (List.Perm.append_left [L, s, a] ?_)
  exact (List.Perm.append_left [m, x, l] (List.perm_append_comm_assoc G X B)).trans (List.perm_append_comm_assoc [m, x, l] X (G ++ B))
section
variable {B0 : Nat} {old : Nat → Option (List Value)} {n : Nat} {H : Hp} {Q : Value → Hp → Prop} {p cb mb cc mc : Nat} {lim win last : Int} {cs ms : List (Kk × Nat × Nat)}
set_option maxRecDepth 10000
set_option maxHeartbeats 8000000
theorem sorted53_ct (hQ : ∀ b2, Q (.func (.func 71) #[] #[.pointer (some ⟨b2, 0, none⟩)]) ((b2, .row [.map (some cb)] 1 false) :: H)) : CallT (cx B0 old) (acall (cx B0 old) ansP (n + 1)) 53 [.map (some cb)] H Q := by
  refine call_in1 4 rfl Try.func53 rfl rfl ?_
  repeat (first | refine Z0 ?_ | (refine ZR ?_; first | refine x1 ?_ | refine x2 ?_ | refine x8 ?_ | refine Z1 ?_ | refine Z2 ?_ | refine x3 fun _ => ?_ | refine x4 fun _ => ?_ | refine x5 fun _ => ?_ | refine Z3 fun _ => ?_ | refine Z4 fun _ => ?_) | refine ZC ?_)
  exact re_1 rfl rfl (by exact drop_auto) (hQ _)
theorem claims25_ct (f : Kk → Int × Bool) (hb : Born cs cc) (hu : Uq cs) (hl : cs.length ≤ 2000) (hs : ∀ ks : List Kk, ks.Perm (cs.map (·.1)) → SortT (cx B0 old) (acall (cx B0 old) ansP (n + 4)) ks)
    (hrow : ∀ q ∈ cs, (q.2.1, AObj.row [.int .u32 (f q.1).1, .bool (f q.1).2] 2 false) ∈ H)
    (hQ : ∀ (ks : List Kk) v G, ks.Perm (cs.map (·.1)) → (ks.map rkK).Pairwise (· ≤ ·) → Own en57 4 (ks.map (clmO f)) v G → Q v (G ++ ((p, AObj.row [.int .i64 lim, .int .i64 win, .int .i64 last, .map (some cb), .map (some mb)] 5 false) :: (cb, AObj.map (mkH ekM evP cs) cc) :: (mb, AObj.map (mkH ekM evP ms) mc) :: H))) :
    CallT (cx B0 old) (acall (cx B0 old) ansP (n + 7)) 25 [.pointer (some ⟨p, 0, none⟩)] ((p, AObj.row [.int .i64 lim, .int .i64 win, .int .i64 last, .map (some cb), .map (some mb)] 5 false) :: (cb, AObj.map (mkH ekM evP cs) cc) :: (mb, AObj.map (mkH ekM evP ms) mc) :: H) Q := by
  refine call_inM 32 rfl Try.func25 rfl rfl ?_
  refine cm_seq (cm_code ?_)
  repeat (first | refine Z0 ?_ | (refine ZR ?_; first | refine x1 ?_ | refine x2 ?_ | refine x8 ?_ | refine Z1 ?_ | refine Z2 ?_ | refine x3 fun _ => ?_ | refine x4 fun _ => ?_ | refine x5 fun _ => ?_ | refine Z3 fun _ => ?_ | refine Z4 fun _ => ?_) | refine ZC ?_)
  refine cm_seq (cm_code ?_)
  repeat (first | refine Z0 ?_ | (refine ZR ?_; first | refine x1 ?_ | refine x2 ?_ | refine x8 ?_ | refine Z1 ?_ | refine Z2 ?_ | refine x3 fun _ => ?_ | refine x4 fun _ => ?_ | refine x5 fun _ => ?_ | refine Z3 fun _ => ?_ | refine Z4 fun _ => ?_) | refine ZC ?_)
  refine rt_step rfl rfl rfl (st_call rfl rfl rfl rfl (invB45_ct ?_))
  repeat (first | refine Z0 ?_ | (refine ZR ?_; first | refine x1 ?_ | refine x2 ?_ | refine x8 ?_ | refine Z1 ?_ | refine Z2 ?_ | refine x3 fun _ => ?_ | refine x4 fun _ => ?_ | refine x5 fun _ => ?_ | refine Z3 fun _ => ?_ | refine Z4 fun _ => ?_) | refine ZC ?_)
  refine cm_seq (cm_code ?_)
  repeat (first | refine Z0 ?_ | (refine ZR ?_; first | refine x1 ?_ | refine x2 ?_ | refine x8 ?_ | refine Z1 ?_ | refine Z2 ?_ | refine x3 fun _ => ?_ | refine x4 fun _ => ?_ | refine x5 fun _ => ?_ | refine Z3 fun _ => ?_ | refine Z4 fun _ => ?_) | refine ZC ?_)
  rename_i bL
  refine cm_seq (cm_seq (cm_code ?_))
  repeat (first | refine Z0 ?_ | (refine ZR ?_; first | refine x1 ?_ | refine x2 ?_ | refine x8 ?_ | refine Z1 ?_ | refine Z2 ?_ | refine x3 fun _ => ?_ | refine x4 fun _ => ?_ | refine x5 fun _ => ?_ | refine Z3 fun _ => ?_ | refine Z4 fun _ => ?_) | refine ZC ?_)
  refine rt_step rfl rfl rfl (st_call rfl rfl rfl rfl (sorted53_ct fun bx => ?_))
  repeat (first | refine Z0 ?_ | (refine ZR ?_; first | refine x1 ?_ | refine x2 ?_ | refine x8 ?_ | refine Z1 ?_ | refine Z2 ?_ | refine x3 fun _ => ?_ | refine x4 fun _ => ?_ | refine x5 fun _ => ?_ | refine Z3 fun _ => ?_ | refine Z4 fun _ => ?_) | refine ZC ?_)
  refine cm_block (cm_range rfl rfl ?_)
  intro m fr hfr
  refine it71_ct (n := n) (cs := cs) (cc := cc) (cb := cb) bx (m + 1) 32 _ fr _ _ _
    (fun vs R => ∃ v G, Own en57 4 (vs.map (clmO f)) v G ∧ R = (m, .dblk) :: (bx, .row [.map (some cb)] 1 false) :: (bL, .row [v] 1 false) :: (G ++ ((p, AObj.row [.int .i64 lim, .int .i64 win, .int .i64 last, .map (some cb), .map (some mb)] 5 false) :: (cb, AObj.map (mkH ekM evP cs) cc) :: (mb, AObj.map (mkH ekM evP ms) mc) :: H))) _ rfl hfr hb hu hl hs ?_ ?_ ?_ ?_
  · rintro vs R ⟨v, G, ho, rfl⟩
    exact ⟨List.Mem.tail _ (List.Mem.head _), List.Mem.tail _ (List.Mem.tail _ (List.Mem.tail _ (List.mem_append_right _ (List.Mem.tail _ (List.Mem.head _)))))⟩
  · exact ⟨_, _, Own.nil, rfl⟩
  · rintro vs R q k b Gx hlk hvl ⟨v, G, ho, rfl⟩
    obtain ⟨bo, hmem⟩ := lkH_mem hlk
    have hr := hrow _ hmem
    dsimp only at hr
    obtain ⟨ad4, c4', e4, _⟩ := ho.arrW (C := cx B0 old) en57_len
    subst e4
    rw [ekM_eq, evP_eq]
    repeat (first | refine Z0 ?_ | (refine ZR ?_; first | refine x1 ?_ | refine x2 ?_ | refine x8 ?_ | refine Z1 ?_ | refine Z2 ?_ | refine x3 fun _ => ?_ | refine x4 fun _ => ?_ | refine x5 fun _ => ?_ | refine Z3 fun _ => ?_ | refine Z4 fun _ => ?_) | refine ZC ?_)
    refine ⟨q, _, it_a, ?_⟩
    have hL0 : ∀ H', H.Sublist H' → LdT (cx B0 old) 22 H' b 0 (.int .u32 (f k).1) := fun H' hs => ld1 (.own _ _ (hs.subset hr)) rfl (sz rfl) rfl
    have hL1 : ∀ H', H.Sublist H' → LdT (cx B0 old) 4 H' b 1 (.bool (f k).2) := fun H' hs => ld1 (.own _ _ (hs.subset hr)) rfl (sz rfl) rfl
    repeat (first | refine Z0 ?_ | (refine ZR ?_; first | refine x1 ?_ | refine x2 ?_ | refine x8 ?_ | refine Z1 ?_ | refine Z2 ?_ | refine x3 fun _ => ?_ | refine x4 fun _ => ?_ | refine x5 fun _ => ?_ | refine Z3 fun _ => ?_ | refine Z4 fun _ => ?_) | refine ZC ?_)
    refine ct_draw (masks := [0, 0, 2, 0, 8, 0, 32, 96, 224, 0, 512, 1536, 3584, 8190, 16382, 32767, 65535]) (plan := [0, 1, 2, 3, 4, 5, 6, 7, 8, 9, 10, 11, 12, 13, 14, 15, 16]) (E := []) (by kernel_rfl) (by kernel_rfl) (by kernel_rfl) (by kernel_rfl) ?_
    repeat (first | refine Y0 ?_ | (refine YP ?_; first | refine y1 ?_ | refine y2 ?_ | refine Y1 ?_ | refine Y2 ?_))
    refine pl_S rfl rfl rfl rfl rfl rfl (st_buildSlice rfl (zr rfl) rfl rfl rfl rfl rfl rfl fun bs => ⟨by exact rec_auto, ?_⟩)
    repeat (first | refine Y0 ?_ | (refine YP ?_; first | refine y1 ?_ | refine y2 ?_ | refine Y1 ?_ | refine Y2 ?_))
    refine pl_S rfl rfl rfl rfl rfl rfl (st_appP (M := [clmO f k]) (c := 1) (pre := [_, _, _, _, _, _]) ho en57_len en57_one rfl rfl (ap rfl) (arrW_one (a := clmO f k) en57_len hm0) (Nat.le_trans (Nat.mul_le_mul_right _ (show 2 * ((vs.map (clmO f)).length + [clmO f k].length) + 192 ≤ 6000 by simp only [List.length_singleton, List.length_map]; omega)) (by decide)) fun v1 G1 o1 => ⟨by exact rec_auto, ?_⟩)
    obtain ⟨ad5, c5', e5, _⟩ := o1.arrW (C := cx B0 old) en57_len
    subst e5
    repeat (first | refine Y0 ?_ | (refine YP ?_; first | refine y1 ?_ | refine y2 ?_ | refine Y1 ?_ | refine Y2 ?_))
    refine y3 ?_
    repeat (first | refine Y0 ?_ | (refine YP ?_; first | refine y1 ?_ | refine y2 ?_ | refine Y1 ?_ | refine Y2 ?_))
    repeat (first | refine Z0 ?_ | (refine ZR ?_; first | refine x1 ?_ | refine x2 ?_ | refine x8 ?_ | refine Z1 ?_ | refine Z2 ?_ | refine x3 fun _ => ?_ | refine x4 fun _ => ?_ | refine x5 fun _ => ?_ | refine Z3 fun _ => ?_ | refine Z4 fun _ => ?_) | refine ZC ?_)
    unfold rndΦ RndS
    refine ⟨1, q, _, it_b (X := Gx) (G := G1), rfl, _, ⟨_, _, by rw [List.map_append]; exact o1, rfl⟩, List.Sublist.cons_cons _ (List.Sublist.cons _ (List.Sublist.cons _ (List.Sublist.refl _)))⟩
  · rintro ks R v ⟨v', G, ho, rfl⟩ hp hso
    refine ⟨0, none, _, List.Perm.refl _, rfl, ?_⟩
    obtain ⟨ad4, c4', e4, _⟩ := ho.arrW (C := cx B0 old) en57_len
    subst e4
    refine cm_seq (cm_code ?_)
    repeat (first | refine Z0 ?_ | (refine ZR ?_; first | refine x1 ?_ | refine x2 ?_ | refine x8 ?_ | refine Z1 ?_ | refine Z2 ?_ | refine x3 fun _ => ?_ | refine x4 fun _ => ?_ | refine x5 fun _ => ?_ | refine Z3 fun _ => ?_ | refine Z4 fun _ => ?_) | refine ZC ?_)
    refine cm_code ?_
    repeat (first | refine Z0 ?_ | (refine ZR ?_; first | refine x1 ?_ | refine x2 ?_ | refine x8 ?_ | refine Z1 ?_ | refine Z2 ?_ | refine x3 fun _ => ?_ | refine x4 fun _ => ?_ | refine x5 fun _ => ?_ | refine Z3 fun _ => ?_ | refine Z4 fun _ => ?_) | refine ZC ?_)
    refine lv_one (List.Perm.refl _) ⟨G ++ ((p, AObj.row [.int .i64 lim, .int .i64 win, .int .i64 last, .map (some cb), .map (some mb)] 5 false) :: (cb, AObj.map (mkH ekM evP cs) cc) :: (mb, AObj.map (mkH ekM evP ms) mc) :: H), by exact drop_auto, ?_⟩
    exact res_tmp rfl (res_nil (hQ ks _ G hp hso ho))
end
end Go.Proofs.Ytoimfchhmocgeaa.Abs
