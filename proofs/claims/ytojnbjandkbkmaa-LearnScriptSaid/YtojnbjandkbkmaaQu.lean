/- The keys of a map, collected and sorted. -/
import Derived.Test.YtojnbjandkbkmaaQt
import Derived.Test.YtojnbjandkbkmaaQk
namespace Go.Proofs.Ytojnbjandkbkmaa.Abs
open Go
set_option linter.unusedVariables false
section
variable {K V : Type}
theorem nodup_map_inj {α β : Type} {f : α → β} : ∀ {L : List α}, (L.map f).Nodup → ∀ {x y : α}, x ∈ L → y ∈ L → f x = f y → x = y
  | [], _, x, y, hx, _, _ => by cases hx
  | a :: l, hn, x, y, hx, hy, e => by
    rw [List.map_cons, List.nodup_cons] at hn
    rcases List.mem_cons.1 hx with h1 | h1 <;> rcases List.mem_cons.1 hy with h2 | h2
    · rw [h1, h2]
    · exact absurd (by rw [← h1, e]; exact List.mem_map_of_mem h2) hn.1
    · exact absurd (by rw [← h2, ← e]; exact List.mem_map_of_mem h1) hn.1
    · exact nodup_map_inj hn.2 h1 h2 e
theorem nd_len {α : Type} : ∀ {l m : List α}, l.Nodup → (∀ x ∈ l, x ∈ m) → l.length ≤ m.length
  | [], m, _, _ => Nat.zero_le _
  | a :: l, m, hn, h => by
    obtain ⟨m1, m2, rfl⟩ := List.append_of_mem (h a (List.mem_cons_self ..))
    rw [List.nodup_cons] at hn
    have := nd_len (m := m1 ++ m2) hn.2 fun x hx => by
      have h1 := h x (List.mem_cons_of_mem _ hx)
      rcases List.mem_append.1 h1 with h2 | h2
      · exact List.mem_append_left _ h2
      · rcases List.mem_cons.1 h2 with rfl | h2
        · exact absurd hx hn.1
        · exact List.mem_append_right _ h2
    simp only [List.length_append, List.length_cons] at this ⊢
    omega
theorem Born.inj {ms : List (K × V × Nat)} {c : Nat} (h : Born ms c) {p q : K × V × Nat} (hp : p ∈ ms) (hq : q ∈ ms) (e : p.2.2 = q.2.2) : p = q := nodup_map_inj (f := fun p : K × V × Nat => p.2.2) h.nd hp hq e
/-- What a round of a range over a map's keys leaves. -/
def RndI (Lp : Nat) (fr : Fr) (ps : List Nat) (A B : Code) (it : Nat) (io : AObj) (St : Hp → Prop) (v : Value) (H' : Hp) : Prop :=
  v = .bool true ∧ ∃ R, St R ∧ ((Lp, .loop 0 none fr ps A B) :: (it, io) :: R).Sublist H'
end
section
variable {B0 : Nat} {old : Nat → Option (List Value)} {n : Nat} {H Hs : Hp} {Q : Value → Hp → Prop} {eb c : Nat} {ms : List (Kk × S37 × Nat)}
set_option maxRecDepth 10000
set_option maxHeartbeats 4000000
theorem keys42_ct (hQ : ∀ b2, Q (.func (.func 56) #[] #[.pointer (some ⟨b2, 0, none⟩)]) ((b2, .row [.map (some eb)] 1 false) :: H)) : CallT (cx B0 old) (acall (cx B0 old) ansP (n + 1)) 42 [.map (some eb)] H Q := by
  refine call_in1 4 rfl Try.func42 rfl rfl ?_
  repeat (first | refine Z0 ?_ | (refine ZR ?_; first | refine x1 ?_ | refine x2 ?_ | refine x8 ?_ | refine Z1 ?_ | refine Z2 ?_ | refine x3 fun _ => ?_ | refine x4 fun _ => ?_ | refine x5 fun _ => ?_ | refine Z3 fun _ => ?_ | refine Z4 fun _ => ?_) | refine ZC ?_)
  exact re_1 rfl rfl (by exact drop_auto) (hQ _)
theorem it56_ct (b2 Lp nt : Nat) (lf : Sl) (fr : Fr) (ps : List Nat) (A B : Code) (St : List (Kk × S37 × Nat) → Hp → Prop) (R0 : Hp) (hps : ps.length = 1) (hfr : FrHas nt lf fr) (hb : Born ms c)
    (hst : ∀ vs R, St vs R → (b2, AObj.row [.map (some eb)] 1 false) ∈ R ∧ (eb, AObj.map (mkH ekK evN ms) c) ∈ R) (h0 : St [] R0)
    (hround : ∀ vs R q p it io, p ∈ ms → (vs ++ [p]).length ≤ ms.length → St vs R → CodeT (cx B0 old) (ahand (cx B0 old) ansP n) true nt A (parL nt ps [ekK p.1] lf) ((Lp, .loop 0 q fr ps A B) :: (it, io) :: R) fun e l2 H2 => match e with
      | .normal => ∃ q' H3, H2.Perm ((Lp, .loop 0 q' fr ps A B) :: H3) ∧ CodeT (cx B0 old) (ahand (cx B0 old) ansP n) true nt B l2 ((Lp, .loop 1 q' fr ps A B) :: H3) fun e l3 H4 => rndΦ Lp fr ps A B (RndI Lp fr ps A B it io (St (vs ++ [p]))) e H4
      | _ => False)
    (hQ : ∀ vs R v, St vs R → vs.Perm ms → Q v ((Lp, .loop 0 none fr ps A B) :: R)) :
    CallT (cx B0 old) (acall (cx B0 old) ansP (n + 2)) 56 [.func (.yield Lp) #[] #[], .pointer (some ⟨b2, 0, none⟩)] ((Lp, .loop 0 none fr ps A B) :: R0) Q := by
  refine call_in2 14 rfl Try.func56 rfl rfl ?_
  obtain ⟨g1, g2⟩ := hst _ _ h0
  have hL0 : ∀ H', R0.Sublist H' → LdT (cx B0 old) 70 H' b2 0 (.map (some eb)) := fun H' hs => ld1 (.own _ _ (hs.subset g1)) rfl (sz rfl) rfl
  repeat (first | refine Z0 ?_ | (refine ZR ?_; first | refine x1 ?_ | refine x2 ?_ | refine x8 ?_ | refine Z1 ?_ | refine Z2 ?_ | refine x3 fun _ => ?_ | refine x4 fun _ => ?_ | refine x5 fun _ => ?_ | refine Z3 fun _ => ?_ | refine Z4 fun _ => ?_) | refine ZC ?_)
  refine rt_step rfl rfl rfl (st_range rfl (List.Mem.tail _ g2) rfl fun it => ?_)
  repeat (first | refine Z0 ?_ | (refine ZR ?_; first | refine x1 ?_ | refine x2 ?_ | refine x8 ?_ | refine Z1 ?_ | refine Z2 ?_ | refine x3 fun _ => ?_ | refine x4 fun _ => ?_ | refine x5 fun _ => ?_ | refine Z3 fun _ => ?_ | refine Z4 fun _ => ?_) | refine ZC ?_)
  refine CodeT.perm ?_ (List.Perm.swap _ _ _)
  refine loop_ind (ι := List (Kk × S37 × Nat) × Hp) ([], R0) (fun i => ms.length - i.1.length) (fun i => i.1.Nodup ∧ (∀ p ∈ i.1, p ∈ ms) ∧ St i.1 i.2)
    (fun i => [(5, .pointer (some ⟨it, 0, none⟩)), (0, .func (.yield Lp) #[] #[])])
    (fun i => (Lp, .loop 0 none fr ps A B) :: (it, .iter (some eb) c (i.1.map (·.2.2)) c) :: i.2) ⟨List.nodup_nil, fun p h => (by cases h), h0⟩ (by repeat (first | exact SubL.nil | refine SubL.cons rfl ?_)) (List.Sublist.refl _) ?_
  rintro ⟨vs, R⟩ ⟨hnd, hsub, hs⟩
  dsimp only at hnd hsub hs ⊢
  obtain ⟨g1, g2⟩ := hst _ _ hs
  have hmsd : ms.Nodup := (List.pairwise_map.1 hb.nd).imp fun h e => h (by rw [e])
  refine CodeT.perm ?_ (List.Perm.swap _ _ _)
  repeat (first | refine Z0 ?_ | (refine ZR ?_; first | refine x1 ?_ | refine x2 ?_ | refine x8 ?_ | refine Z1 ?_ | refine Z2 ?_ | refine x3 fun _ => ?_ | refine x4 fun _ => ?_ | refine x5 fun _ => ?_ | refine Z3 fun _ => ?_ | refine Z4 fun _ => ?_) | refine ZC ?_)
  refine rt_step rfl rfl rfl (st_nextH rfl (List.Mem.tail _ g2) hb (fun hall => ?_) (fun p hp hnp => ?_))
  · repeat (first | refine Z0 ?_ | (refine ZR ?_; first | refine x1 ?_ | refine x2 ?_ | refine x8 ?_ | refine Z1 ?_ | refine Z2 ?_ | refine x3 fun _ => ?_ | refine x4 fun _ => ?_ | refine x5 fun _ => ?_ | refine Z3 fun _ => ?_ | refine Z4 fun _ => ?_) | refine ZC ?_)
    have hperm : vs.Perm ms := by
      rw [List.perm_ext_iff_of_nodup hnd hmsd]
      refine fun p => ⟨hsub p, fun hp => ?_⟩
      obtain ⟨q, hq, e⟩ := List.mem_map.1 (hall p hp)
      have e2 : q = p := by
        have h1 := hsub q hq
        exact hb.inj h1 hp e
      exact e2 ▸ hq
    exact re_0 rfl (List.sublist_cons_self _ _) (fun v => hQ vs R v hs hperm)
  repeat (first | refine Z0 ?_ | (refine ZR ?_; first | refine x1 ?_ | refine x2 ?_ | refine x8 ?_ | refine Z1 ?_ | refine Z2 ?_ | refine x3 fun _ => ?_ | refine x4 fun _ => ?_ | refine x5 fun _ => ?_ | refine Z3 fun _ => ?_ | refine Z4 fun _ => ?_) | refine ZC ?_)
  refine rt_r rfl rfl rfl (rd_entryH rfl (List.Mem.head _) (List.Mem.tail _ (List.Mem.tail _ g2)) hb hp) ?_
  have hnd' : (vs ++ [p]).Nodup := List.nodup_append.2 ⟨hnd, by simp, fun a ha b hb e => by
    rw [List.mem_singleton.1 hb] at e
    exact hnp (by rw [← e]; exact List.mem_map_of_mem ha)⟩
  have hsub2 : ∀ q ∈ vs ++ [p], q ∈ ms := fun q hq => by
    rcases List.mem_append.1 hq with h | h
    · exact hsub q h
    · rw [List.mem_singleton.1 h]; exact hp
  have hlen : (vs ++ [p]).length ≤ ms.length := nd_len hnd' hsub2
  unfold ekK evN enK en37
  repeat (first | refine Z0 ?_ | (refine ZR ?_; first | refine x1 ?_ | refine x2 ?_ | refine x8 ?_ | refine Z1 ?_ | refine Z2 ?_ | refine x3 fun _ => ?_ | refine x4 fun _ => ?_ | refine x5 fun _ => ?_ | refine Z3 fun _ => ?_ | refine Z4 fun _ => ?_) | refine ZC ?_)
  rename_i b3
  refine rt_step rfl rfl rfl (st_yield (q := none) rfl rfl rfl (by rw [hps]; rfl) (H1 := (b3, _) :: (it, _) :: R) (((List.Perm.swap _ _ _).cons _).trans (List.Perm.swap _ _ _)) hfr (((hround vs R none p it (.iter (some eb) c (vs.map (·.2.2) ++ [p.2.2]) c) hp hlen hs).mono ?_).weak (fun t v h => h) (List.Sublist.cons_cons _ (List.sublist_cons_self _ _))))
  intro e l2 H2 h
  cases e with
  | exit j => exact h
  | ret => exact h
  | normal =>
    obtain ⟨q', H3, hp', h⟩ := h
    refine ⟨q', H3, hp', h.mono fun e l3 H4 h => ?_⟩
    obtain ⟨st, q2, H5, hp2, h⟩ := h
    refine ⟨st, q2, H5, hp2, ?_⟩
    have key : ∀ {v : Value} {H' : Hp}, RndI Lp fr ps A B it (.iter (some eb) c (vs.map (·.2.2) ++ [p.2.2]) c) (St (vs ++ [p])) v H' → v = .bool true ∧ ∃ R', St (vs ++ [p]) R' ∧ ((Lp, AObj.loop 0 none fr ps A B) :: (it, AObj.iter (some eb) c (vs.map (·.2.2) ++ [p.2.2]) c) :: R').Sublist H' := fun h => h
    cases e with
    | normal =>
      obtain ⟨_, R', hs', hsub'⟩ := key h
      repeat (first | refine Z0 ?_ | (refine ZR ?_; first | refine x1 ?_ | refine x2 ?_ | refine x8 ?_ | refine Z1 ?_ | refine Z2 ?_ | refine x3 fun _ => ?_ | refine x4 fun _ => ?_ | refine x5 fun _ => ?_ | refine Z3 fun _ => ?_ | refine Z4 fun _ => ?_) | refine ZC ?_)
      have hlen := hlen
      refine ⟨(vs ++ [p], R'), ⟨hnd', hsub2, hs'⟩, ?_, by repeat (first | exact SubL.nil | refine SubL.cons rfl ?_), ?_⟩
      · dsimp only
        rw [List.length_append, List.length_singleton] at hlen ⊢
        omega
      · dsimp only
        rw [List.map_append]
        exact hsub'
    | exit j =>
      obtain ⟨hf, _⟩ := key h
      cases hf
    | ret =>
      obtain ⟨hf, _⟩ := key h
      cases hf
theorem app66_ct (b2 : Nat) (hb : Born ms c) (hl : ms.length ≤ 2000) (hm : (eb, AObj.map (mkH ekK evN ms) c) ∈ H)
    (hQ : ∀ (vs : List (Kk × S37 × Nat)) v G, vs.Perm ms → Own enK 2 (vs.map (·.1)) v G → Q v (G ++ H)) :
    CallT (cx B0 old) (acall (cx B0 old) ansP (n + 3)) 66 [.slice none 0 0, .func (.func 56) #[] #[.pointer (some ⟨b2, 0, none⟩)]] ((b2, .row [.map (some eb)] 1 false) :: H) Q := by
  refine call_inM 13 rfl Try.func66 rfl rfl ?_
  refine cm_seq (cm_code ?_)
  repeat (first | refine Z0 ?_ | (refine ZR ?_; first | refine x1 ?_ | refine x2 ?_ | refine x8 ?_ | refine Z1 ?_ | refine Z2 ?_ | refine x3 fun _ => ?_ | refine x4 fun _ => ?_ | refine x5 fun _ => ?_ | refine Z3 fun _ => ?_ | refine Z4 fun _ => ?_) | refine ZC ?_)
  rename_i c2
  refine cm_seq (cm_seq (cm_code ?_))
  repeat (first | refine Z0 ?_ | (refine ZR ?_; first | refine x1 ?_ | refine x2 ?_ | refine x8 ?_ | refine Z1 ?_ | refine Z2 ?_ | refine x3 fun _ => ?_ | refine x4 fun _ => ?_ | refine x5 fun _ => ?_ | refine Z3 fun _ => ?_ | refine Z4 fun _ => ?_) | refine ZC ?_)
  refine cm_block (cm_range rfl rfl ?_)
  intro m fr hfr
  refine it56_ct (n := n) (ms := ms) (c := c) (eb := eb) b2 (m + 1) 13 _ fr _ _ _
    (fun vs R => ∃ v G, Own enK 2 (vs.map (·.1)) v G ∧ vs.length ≤ ms.length ∧ R = (m, .dblk) :: (c2, .row [v] 1 false) :: (b2, .row [.map (some eb)] 1 false) :: (G ++ H)) _ rfl hfr hb ?_ ?_ ?_ ?_
  · rintro vs R ⟨v, G, ho, hvl, rfl⟩
    exact ⟨List.Mem.tail _ (List.Mem.tail _ (List.Mem.head _)), List.Mem.tail _ (List.Mem.tail _ (List.Mem.tail _ (List.mem_append_right _ hm)))⟩
  · exact ⟨_, _, Own.nil, Nat.zero_le _, rfl⟩
  · rintro vs R q p it io hp hvl2 ⟨v, G, ho, hvl, rfl⟩
    obtain ⟨ad4, c4', e4, _⟩ := ho.arrW (C := cx B0 old) enK_len
    subst e4
    unfold ekK enK
    repeat (first | refine Z0 ?_ | (refine ZR ?_; first | refine x1 ?_ | refine x2 ?_ | refine x8 ?_ | refine Z1 ?_ | refine Z2 ?_ | refine x3 fun _ => ?_ | refine x4 fun _ => ?_ | refine x5 fun _ => ?_ | refine Z3 fun _ => ?_ | refine Z4 fun _ => ?_) | refine ZC ?_)
    refine ⟨q, _, List.Perm.swap _ _ _, ?_⟩
    repeat (first | refine Z0 ?_ | (refine ZR ?_; first | refine x1 ?_ | refine x2 ?_ | refine x8 ?_ | refine Z1 ?_ | refine Z2 ?_ | refine x3 fun _ => ?_ | refine x4 fun _ => ?_ | refine x5 fun _ => ?_ | refine Z3 fun _ => ?_ | refine Z4 fun _ => ?_) | refine ZC ?_)
    rename_i bs
    refine rt_step rfl rfl rfl (st_appP (M := [p.1]) (c := 1) (pre := [_, _, _, _, _, _, _]) ho enK_len enK_one rfl rfl (ap rfl) (arrW_one enK_len hm0) (Nat.le_trans (Nat.mul_le_mul_right _ (show 2 * ((vs.map (·.1)).length + [p.1].length) + 192 ≤ 6000 by simp only [List.length_singleton, List.length_map]; omega)) (by decide)) fun v1 G1 o1 => ?_)
    obtain ⟨ad5, c5', e5, _⟩ := o1.arrW (C := cx B0 old) enK_len
    subst e5
    repeat (first | refine Z0 ?_ | (refine ZR ?_; first | refine x1 ?_ | refine x2 ?_ | refine x8 ?_ | refine Z1 ?_ | refine Z2 ?_ | refine x3 fun _ => ?_ | refine x4 fun _ => ?_ | refine x5 fun _ => ?_ | refine Z3 fun _ => ?_ | refine Z4 fun _ => ?_) | refine ZC ?_)
    unfold rndΦ RndI
    exact ⟨1, q, _, List.Perm.swap _ _ _, rfl, _, ⟨_, _, by rw [List.map_append]; exact o1, hvl2, rfl⟩, by exact drop_auto⟩
  · rintro vs R v ⟨v', G, ho, hvl, rfl⟩ hperm
    refine ⟨0, none, _, List.Perm.refl _, rfl, ?_⟩
    obtain ⟨ad4, c4', e4, _⟩ := ho.arrW (C := cx B0 old) enK_len
    subst e4
    refine cm_code ?_
    repeat (first | refine Z0 ?_ | (refine ZR ?_; first | refine x1 ?_ | refine x2 ?_ | refine x8 ?_ | refine Z1 ?_ | refine Z2 ?_ | refine x3 fun _ => ?_ | refine x4 fun _ => ?_ | refine x5 fun _ => ?_ | refine Z3 fun _ => ?_ | refine Z4 fun _ => ?_) | refine ZC ?_)
    refine lv_one (List.Perm.refl _) ⟨G ++ H, by exact drop_auto, ?_⟩
    exact res_tmp rfl (res_nil (hQ vs _ G hperm ho))
theorem coll54_ct (b2 : Nat) (hb : Born ms c) (hl : ms.length ≤ 2000) (hm : (eb, AObj.map (mkH ekK evN ms) c) ∈ H)
    (hQ : ∀ (vs : List (Kk × S37 × Nat)) v G, vs.Perm ms → Own enK 2 (vs.map (·.1)) v G → Q v (G ++ H)) :
    CallT (cx B0 old) (acall (cx B0 old) ansP (n + 4)) 54 [.func (.func 56) #[] #[.pointer (some ⟨b2, 0, none⟩)]] ((b2, .row [.map (some eb)] 1 false) :: H) Q := by
  refine call_in1 5 rfl Try.func54 rfl rfl ?_
  repeat (first | refine Z0 ?_ | (refine ZR ?_; first | refine x1 ?_ | refine x2 ?_ | refine x8 ?_ | refine Z1 ?_ | refine Z2 ?_ | refine x3 fun _ => ?_ | refine x4 fun _ => ?_ | refine x5 fun _ => ?_ | refine Z3 fun _ => ?_ | refine Z4 fun _ => ?_) | refine ZC ?_)
  refine rt_step rfl rfl rfl (st_call rfl rfl rfl rfl (app66_ct b2 hb hl hm fun vs v G hp ho => ?_))
  repeat (first | refine Z0 ?_ | (refine ZR ?_; first | refine x1 ?_ | refine x2 ?_ | refine x8 ?_ | refine Z1 ?_ | refine Z2 ?_ | refine x3 fun _ => ?_ | refine x4 fun _ => ?_ | refine x5 fun _ => ?_ | refine Z3 fun _ => ?_ | refine Z4 fun _ => ?_) | refine ZC ?_)
  exact re_1 rfl rfl (List.Sublist.refl _) (hQ vs v G hp ho)
theorem sorted41_ct (b2 : Nat) (hb : Born ms c) (hl : ms.length ≤ 2000) (hm : (eb, AObj.map (mkH ekK evN ms) c) ∈ H) (hk : ∀ p ∈ ms, okK p.1)
    (hQ : ∀ ks v G, ks.Perm (ms.map (·.1)) → (ks.map rkK).Pairwise (· ≤ ·) → Own enK 2 ks v G → Q v (G ++ H)) :
    CallT (cx B0 old) (acall (cx B0 old) ansP (n + ms.length + 14)) 41 [.func (.func 56) #[] #[.pointer (some ⟨b2, 0, none⟩)], .func (.func 43) #[] #[]] ((b2, .row [.map (some eb)] 1 false) :: H) Q := by
  refine call_in2 12 rfl Try.func41 rfl rfl ?_
  repeat (first | refine Z0 ?_ | (refine ZR ?_; first | refine x1 ?_ | refine x2 ?_ | refine x8 ?_ | refine Z1 ?_ | refine Z2 ?_ | refine x3 fun _ => ?_ | refine x4 fun _ => ?_ | refine x5 fun _ => ?_ | refine Z3 fun _ => ?_ | refine Z4 fun _ => ?_) | refine ZC ?_)
  refine rt_step rfl rfl rfl (st_call rfl rfl rfl rfl (CallT.fuel (n := n + ms.length + 9 + 4) (coll54_ct b2 hb hl hm fun vs v G hp ho => ?_) rfl))
  repeat (first | refine Z0 ?_ | (refine ZR ?_; first | refine x1 ?_ | refine x2 ?_ | refine x8 ?_ | refine Z1 ?_ | refine Z2 ?_ | refine x3 fun _ => ?_ | refine x4 fun _ => ?_ | refine x5 fun _ => ?_ | refine Z3 fun _ => ?_ | refine Z4 fun _ => ?_) | refine ZC ?_)
  have hlen : (vs.map (·.1)).length = ms.length := by rw [List.length_map]; exact hp.length_eq
  refine rt_step rfl rfl rfl (st_call rfl rfl rfl rfl (CallT.fuel (sortFK_ct (n := n) keyCmp ho (fun x hx => by
    obtain ⟨p, hp2, rfl⟩ := List.mem_map.1 hx
    exact hk p (hp.mem_iff.1 hp2)) (by omega) fun w ks G2 o2 p2 s2 => ?_) (by rw [hlen])))
  repeat (first | refine Z0 ?_ | (refine ZR ?_; first | refine x1 ?_ | refine x2 ?_ | refine x8 ?_ | refine Z1 ?_ | refine Z2 ?_ | refine x3 fun _ => ?_ | refine x4 fun _ => ?_ | refine x5 fun _ => ?_ | refine Z3 fun _ => ?_ | refine Z4 fun _ => ?_) | refine ZC ?_)
  exact re_1 rfl rfl (List.Sublist.refl _) (hQ ks v G2 (p2.trans (hp.map _)) s2 o2)
end
end Go.Proofs.Ytojnbjandkbkmaa.Abs

/- Contracts of the program's New, Lookup, Find, Remove, All. -/
namespace Go.Proofs.Ytojnbjandkbkmaa.Abs
open Go
set_option linter.unusedVariables false
def findIP (L : List S37) (bd ip : Int) : Option S37 := L.find? fun x => decide (x.a0 = bd ∧ x.a4 = true ∧ x.a3 = ip)
section
variable {c co : Nat} {os os1 : List ((Int × Int) × Int × Nat)} {ms : List (Kk × S37 × Nat)} {L : List S37}
theorem TabI.ip_none (h : TabI ms c os L) {bd ip : Int} (hn : lkH os (bd, ip) = none) : findIP L bd ip = none := by
  unfold findIP
  rw [List.find?_eq_none]
  intro x hx g
  have g := of_decide_eq_true g
  have := (h.own (bd, ip) x.a2).2 ⟨x, hx, g.2.1, by rw [g.1, g.2.2], rfl⟩
  rw [hn] at this
  cases this
theorem TabI.ip_some (h : TabI ms c os L) {bd ip m : Int} (hm : lkH os (bd, ip) = some m) : ∃ x, findIP L bd ip = some x ∧ findN L ⟨bd, m⟩ = some x := by
  obtain ⟨x, hx, h4, hq, h2⟩ := (h.own _ _).1 hm
  obtain ⟨h0, h3⟩ := Prod.mk.inj hq
  refine ⟨x, ?_, (findN_iff h.srt).2 ⟨hx, Kk.eta h0 h2⟩⟩
  unfold findIP
  cases e : L.find? fun x => decide (x.a0 = bd ∧ x.a4 = true ∧ x.a3 = ip) with
  | none => exact absurd (decide_eq_true ⟨h0, h4, h3⟩) (List.find?_eq_none.1 e x hx)
  | some y =>
    have g := List.find?_some e
    have g : y.a0 = bd ∧ y.a4 = true ∧ y.a3 = ip := by simpa using g
    rw [h.own_key (List.mem_of_find?_eq_some e) hx g.2.1 h4 (g.1.trans h0.symm) (g.2.2.trans h3.symm)]
/-- Some entries are left out of the owners. -/
def OwnX (os : List ((Int × Int) × Int × Nat)) (L : List S37) (out : S37 → Prop) : Prop := ∀ q m, lkH os q = some m ↔ ∃ x ∈ L, ¬ out x ∧ x.a4 = true ∧ (x.a0, x.a3) = q ∧ x.a2 = m
theorem TabI.ownX0 (h : TabI ms c os L) : OwnX os L fun _ => False := fun q m => by
  rw [h.own]
  exact ⟨fun ⟨x, a, b⟩ => ⟨x, a, id, b⟩, fun ⟨x, a, _, b⟩ => ⟨x, a, b⟩⟩
theorem TabI.ownX1 (h : TabI ms c os L) {out : S37 → Prop} (ho : OwnX os1 L out) (hu : Uq os1) {x : S37} (hx : x ∈ L) :
    OwnX (if x.a4 = true then delH os1 (x.a0, x.a3) else os1) L fun y => out y ∨ y = x := fun q m => by
  cases h4 : x.a4 with
  | false =>
    rw [if_neg (by decide), ho]
    constructor
    · rintro ⟨y, hy, h1, h2, h3⟩
      exact ⟨y, hy, fun g => g.elim h1 fun e => (by rw [e, h4] at h2; cases h2), h2, h3⟩
    · rintro ⟨y, hy, h1, h2, h3⟩
      exact ⟨y, hy, fun g => h1 (.inl g), h2, h3⟩
  | true =>
    rw [if_pos rfl, lkH_del hu]
    by_cases e : q = (x.a0, x.a3)
    · rw [if_pos e]
      constructor
      · intro h; cases h
      · rintro ⟨y, hy, h1, h2, h3, h5⟩
        rw [e] at h3
        obtain ⟨e1, e2⟩ := Prod.mk.inj h3
        exact absurd (.inr (h.own_key hy hx h2 h4 e1 e2)) h1
    · rw [if_neg e, ho]
      constructor
      · rintro ⟨y, hy, h1, h2, h3, h5⟩
        exact ⟨y, hy, fun g => g.elim h1 fun e2 => e (by rw [← h3, e2]), h2, h3, h5⟩
      · rintro ⟨y, hy, h1, h2, h3⟩
        exact ⟨y, hy, fun g => h1 (.inl g), h2, h3⟩
theorem uq_rel (x : S37) (hu : Uq os1) : Uq (if x.a4 = true then delH os1 (x.a0, x.a3) else os1) := by
  split
  · exact hu.del
  · exact hu
/-- Entries are removed. -/
theorem TabI.cut (h : TabI ms c os L) {out : S37 → Bool} {ms2 : List (Kk × S37 × Nat)} (hm : ms2 = ms.filter fun p => !out p.2.1) {os2 : List ((Int × Int) × Int × Nat)} (hu : Uq os2) (ho : OwnX os2 L fun x => out x = true) :
    TabI ms2 c os2 (L.filter fun x => !out x) := by
  subst hm
  have hus : Uq (ms.filter fun p => !out p.2.1) := h.uq.sublist (List.filter_sublist.map _)
  refine ⟨h.born.sub List.filter_sublist, hus, hu, fun k x => ?_, h.srt.sub List.filter_sublist, fun x hx => h.val x (List.mem_filter.1 hx).1, fun q m => ?_⟩
  · rw [hus.iff]
    constructor
    · rintro ⟨i, hi⟩
      obtain ⟨h1, h2⟩ := List.mem_filter.1 hi
      obtain ⟨h3, h4⟩ := h.mem h1
      exact ⟨List.mem_filter.2 ⟨h3, h2⟩, h4⟩
    · rintro ⟨h1, h2⟩
      obtain ⟨h3, h4⟩ := List.mem_filter.1 h1
      obtain ⟨i, hi⟩ := lkH_mem ((h.fnd k x).2 ⟨h3, h2⟩)
      exact ⟨i, List.mem_filter.2 ⟨hi, h4⟩⟩
  · rw [ho]
    constructor
    · rintro ⟨x, h1, h2, h3⟩
      exact ⟨x, List.mem_filter.2 ⟨h1, by simpa using h2⟩, h3⟩
    · rintro ⟨x, h1, h3⟩
      obtain ⟨h4, h5⟩ := List.mem_filter.1 h1
      exact ⟨x, h4, by simpa using h5, h3⟩
theorem TabI.keys (h : TabI ms c os L) {ks : List Kk} (hp : ks.Perm (ms.map (·.1))) (hs : (ks.map rkK).Pairwise (· ≤ ·)) : ks = L.map kOf := by
  have e : (ms.map (·.2.1)).map kOf = ms.map (·.1) := by
    rw [List.map_map]
    exact List.map_congr_left fun p hp => (h.mem hp).2
  have hp2 : ks.Perm (L.map kOf) := hp.trans (by rw [← e]; exact h.perm.map _)
  have hs2 : ((L.map kOf).map rkK).Pairwise (· ≤ ·) := by
    rw [List.map_map]
    exact h.srt.imp fun h => by omega
  refine srt_unique hp2 (fun x hx y hy e => ?_) hs hs2
  obtain ⟨a, ha, rfl⟩ := List.mem_map.1 (hp2.mem_iff.1 hx)
  obtain ⟨b, hb, rfl⟩ := List.mem_map.1 (hp2.mem_iff.1 hy)
  exact rk_inj (okE.k (h.val a ha).1) (okE.k (h.val b hb).1) e
end
section
variable {B0 : Nat} {old : Nat → Option (List Value)} {n : Nat} {H Hs : Hp} {Q : Value → Hp → Prop} {p ob eb co c : Nat} {age : Int} {os : List ((Int × Int) × Int × Nat)} {ms : List (Kk × S37 × Nat)} {L : List S37}
set_option maxRecDepth 10000
set_option maxHeartbeats 8000000
theorem look28_ct (hI : TabI ms c os L) (bd mac : Int) (h : Q (.tuple #[.agg ⟨en37 ((findN L ⟨bd, mac⟩).getD zN)⟩, .bool (findN L ⟨bd, mac⟩).isSome]) ((p, .row [.map (some ob), .int .i64 age, .map (some eb)] 3 false) :: (ob, .map (mkH ekP evM os) co) :: (eb, .map (mkH ekK evN ms) c) :: H)) :
    CallT (cx B0 old) (acall (cx B0 old) ansP (n + 2)) 28 [.pointer (some ⟨p, 0, none⟩), .int .i64 bd, .int .u64 mac] ((p, .row [.map (some ob), .int .i64 age, .map (some eb)] 3 false) :: (ob, .map (mkH ekP evM os) co) :: (eb, .map (mkH ekK evN ms) c) :: H) Q := by
  refine call_in3 26 rfl Try.func28 rfl rfl ?_
  have hlk := lookE_K (C := cx B0 old) (ev := evN) keyMapK ms ⟨bd, mac⟩ true
  rw [hI.look] at hlk
  repeat (first | refine Z0 ?_ | (refine ZR ?_; first | refine x1 ?_ | refine x2 ?_ | refine x8 ?_ | refine Z1 ?_ | refine Z2 ?_ | refine x3 fun _ => ?_ | refine x4 fun _ => ?_ | refine x5 fun _ => ?_ | refine Z3 fun _ => ?_ | refine Z4 fun _ => ?_) | refine ZC ?_)
  (first | refine CodeT.perm ?_ pb | refine RunT.perm ?_ pb | refine PlanT.perm ?_ pb)
  repeat (first | refine Z0 ?_ | (refine ZR ?_; first | refine x1 ?_ | refine x2 ?_ | refine x8 ?_ | refine Z1 ?_ | refine Z2 ?_ | refine x3 fun _ => ?_ | refine x4 fun _ => ?_ | refine x5 fun _ => ?_ | refine Z3 fun _ => ?_ | refine Z4 fun _ => ?_) | refine ZC ?_)
  refine rt_step rfl rfl rfl (st_call rfl rfl rfl rfl (inv33_ct ?_))
  repeat (first | refine Z0 ?_ | (refine ZR ?_; first | refine x1 ?_ | refine x2 ?_ | refine x8 ?_ | refine Z1 ?_ | refine Z2 ?_ | refine x3 fun _ => ?_ | refine x4 fun _ => ?_ | refine x5 fun _ => ?_ | refine Z3 fun _ => ?_ | refine Z4 fun _ => ?_) | refine ZC ?_)
  cases hq : findN L ⟨bd, mac⟩ with
  | none =>
    rw [hq] at hlk h
    simp only [if_true] at hlk
    unfold en37 at hlk
    refine rt_r rfl rfl rfl (rd_lookup rfl rfl hm2 hlk) ?_
    repeat (first | refine Z0 ?_ | (refine ZR ?_; first | refine x1 ?_ | refine x2 ?_ | refine x8 ?_ | refine Z1 ?_ | refine Z2 ?_ | refine x3 fun _ => ?_ | refine x4 fun _ => ?_ | refine x5 fun _ => ?_ | refine Z3 fun _ => ?_ | refine Z4 fun _ => ?_) | refine ZC ?_)
    exact re_c2 rfl rfl (.own _ _ hm4) rfl (sz rfl) rfl rfl (by exact drop_auto) h
  | some x =>
    rw [hq] at hlk h
    simp only [if_true] at hlk
    unfold evN en37 at hlk
    refine rt_r rfl rfl rfl (rd_lookup rfl rfl hm2 hlk) ?_
    repeat (first | refine Z0 ?_ | (refine ZR ?_; first | refine x1 ?_ | refine x2 ?_ | refine x8 ?_ | refine Z1 ?_ | refine Z2 ?_ | refine x3 fun _ => ?_ | refine x4 fun _ => ?_ | refine x5 fun _ => ?_ | refine Z3 fun _ => ?_ | refine Z4 fun _ => ?_) | refine ZC ?_)
    exact re_c2 rfl rfl (.own _ _ hm4) rfl (sz rfl) rfl rfl (by exact drop_auto) h
theorem find32_ct (hI : TabI ms c os L) (bd ip : Int) (h : Q (.tuple #[.agg ⟨en37 ((findIP L bd ip).getD zN)⟩, .bool (findIP L bd ip).isSome]) ((p, .row [.map (some ob), .int .i64 age, .map (some eb)] 3 false) :: (ob, .map (mkH ekP evM os) co) :: (eb, .map (mkH ekK evN ms) c) :: H)) :
    CallT (cx B0 old) (acall (cx B0 old) ansP (n + 3)) 32 [.pointer (some ⟨p, 0, none⟩), .int .i64 bd, .int .u32 ip] ((p, .row [.map (some ob), .int .i64 age, .map (some eb)] 3 false) :: (ob, .map (mkH ekP evM os) co) :: (eb, .map (mkH ekK evN ms) c) :: H) Q := by
  refine call_in3 31 rfl Try.func32 rfl rfl ?_
  repeat (first | refine Z0 ?_ | (refine ZR ?_; first | refine x1 ?_ | refine x2 ?_ | refine x8 ?_ | refine Z1 ?_ | refine Z2 ?_ | refine x3 fun _ => ?_ | refine x4 fun _ => ?_ | refine x5 fun _ => ?_ | refine Z3 fun _ => ?_ | refine Z4 fun _ => ?_) | refine ZC ?_)
  (first | refine CodeT.perm ?_ pb | refine RunT.perm ?_ pb | refine PlanT.perm ?_ pb)
  repeat (first | refine Z0 ?_ | (refine ZR ?_; first | refine x1 ?_ | refine x2 ?_ | refine x8 ?_ | refine Z1 ?_ | refine Z2 ?_ | refine x3 fun _ => ?_ | refine x4 fun _ => ?_ | refine x5 fun _ => ?_ | refine Z3 fun _ => ?_ | refine Z4 fun _ => ?_) | refine ZC ?_)
  refine rt_step rfl rfl rfl (st_call rfl rfl rfl rfl (inv33_ct ?_))
  repeat (first | refine Z0 ?_ | (refine ZR ?_; first | refine x1 ?_ | refine x2 ?_ | refine x8 ?_ | refine Z1 ?_ | refine Z2 ?_ | refine x3 fun _ => ?_ | refine x4 fun _ => ?_ | refine x5 fun _ => ?_ | refine Z3 fun _ => ?_ | refine Z4 fun _ => ?_) | refine ZC ?_)
  cases hq : lkH os (bd, ip) with
  | none =>
    rw [hI.ip_none hq] at h
    refine rt_step rfl rfl rfl (st_call rfl rfl rfl rfl (own52_ct bd ip (fun _ => ?_) (fun m g => absurd (hq.symm.trans g) (by simp))))
    repeat (first | refine Z0 ?_ | (refine ZR ?_; first | refine x1 ?_ | refine x2 ?_ | refine x8 ?_ | refine Z1 ?_ | refine Z2 ?_ | refine x3 fun _ => ?_ | refine x4 fun _ => ?_ | refine x5 fun _ => ?_ | refine Z3 fun _ => ?_ | refine Z4 fun _ => ?_) | refine ZC ?_)
    exact re_c2 rfl rfl (.own _ _ hm3) rfl (sz rfl) rfl rfl (by exact drop_auto) h
  | some mac =>
    obtain ⟨x, h1, h2⟩ := hI.ip_some hq
    rw [h1] at h
    refine rt_step rfl rfl rfl (st_call rfl rfl rfl rfl (own52_ct bd ip (fun g => absurd (hq.symm.trans g) (by simp)) (fun m g => ?_)))
    obtain rfl : mac = m := Option.some.inj (hq.symm.trans g)
    repeat (first | refine Z0 ?_ | (refine ZR ?_; first | refine x1 ?_ | refine x2 ?_ | refine x8 ?_ | refine Z1 ?_ | refine Z2 ?_ | refine x3 fun _ => ?_ | refine x4 fun _ => ?_ | refine x5 fun _ => ?_ | refine Z3 fun _ => ?_ | refine Z4 fun _ => ?_) | refine ZC ?_)
    refine rt_step rfl rfl rfl (st_call rfl rfl rfl rfl (look28_ct hI bd mac ?_))
    rw [h2]
    unfold en37
    repeat (first | refine Z0 ?_ | (refine ZR ?_; first | refine x1 ?_ | refine x2 ?_ | refine x8 ?_ | refine Z1 ?_ | refine Z2 ?_ | refine x3 fun _ => ?_ | refine x4 fun _ => ?_ | refine x5 fun _ => ?_ | refine Z3 fun _ => ?_ | refine Z4 fun _ => ?_) | refine ZC ?_)
    exact re_c2 rfl rfl (.own _ _ hm3) rfl (sz rfl) rfl rfl (by exact drop_auto) h
end
end Go.Proofs.Ytojnbjandkbkmaa.Abs

/- Contracts of the program's New, Remove, All. -/
namespace Go.Proofs.Ytojnbjandkbkmaa.Abs
open Go
set_option linter.unusedVariables false
section
variable {B0 : Nat} {old : Nat → Option (List Value)} {n : Nat} {H Hs : Hp} {Q : Value → Hp → Prop} {p ob eb co c : Nat} {age : Int} {os : List ((Int × Int) × Int × Nat)} {ms : List (Kk × S37 × Nat)} {L : List S37}
set_option maxRecDepth 10000
set_option maxHeartbeats 8000000
theorem CallT.permPost {C : Ctx} {hc : Abs.H Prop} {g : FuncId} {args : List Value} {H : Hp} {Q Q' : Value → Hp → Prop} (h : CallT C hc g args H Q') (hm : ∀ v H', Q' v H' → ∃ H2, H2.Perm H' ∧ Q v H2) : CallT C hc g args H Q := by
  unfold CallT at *
  exact fun s k h1 h2 => h s k h1 fun v H' s' h3 h4 => let ⟨H2, h5, h6⟩ := hm v H' h3; h2 v H2 s' h6 (h4.perm h5)
theorem new12_ct (a : Int) (hbad : (a < 1 ∨ a > 1073741824) → Q (.tuple #[.pointer none, .int .i64 2]) H)
    (hok : 1 ≤ a ∧ a ≤ 1073741824 → ∀ p ob eb, Q (.tuple #[.pointer (some ⟨p, 0, none⟩), .int .i64 0]) ((p, .row [.map (some ob), .int .i64 a, .map (some eb)] 3 false) :: (ob, .map (mkH ekP evM []) 0) :: (eb, .map (mkH ekK evN []) 0) :: H)) :
    CallT (cx B0 old) (acall (cx B0 old) ansP (n + 1)) 12 [.int .i64 a] H Q := by
  refine CallT.permPost (Q' := fun v H' => ((a < 1 ∨ a > 1073741824) ∧ v = .tuple #[.pointer none, .int .i64 2] ∧ H' = H) ∨ ((1 ≤ a ∧ a ≤ 1073741824) ∧ ∃ p ob eb, v = .tuple #[.pointer (some ⟨p, 0, none⟩), .int .i64 0] ∧
      H' = (p, .row [.map (some ob), .int .i64 a, .map (some eb)] 3 false) :: (eb, .map (mkH ekK evN []) 0) :: (ob, .map (mkH ekP evM []) 0) :: H)) ?_ ?_
  · refine call_in1 16 rfl Try.func12 rfl rfl ?_
    repeat (first | refine Z0 ?_ | (refine ZR ?_; first | refine x1 ?_ | refine x2 ?_ | refine x8 ?_ | refine Z1 ?_ | refine Z2 ?_ | refine x3 fun _ => ?_ | refine x4 fun _ => ?_ | refine x5 fun _ => ?_ | refine Z3 fun _ => ?_ | refine Z4 fun _ => ?_) | refine ZC ?_)
    refine isRun ?_
    refine z1 (fun h1 => ?_) (fun h1 => ?_)
    · repeat (first | refine Z0 ?_ | (refine ZR ?_; first | refine x1 ?_ | refine x2 ?_ | refine x8 ?_ | refine Z1 ?_ | refine Z2 ?_ | refine x3 fun _ => ?_ | refine x4 fun _ => ?_ | refine x5 fun _ => ?_ | refine Z3 fun _ => ?_ | refine Z4 fun _ => ?_) | refine ZC ?_)
      exact re_2 rfl rfl rfl (List.Sublist.refl _) (.inl ⟨.inl h1, rfl, rfl⟩)
    repeat (first | refine Z0 ?_ | (refine ZR ?_; first | refine x1 ?_ | refine x2 ?_ | refine x8 ?_ | refine Z1 ?_ | refine Z2 ?_ | refine x3 fun _ => ?_ | refine x4 fun _ => ?_ | refine x5 fun _ => ?_ | refine Z3 fun _ => ?_ | refine Z4 fun _ => ?_) | refine ZC ?_)
    refine ct_condT te_d rfl (fun h2 => ?_) (fun h2 => ?_)
    · repeat (first | refine Z0 ?_ | (refine ZR ?_; first | refine x1 ?_ | refine x2 ?_ | refine x8 ?_ | refine Z1 ?_ | refine Z2 ?_ | refine x3 fun _ => ?_ | refine x4 fun _ => ?_ | refine x5 fun _ => ?_ | refine Z3 fun _ => ?_ | refine Z4 fun _ => ?_) | refine ZC ?_)
      exact re_2 rfl rfl rfl (List.Sublist.refl _) (.inl ⟨.inr h2, rfl, rfl⟩)
    repeat (first | refine Z0 ?_ | (refine ZR ?_; first | refine x1 ?_ | refine x2 ?_ | refine x8 ?_ | refine Z1 ?_ | refine Z2 ?_ | refine x3 fun _ => ?_ | refine x4 fun _ => ?_ | refine x5 fun _ => ?_ | refine Z3 fun _ => ?_ | refine Z4 fun _ => ?_) | refine ZC ?_)
    exact re_2 rfl rfl rfl (List.Sublist.refl _) (.inr ⟨⟨by omega, by omega⟩, _, _, _, rfl, rfl⟩)
  · rintro v H' (⟨h1, rfl, rfl⟩ | ⟨h1, p, ob, eb, rfl, rfl⟩)
    · exact ⟨_, List.Perm.refl _, hbad h1⟩
    · exact ⟨_, (List.Perm.swap _ _ _).cons _, hok h1 p ob eb⟩
theorem rem26_ct (hI : TabI ms c os L) (bd mac : Int) (hQ : ∀ ms' os', TabI ms' c os' (rmN ⟨bd, mac⟩ L) → Q (.tuple #[.bool (findN L ⟨bd, mac⟩).isSome, .int .i64 0]) ((p, .row [.map (some ob), .int .i64 age, .map (some eb)] 3 false) :: (ob, .map (mkH ekP evM os') co) :: (eb, .map (mkH ekK evN ms') c) :: H)) :
    CallT (cx B0 old) (acall (cx B0 old) ansP (n + 2)) 26 [.pointer (some ⟨p, 0, none⟩), .int .i64 bd, .int .u64 mac] ((p, .row [.map (some ob), .int .i64 age, .map (some eb)] 3 false) :: (ob, .map (mkH ekP evM os) co) :: (eb, .map (mkH ekK evN ms) c) :: H) Q := by
  refine call_in3 37 rfl Try.func26 rfl rfl ?_
  have hlk := lookE_K (C := cx B0 old) (ev := evN) keyMapK ms ⟨bd, mac⟩ true
  rw [hI.look] at hlk
  repeat (first | refine Z0 ?_ | (refine ZR ?_; first | refine x1 ?_ | refine x2 ?_ | refine x8 ?_ | refine Z1 ?_ | refine Z2 ?_ | refine x3 fun _ => ?_ | refine x4 fun _ => ?_ | refine x5 fun _ => ?_ | refine Z3 fun _ => ?_ | refine Z4 fun _ => ?_) | refine ZC ?_)
  refine rt_step rfl rfl rfl (st_call rfl rfl rfl rfl (inv33_ct ?_))
  repeat (first | refine Z0 ?_ | (refine ZR ?_; first | refine x1 ?_ | refine x2 ?_ | refine x8 ?_ | refine Z1 ?_ | refine Z2 ?_ | refine x3 fun _ => ?_ | refine x4 fun _ => ?_ | refine x5 fun _ => ?_ | refine Z3 fun _ => ?_ | refine Z4 fun _ => ?_) | refine ZC ?_)
  cases hq : findN L ⟨bd, mac⟩ with
  | none =>
    rw [hq] at hlk hQ
    simp only [if_true] at hlk
    unfold en37 at hlk
    refine rt_r rfl rfl rfl (rd_lookup rfl rfl hm2 hlk) ?_
    repeat (first | refine Z0 ?_ | (refine ZR ?_; first | refine x1 ?_ | refine x2 ?_ | refine x8 ?_ | refine Z1 ?_ | refine Z2 ?_ | refine x3 fun _ => ?_ | refine x4 fun _ => ?_ | refine x5 fun _ => ?_ | refine Z3 fun _ => ?_ | refine Z4 fun _ => ?_) | refine ZC ?_)
    have e : rmN ⟨bd, mac⟩ L = L := List.filter_eq_self.2 fun x hx => decide_eq_true fun g => by
      rw [(findN_iff hI.srt).2 ⟨hx, g⟩] at hq; cases hq
    rw [e] at hQ
    exact re_2 rfl rfl rfl (by exact drop_auto) (hQ ms os hI)
  | some x =>
    obtain ⟨hx1, hx2⟩ := (findN_iff hI.srt).1 hq
    rw [hq] at hlk hQ
    simp only [if_true] at hlk
    unfold evN en37 at hlk
    refine rt_r rfl rfl rfl (rd_lookup rfl rfl hm2 hlk) ?_
    repeat (first | refine Z0 ?_ | (refine ZR ?_; first | refine x1 ?_ | refine x2 ?_ | refine x8 ?_ | refine Z1 ?_ | refine Z2 ?_ | refine x3 fun _ => ?_ | refine x4 fun _ => ?_ | refine x5 fun _ => ?_ | refine Z3 fun _ => ?_ | refine Z4 fun _ => ?_) | refine ZC ?_)
    (first | refine CodeT.perm ?_ pb | refine RunT.perm ?_ pb | refine PlanT.perm ?_ pb)
    repeat (first | refine Z0 ?_ | (refine ZR ?_; first | refine x1 ?_ | refine x2 ?_ | refine x8 ?_ | refine Z1 ?_ | refine Z2 ?_ | refine x3 fun _ => ?_ | refine x4 fun _ => ?_ | refine x5 fun _ => ?_ | refine Z3 fun _ => ?_ | refine Z4 fun _ => ?_) | refine ZC ?_)
    refine ct_draw (masks := [0, 1, 3, 0, 15]) (plan := [0, 1, 2, 3, 4]) (E := []) (by kernel_rfl) (by kernel_rfl) (by kernel_rfl) (by kernel_rfl) ?_
    repeat (first | refine Y0 ?_ | (refine YP ?_; first | refine y1 ?_ | refine y2 ?_ | refine Y1 ?_ | refine Y2 ?_))
    refine pl_S rfl rfl rfl rfl rfl rfl (st_call rfl rfl rfl rfl (rel35_ct x fun w => ⟨by exact rec_auto, ?_⟩))
    repeat (first | refine Y0 ?_ | (refine YP ?_; first | refine y1 ?_ | refine y2 ?_ | refine Y1 ?_ | refine Y2 ?_))
    repeat (first | refine Z0 ?_ | (refine ZR ?_; first | refine x1 ?_ | refine x2 ?_ | refine x8 ?_ | refine Z1 ?_ | refine Z2 ?_ | refine x3 fun _ => ?_ | refine x4 fun _ => ?_ | refine x5 fun _ => ?_ | refine Z3 fun _ => ?_ | refine Z4 fun _ => ?_) | refine ZC ?_)
    refine rt_step0 rfl rfl (st_delete rfl rfl (delE_K keyMapK ms ⟨bd, mac⟩) sw2 ?_)
    repeat (first | refine Z0 ?_ | (refine ZR ?_; first | refine x1 ?_ | refine x2 ?_ | refine x8 ?_ | refine Z1 ?_ | refine Z2 ?_ | refine x3 fun _ => ?_ | refine x4 fun _ => ?_ | refine x5 fun _ => ?_ | refine Z3 fun _ => ?_ | refine Z4 fun _ => ?_) | refine ZC ?_)
    have hX := hI.ownX1 hI.ownX0 hI.uo hx1
    have hT := hI.cut (out := fun y => decide (kOf y = ⟨bd, mac⟩)) (ms2 := delH ms ⟨bd, mac⟩) (by
      rw [del_eq hI.uq]
      refine List.filter_congr fun q hq2 => ?_
      rw [(hI.mem hq2).2]
      simp) (uq_rel x hI.uo) (fun q m => by
        rw [hX q m]
        constructor
        · rintro ⟨y, h1, h2, h3⟩
          exact ⟨y, h1, fun g => h2 (.inr (hI.srt.key h1 hx1 ((of_decide_eq_true g).trans hx2.symm))), h3⟩
        · rintro ⟨y, h1, h2, h3⟩
          exact ⟨y, h1, fun g => g.elim id fun e => h2 (decide_eq_true (by rw [e, hx2])), h3⟩)
    have e : (L.filter fun y => !decide (kOf y = ⟨bd, mac⟩)) = rmN ⟨bd, mac⟩ L := by
      unfold rmN
      refine List.filter_congr fun y _ => ?_
      simp
    rw [e] at hT
    exact re_2 rfl rfl rfl (by exact drop_auto) (hQ _ _ hT)
theorem all19_ct (hI : TabI ms c os L) (hL : L.length ≤ 1500) (hQ : ∀ v G, Own en37 6 L v G → Q v (G ++ ((p, .row [.map (some ob), .int .i64 age, .map (some eb)] 3 false) :: (ob, .map (mkH ekP evM os) co) :: (eb, .map (mkH ekK evN ms) c) :: H))) :
    CallT (cx B0 old) (acall (cx B0 old) ansP (n + L.length + 16)) 19 [.pointer (some ⟨p, 0, none⟩)] ((p, .row [.map (some ob), .int .i64 age, .map (some eb)] 3 false) :: (ob, .map (mkH ekP evM os) co) :: (eb, .map (mkH ekK evN ms) c) :: H) Q := by
  refine call_in1 30 rfl Try.func19 rfl rfl ?_
  have hlen := hI.len
  repeat (first | refine Z0 ?_ | (refine ZR ?_; first | refine x1 ?_ | refine x2 ?_ | refine x8 ?_ | refine Z1 ?_ | refine Z2 ?_ | refine x3 fun _ => ?_ | refine x4 fun _ => ?_ | refine x5 fun _ => ?_ | refine Z3 fun _ => ?_ | refine Z4 fun _ => ?_) | refine ZC ?_)
  refine rt_step rfl rfl rfl (st_call rfl rfl rfl rfl (inv33_ct ?_))
  repeat (first | refine Z0 ?_ | (refine ZR ?_; first | refine x1 ?_ | refine x2 ?_ | refine x8 ?_ | refine Z1 ?_ | refine Z2 ?_ | refine x3 fun _ => ?_ | refine x4 fun _ => ?_ | refine x5 fun _ => ?_ | refine Z3 fun _ => ?_ | refine Z4 fun _ => ?_) | refine ZC ?_)
  refine rt_step rfl rfl rfl (st_call rfl rfl rfl rfl (keys42_ct fun b2 => ?_))
  repeat (first | refine Z0 ?_ | (refine ZR ?_; first | refine x1 ?_ | refine x2 ?_ | refine x8 ?_ | refine Z1 ?_ | refine Z2 ?_ | refine x3 fun _ => ?_ | refine x4 fun _ => ?_ | refine x5 fun _ => ?_ | refine Z3 fun _ => ?_ | refine Z4 fun _ => ?_) | refine ZC ?_)
  refine rt_step rfl rfl rfl (st_call rfl rfl rfl rfl (CallT.fuel (sorted41_ct (n := n + 1) (eb := eb) (c := c) (ms := ms) b2 hI.born (by omega) (by exact in_auto) (fun q hq => by
    obtain ⟨h1, h2⟩ := hI.mem hq
    rw [← h2]; exact okE.k (hI.val _ h1).1) fun ks v G hp hs ho => ?_) (by omega)))
  obtain rfl := hI.keys hp hs
  obtain ⟨ad, c1, e1, ha⟩ := ho.arrW (C := cx B0 old) enK_len
  subst e1
  repeat (first | refine Z0 ?_ | (refine ZR ?_; first | refine x1 ?_ | refine x2 ?_ | refine x8 ?_ | refine Z1 ?_ | refine Z2 ?_ | refine x3 fun _ => ?_ | refine x4 fun _ => ?_ | refine x5 fun _ => ?_ | refine Z3 fun _ => ?_ | refine Z4 fun _ => ?_) | refine ZC ?_)
  refine loop_ind (ι := Nat × Value × Hp) (0, .slice none 0 0, []) (fun i => L.length - i.1) (fun i => i.1 ≤ L.length ∧ Own en37 6 (L.take i.1) i.2.1 i.2.2)
    (fun i => [(15, .int .i64 (i.1 : Int)), (14, .int .i64 ((L.map kOf).length : Int)), (13, .slice ad (L.map kOf).length c1), (3, i.2.1), (0, .pointer (some ⟨p, 0, none⟩))]) (fun i => i.2.2 ++ (G ++ ((p, .row [.map (some ob), .int .i64 age, .map (some eb)] 3 false) :: (ob, .map (mkH ekP evM os) co) :: (eb, .map (mkH ekK evN ms) c) :: H))) ⟨Nat.zero_le _, Own.nil⟩ (by repeat (first | exact SubL.nil | refine SubL.cons rfl ?_)) (List.Sublist.refl _) ?_
  rintro ⟨i, va, Ga⟩ ⟨hi, oa⟩
  dsimp only at hi oa ⊢
  have hml : (L.map kOf).length = L.length := List.length_map ..
  repeat (first | refine Z0 ?_ | (refine ZR ?_; first | refine x1 ?_ | refine x2 ?_ | refine x8 ?_ | refine Z1 ?_ | refine Z2 ?_ | refine x3 fun _ => ?_ | refine x4 fun _ => ?_ | refine x5 fun _ => ?_ | refine Z3 fun _ => ?_ | refine Z4 fun _ => ?_) | refine ZC ?_)
  refine ct_condT te_d rfl (fun hlt => ?_) (fun hlt => ?_)
  rotate_left
  · obtain rfl : i = L.length := by omega
    rw [List.take_length] at oa
    repeat (first | refine Z0 ?_ | (refine ZR ?_; first | refine x1 ?_ | refine x2 ?_ | refine x8 ?_ | refine Z1 ?_ | refine Z2 ?_ | refine x3 fun _ => ?_ | refine x4 fun _ => ?_ | refine x5 fun _ => ?_ | refine Z3 fun _ => ?_ | refine Z4 fun _ => ?_) | refine ZC ?_)
    exact re_1 rfl rfl (by exact drop_auto) (hQ va Ga oa)
  have hlt' : i < L.length := by omega
  have hx := List.getElem?_eq_getElem hlt'
  have hxm := List.getElem_mem hlt'
  have htk : L.take (i + 1) = L.take i ++ [L[i]] := by rw [List.take_add_one, hx]; rfl
  generalize L[i] = x at *
  have hlk := lookE_K (C := cx B0 old) (ev := evN) keyMapK ms (kOf x) false
  rw [hI.look, (findN_iff hI.srt).2 ⟨hxm, rfl⟩] at hlk
  obtain ⟨b1, o1, e1, hL0⟩ := ((ha Ga ((p, .row [.map (some ob), .int .i64 age, .map (some eb)] 3 false) :: (ob, .map (mkH ekP evM os) co) :: (eb, .map (mkH ekK evN ms) c) :: H)).arr enK_len).ldW 78 (i := i) (a := kOf x) (by rw [List.getElem?_map, hx]; rfl) rfl (sz rfl)
  cases e1
  unfold enK at hL0
  unfold evN ekK enK en37 at hlk
  dsimp only at hlk
  obtain ⟨ada, ca, ea, ga⟩ := oa.arrW (C := cx B0 old) en37_len
  subst ea
  repeat (first | refine Z0 ?_ | (refine ZR ?_; first | refine x1 ?_ | refine x2 ?_ | refine x8 ?_ | refine Z1 ?_ | refine Z2 ?_ | refine x3 fun _ => ?_ | refine x4 fun _ => ?_ | refine x5 fun _ => ?_ | refine Z3 fun _ => ?_ | refine Z4 fun _ => ?_) | refine ZC ?_)
  refine ct_draw (masks := [0, 0, 2, 6, 14, 0, 62, 126, 255, 511]) (plan := [0, 1, 2, 3, 4, 5, 6, 7, 8, 9]) (E := []) (by kernel_rfl) (by kernel_rfl) (by kernel_rfl) (by kernel_rfl) ?_
  repeat (first | refine Y0 ?_ | (refine YP ?_; first | refine y1 ?_ | refine y2 ?_ | refine Y1 ?_ | refine Y2 ?_))
  refine pl_R rfl rfl rfl rfl rfl rfl (rd_lookup rfl rfl (by exact in_auto) hlk) ?_
  repeat (first | refine Y0 ?_ | (refine YP ?_; first | refine y1 ?_ | refine y2 ?_ | refine Y1 ?_ | refine Y2 ?_))
  refine pl_S rfl rfl rfl rfl rfl rfl (st_buildSlice rfl (zr rfl) rfl rfl rfl rfl rfl rfl fun bs => ⟨by exact rec_auto, ?_⟩)
  repeat (first | refine Y0 ?_ | (refine YP ?_; first | refine y1 ?_ | refine y2 ?_ | refine Y1 ?_ | refine Y2 ?_))
  refine pl_S rfl rfl rfl rfl rfl rfl (st_appP (M := [x]) (c := 1) (pre := [_, _]) oa en37_len en37_one rfl rfl (ap rfl) (arrW_one en37_len hm0) (Nat.le_trans (Nat.mul_le_mul_right _ (show 2 * ((L.take i).length + [x].length) + 192 ≤ 6000 by rw [List.length_take]; simp only [List.length_singleton]; omega)) (by decide)) fun v1 G1 o1 => ⟨by exact rec_auto, ?_⟩)
  repeat (first | refine Y0 ?_ | (refine YP ?_; first | refine y1 ?_ | refine y2 ?_ | refine Y1 ?_ | refine Y2 ?_))
  repeat (first | refine Z0 ?_ | (refine ZR ?_; first | refine x1 ?_ | refine x2 ?_ | refine x8 ?_ | refine Z1 ?_ | refine Z2 ?_ | refine x3 fun _ => ?_ | refine x4 fun _ => ?_ | refine x5 fun _ => ?_ | refine Z3 fun _ => ?_ | refine Z4 fun _ => ?_) | refine ZC ?_)
  exact ⟨(i + 1, v1, G1), ⟨by dsimp only; omega, by dsimp only; rw [htk]; exact o1⟩, by dsimp only; omega, by repeat (first | exact SubL.nil | refine SubL.cons rfl ?_), by exact drop_auto⟩
end
end Go.Proofs.Ytojnbjandkbkmaa.Abs
