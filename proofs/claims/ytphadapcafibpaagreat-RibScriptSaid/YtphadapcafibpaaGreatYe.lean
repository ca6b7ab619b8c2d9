/- The places of a map that satisfy a condition, collected and sorted. -/
import Derived.Test.YtphadapcafibpaaGreatYc
import Derived.Test.YtphadapcafibpaaGreatYd
namespace Go.Proofs.YtphadapcafibpaaGreat.Abs
open Go
set_option linter.unusedVariables false
theorem nd_lenM {α : Type} : ∀ {l m : List α}, l.Nodup → (∀ x ∈ l, x ∈ m) → l.length ≤ m.length
  | [], m, _, _ => Nat.zero_le _
  | a :: l, m, hn, h => by
    obtain ⟨m1, m2, rfl⟩ := List.append_of_mem (h a (List.mem_cons_self ..))
    rw [List.nodup_cons] at hn
    have := nd_lenM (m := m1 ++ m2) hn.2 fun x hx => by
      have h1 := h x (List.mem_cons_of_mem _ hx)
      rcases List.mem_append.1 h1 with h2 | h2
      · exact List.mem_append_left _ h2
      · rcases List.mem_cons.1 h2 with rfl | h2
        · exact absurd hx hn.1
        · exact List.mem_append_right _ h2
    simp only [List.length_append, List.length_cons] at this ⊢
    omega
theorem born_inj {K V : Type} {ms : List (K × V × Nat)} {c : Nat} (h : Born ms c) {p q : K × V × Nat} (hp : p ∈ ms) (hq : q ∈ ms) (e : p.2.2 = q.2.2) : p = q := inj_of_nd (f := fun p : K × V × Nat => p.2.2) h.nd hp hq e
/-- What a round of a range over places leaves. -/
def RndJ (Lp : Nat) (fr : Fr) (ps : List Nat) (A B : Code) (J : Hp) (St : Hp → Prop) (v : Value) (H' : Hp) : Prop :=
  v = .bool true ∧ ∃ R, St R ∧ ((Lp, .loop 0 none fr ps A B) :: (J ++ R)).Sublist H'
theorem pjX {a b l m c : Nat × AObj} {G J X : Hp} : (a :: l :: b :: m :: c :: (G ++ (J ++ X))).Perm (l :: (J ++ (a :: b :: m :: c :: (G ++ X)))) := by
  have h1 : (a :: l :: b :: m :: c :: (G ++ (J ++ X))).Perm (J ++ (a :: l :: b :: m :: c :: (G ++ X))) := by
    have := List.perm_append_comm_assoc (a :: l :: b :: m :: c :: G) J X
    simpa using this
  have h2 : (a :: l :: b :: m :: c :: (G ++ X)).Perm (l :: a :: b :: m :: c :: (G ++ X)) := List.Perm.swap _ _ _
  exact h1.trans ((List.Perm.append_left J h2).trans List.perm_middle)
theorem pjY {a b c d x : Nat × AObj} {J R : Hp} : (a :: b :: (J ++ (c :: d :: x :: R))).Perm (x :: ((a :: b :: (J ++ [c, d])) ++ R)) := by
  have h : (a :: b :: (J ++ (c :: d :: x :: R))).Perm (x :: (a :: b :: (J ++ (c :: d :: R)))) := by
    have := List.perm_middle (l₁ := a :: b :: (J ++ [c, d])) (a := x) (l₂ := R)
    simpa using this
  simpa using h
theorem pjZ {a b c d x : Nat × AObj} {J R : Hp} : (x :: ((a :: b :: (J ++ [c, d])) ++ R)).Perm (a :: b :: (J ++ (c :: d :: x :: R))) := pjY.symm
theorem pjA {l m c : Nat × AObj} {G J X : Hp} : (l :: m :: c :: (G ++ (J ++ X))).Perm (l :: (J ++ (m :: c :: (G ++ X)))) := by
  have := List.perm_append_comm_assoc (m :: c :: G) J X
  refine List.Perm.cons _ ?_
  simpa using this
section
variable {B0 : Nat} {old : Nat → Option (List Value)} {n : Nat} {H Hs : Hp} {Q : Value → Hp → Prop} {mb c : Nat} {ms : List (Pk × Rw × Nat)}
set_option maxRecDepth 10000
set_option maxHeartbeats 8000000
theorem keys79_ct (hQ : ∀ b2, Q (.func (.func 109) #[] #[.pointer (some ⟨b2, 0, none⟩)]) ((b2, .row [.map (some mb)] 1 false) :: H)) : CallT (cx B0 old) (acall (cx B0 old) ansP (n + 1)) 79 [.map (some mb)] H Q := by
  refine call_in1 4 rfl Tryz.func79 rfl rfl ?_
  repeat (first | refine Z0 ?_ | (refine ZR ?_; first | refine x1 ?_ | refine x2 ?_ | refine x8 ?_ | refine Z1 ?_ | refine Z2 ?_ | refine x3 fun _ => ?_ | refine x4 fun _ => ?_ | refine x5 fun _ => ?_ | refine Z3 fun _ => ?_ | refine Z4 fun _ => ?_) | refine ZC ?_)
  exact re_1 rfl rfl (by exact drop_auto) (hQ _)
theorem pick78_ct {bm g : Nat} {cap : Array Value} (hQ : ∀ b2 b3, Q (.func (.func 108) #[] #[.pointer (some ⟨b2, 0, none⟩), .pointer (some ⟨b3, 0, none⟩)]) ((b3, .row [.func (.func g) #[] cap] 1 false) :: (b2, .row [.func (.func 109) #[] #[.pointer (some ⟨bm, 0, none⟩)]] 1 false) :: H)) :
    CallT (cx B0 old) (acall (cx B0 old) ansP (n + 1)) 78 [.func (.func 109) #[] #[.pointer (some ⟨bm, 0, none⟩)], .func (.func g) #[] cap] H Q := by
  refine call_in2 6 rfl Tryz.func78 rfl rfl ?_
  repeat (first | refine Z0 ?_ | (refine ZR ?_; first | refine x1 ?_ | refine x2 ?_ | refine x8 ?_ | refine Z1 ?_ | refine Z2 ?_ | refine x3 fun _ => ?_ | refine x4 fun _ => ?_ | refine x5 fun _ => ?_ | refine Z3 fun _ => ?_ | refine Z4 fun _ => ?_) | refine ZC ?_)
  exact re_1 rfl rfl (by exact drop_auto) (hQ _ _)
theorem it109_ct (b2 Lp nt : Nat) (lf : Sl) (fr : Fr) (ps : List Nat) (A B : Code) (St : List (Pk × Rw × Nat) → Hp → Prop) (R0 : Hp) (hps : ps.length = 1) (hfr : FrHas nt lf fr) (hb : Born ms c)
    (hst : ∀ vs R, St vs R → (b2, AObj.row [.map (some mb)] 1 false) ∈ R ∧ (mb, AObj.map (mkH ekP evW ms) c) ∈ R) (h0 : St [] R0)
    (hround : ∀ vs R q p J, p ∈ ms → (vs ++ [p]).length ≤ ms.length → St vs R → CodeT (cx B0 old) (ahand (cx B0 old) ansP n) true nt A (parL nt ps [ekP p.1] lf) ((Lp, .loop 0 q fr ps A B) :: (J ++ R)) fun e l2 H2 => match e with
      | .normal => ∃ q' H3, H2.Perm ((Lp, .loop 0 q' fr ps A B) :: H3) ∧ CodeT (cx B0 old) (ahand (cx B0 old) ansP n) true nt B l2 ((Lp, .loop 1 q' fr ps A B) :: H3) fun e l3 H4 => rndΦ Lp fr ps A B (RndJ Lp fr ps A B J (St (vs ++ [p]))) e H4
      | _ => False)
    (hQ : ∀ vs R v, St vs R → vs.Perm ms → Q v ((Lp, .loop 0 none fr ps A B) :: R)) :
    CallT (cx B0 old) (acall (cx B0 old) ansP (n + 2)) 109 [.func (.yield Lp) #[] #[], .pointer (some ⟨b2, 0, none⟩)] ((Lp, .loop 0 none fr ps A B) :: R0) Q := by
  refine call_in2 14 rfl Tryz.func109 rfl rfl ?_
  obtain ⟨g1, g2⟩ := hst _ _ h0
  have hL0 : ∀ H', R0.Sublist H' → LdT (cx B0 old) 84 H' b2 0 (.map (some mb)) := fun H' hs => ld1 (.own _ _ (hs.subset g1)) rfl (sz rfl) rfl
  repeat (first | refine Z0 ?_ | (refine ZR ?_; first | refine x1 ?_ | refine x2 ?_ | refine x8 ?_ | refine Z1 ?_ | refine Z2 ?_ | refine x3 fun _ => ?_ | refine x4 fun _ => ?_ | refine x5 fun _ => ?_ | refine Z3 fun _ => ?_ | refine Z4 fun _ => ?_) | refine ZC ?_)
  refine rt_step rfl rfl rfl (st_range rfl (List.Mem.tail _ g2) rfl fun it => ?_)
  repeat (first | refine Z0 ?_ | (refine ZR ?_; first | refine x1 ?_ | refine x2 ?_ | refine x8 ?_ | refine Z1 ?_ | refine Z2 ?_ | refine x3 fun _ => ?_ | refine x4 fun _ => ?_ | refine x5 fun _ => ?_ | refine Z3 fun _ => ?_ | refine Z4 fun _ => ?_) | refine ZC ?_)
  refine CodeT.perm ?_ (List.Perm.swap _ _ _)
  refine loop_ind (ι := List (Pk × Rw × Nat) × Hp) ([], R0) (fun i => ms.length - i.1.length) (fun i => i.1.Nodup ∧ (∀ p ∈ i.1, p ∈ ms) ∧ St i.1 i.2)
    (fun i => [(5, .pointer (some ⟨it, 0, none⟩)), (0, .func (.yield Lp) #[] #[])])
    (fun i => (Lp, .loop 0 none fr ps A B) :: (it, .iter (some mb) c (i.1.map (·.2.2)) c) :: i.2) ⟨List.nodup_nil, fun p h => (by cases h), h0⟩ (by repeat (first | exact SubL.nil | refine SubL.cons rfl ?_)) (List.Sublist.refl _) ?_
  rintro ⟨vs, R⟩ ⟨hnd, hsub, hs⟩
  dsimp only at hnd hsub hs ⊢
  obtain ⟨g1, g2⟩ := hst _ _ hs
  have hmsd : ms.Nodup := (List.pairwise_map.1 hb.nd).imp fun h e => h (by rw [e])
  refine CodeT.perm ?_ (List.Perm.swap _ _ _)
  repeat (first | refine Z0 ?_ | (refine ZR ?_; first | refine x1 ?_ | refine x2 ?_ | refine x8 ?_ | refine Z1 ?_ | refine Z2 ?_ | refine x3 fun _ => ?_ | refine x4 fun _ => ?_ | refine x5 fun _ => ?_ | refine Z3 fun _ => ?_ | refine Z4 fun _ => ?_) | refine ZC ?_)
  refine rt_step rfl rfl rfl (st_nextH rfl (List.Mem.tail _ g2) hb (fun hall => ?_) (fun p hp hnp => ?_))
  · repeat (first | refine Z0 ?_ | (refine ZR ?_; first | refine x1 ?_ | refine x2 ?_ | refine x8 ?_ | refine Z1 ?_ | refine Z2 ?_ | refine x3 fun _ => ?_ | refine x4 fun _ => ?_ | refine x5 fun _ => ?_ | refine Z3 fun _ => ?_ | refine Z4 fun _ => ?_) | refine ZC ?_)
    have hperm : vs.Perm ms := by
      rw [List.perm_ext_iff_of_nodup hnd hmsd]
      refine fun p => ⟨hsub p, fun hp => ?_⟩
      obtain ⟨q, hq, e⟩ := List.mem_map.1 (hall p hp)
      have e2 : q = p := by
        have h1 := hsub q hq
        exact born_inj hb h1 hp e
      exact e2 ▸ hq
    exact re_0 rfl (List.sublist_cons_self _ _) (fun v => hQ vs R v hs hperm)
  unfold ekP evW
  repeat (first | refine Z0 ?_ | (refine ZR ?_; first | refine x1 ?_ | refine x2 ?_ | refine x8 ?_ | refine Z1 ?_ | refine Z2 ?_ | refine x3 fun _ => ?_ | refine x4 fun _ => ?_ | refine x5 fun _ => ?_ | refine Z3 fun _ => ?_ | refine Z4 fun _ => ?_) | refine ZC ?_)
  refine rt_r rfl rfl rfl (rd_entryH (ek := ekP) (ev := evW) rfl (List.Mem.head _) (List.Mem.tail _ (List.Mem.tail _ g2)) hb hp) ?_
  have hnd' : (vs ++ [p]).Nodup := List.nodup_append.2 ⟨hnd, by simp, fun a ha b hb e => by
    rw [List.mem_singleton.1 hb] at e
    exact hnp (by rw [← e]; exact List.mem_map_of_mem ha)⟩
  have hsub2 : ∀ q ∈ vs ++ [p], q ∈ ms := fun q hq => by
    rcases List.mem_append.1 hq with h | h
    · exact hsub q h
    · rw [List.mem_singleton.1 h]; exact hp
  have hlen : (vs ++ [p]).length ≤ ms.length := nd_lenM hnd' hsub2
  unfold ekP evW enP enW enR
  repeat (first | refine Z0 ?_ | (refine ZR ?_; first | refine x1 ?_ | refine x2 ?_ | refine x8 ?_ | refine Z1 ?_ | refine Z2 ?_ | refine x3 fun _ => ?_ | refine x4 fun _ => ?_ | refine x5 fun _ => ?_ | refine Z3 fun _ => ?_ | refine Z4 fun _ => ?_) | refine ZC ?_)
  rename_i b3
  refine rt_step rfl rfl rfl (st_yield (q := none) rfl rfl rfl (by rw [hps]; rfl) (H1 := (b3, _) :: (it, _) :: R) (((List.Perm.swap _ _ _).cons _).trans (List.Perm.swap _ _ _)) hfr (((hround vs R none p [(it, .iter (some mb) c (vs.map (·.2.2) ++ [p.2.2]) c)] hp hlen hs).mono ?_).weak (fun t v h => h) (List.Sublist.cons_cons _ (List.sublist_cons_self _ _))))
  intro e l2 H2 h
  cases e with
  | exit j => exact h
  | ret => exact h
  | normal =>
    obtain ⟨q', H3, hp', h⟩ := h
    refine ⟨q', H3, hp', h.mono fun e l3 H4 h => ?_⟩
    obtain ⟨st, q2, H5, hp2, h⟩ := h
    refine ⟨st, q2, H5, hp2, ?_⟩
    have key : ∀ {v : Value} {H' : Hp}, RndJ Lp fr ps A B [(it, .iter (some mb) c (vs.map (·.2.2) ++ [p.2.2]) c)] (St (vs ++ [p])) v H' → v = .bool true ∧ ∃ R', St (vs ++ [p]) R' ∧ ((Lp, AObj.loop 0 none fr ps A B) :: (it, AObj.iter (some mb) c (vs.map (·.2.2) ++ [p.2.2]) c) :: R').Sublist H' := fun h => h
    cases e with
    | normal =>
      obtain ⟨_, R', hs', hsub'⟩ := key h
      repeat (first | refine Z0 ?_ | (refine ZR ?_; first | refine x1 ?_ | refine x2 ?_ | refine x8 ?_ | refine Z1 ?_ | refine Z2 ?_ | refine x3 fun _ => ?_ | refine x4 fun _ => ?_ | refine x5 fun _ => ?_ | refine Z3 fun _ => ?_ | refine Z4 fun _ => ?_) | refine ZC ?_)
      have hlen := hlen
      refine ⟨(vs ++ [p], R'), ⟨hnd', hsub2, hs'⟩, ?_, by repeat (first | exact SubL.nil | refine SubL.cons rfl ?_), ?_⟩
      · dsimp only
        rw [List.length_append, List.length_singleton] at hlen ⊢
        omega
      · dsimp only
        rw [List.map_append]
        exact hsub'
    | exit j =>
      obtain ⟨hf, _⟩ := key h
      cases hf
    | ret =>
      obtain ⟨hf, _⟩ := key h
      cases hf
/-- The places that a condition wants. -/
theorem pick108_ct {g : Nat} {cap : List Value} {d : Pk → Bool} {Base : Hp} (b1 b2 b3 Lp nt : Nat) (lf : Sl) (fr : Fr) (ps : List Nat) (A B : Code) (St : List (Pk × Rw × Nat) → Hp → Prop) (R0 : Hp) (hps : ps.length = 1) (hfr : FrHas nt lf fr) (hb : Born ms c) (hg : callable (cx B0 old) g = true)
    (hf : ∀ (k : Pk) (H1 : Hp) (Θ : Value → Hp → Prop), Base.Sublist H1 → Θ (.bool (d k)) H1 → CallT (cx B0 old) (acall (cx B0 old) ansP (n + 1)) g ([] ++ ([.agg ⟨enP k⟩] ++ cap)) H1 Θ)
    (hst : ∀ vs R, St vs R → (b1, AObj.row [.map (some mb)] 1 false) ∈ R ∧ (mb, AObj.map (mkH ekP evW ms) c) ∈ R ∧ (b2, AObj.row [.func (.func 109) #[] #[.pointer (some ⟨b1, 0, none⟩)]] 1 false) ∈ R ∧ (b3, AObj.row [.func (.func g) #[] ⟨cap⟩] 1 false) ∈ R ∧ Base.Sublist R) (h0 : St [] R0)
    (hround : ∀ vs R q p J, p ∈ ms → (vs ++ [p]).length ≤ ms.length → St vs R → CodeT (cx B0 old) (ahand (cx B0 old) ansP n) true nt A (parL nt ps [ekP p.1] lf) ((Lp, .loop 0 q fr ps A B) :: (J ++ R)) fun e l2 H2 => match e with
      | .normal => ∃ q' H3, H2.Perm ((Lp, .loop 0 q' fr ps A B) :: H3) ∧ CodeT (cx B0 old) (ahand (cx B0 old) ansP n) true nt B l2 ((Lp, .loop 1 q' fr ps A B) :: H3) fun e l3 H4 => rndΦ Lp fr ps A B (RndJ Lp fr ps A B J (St (vs ++ [p]))) e H4
      | _ => False)
    (hQ : ∀ vs R v, St vs R → vs.Perm (ms.filter fun q => d q.1) → Q v ((Lp, .loop 0 none fr ps A B) :: R)) :
    CallT (cx B0 old) (acall (cx B0 old) ansP (n + 4)) 108 [.func (.yield Lp) #[] #[], .pointer (some ⟨b2, 0, none⟩), .pointer (some ⟨b3, 0, none⟩)] ((Lp, .loop 0 none fr ps A B) :: R0) Q := by
  refine call_inM 16 rfl Tryz.func108 rfl rfl ?_
  obtain ⟨g1, g2, g3, g4, g5⟩ := hst _ _ h0
  have hL0 : ∀ H', R0.Sublist H' → LdT (cx B0 old) 118 H' b2 0 (.func (.func 109) #[] #[.pointer (some ⟨b1, 0, none⟩)]) := fun H' hs => ld1 (.own _ _ (hs.subset g3)) rfl (sz rfl) rfl
  refine cm_seq (cm_code ?_)
  repeat (first | refine Z0 ?_ | (refine ZR ?_; first | refine x1 ?_ | refine x2 ?_ | refine x8 ?_ | refine Z1 ?_ | refine Z2 ?_ | refine x3 fun _ => ?_ | refine x4 fun _ => ?_ | refine x5 fun _ => ?_ | refine Z3 fun _ => ?_ | refine Z4 fun _ => ?_) | refine ZC ?_)
  rename_i b4
  refine cm_seq (cm_code ?_)
  repeat (first | refine Z0 ?_ | (refine ZR ?_; first | refine x1 ?_ | refine x2 ?_ | refine x8 ?_ | refine Z1 ?_ | refine Z2 ?_ | refine x3 fun _ => ?_ | refine x4 fun _ => ?_ | refine x5 fun _ => ?_ | refine Z3 fun _ => ?_ | refine Z4 fun _ => ?_) | refine ZC ?_)
  refine cm_block (cm_range rfl rfl ?_)
  intro m fr2 hfr2
  refine it109_ct (n := n + 1) (ms := ms) (c := c) (mb := mb) b1 (m + 1) 16 _ fr2 _ _ _
    (fun vs R => ∃ R1, St (vs.filter fun q => d q.1) R1 ∧ vs.length ≤ ms.length ∧ R = (m, .dblk) :: (b4, .row [.func (.yield Lp) #[] #[]] 1 false) :: (Lp, .loop 0 none fr ps A B) :: R1) _ rfl hfr2 hb ?_ ?_ ?_ ?_
  · rintro vs R ⟨R1, hS, hvl, rfl⟩
    obtain ⟨g1, g2, _⟩ := hst _ _ hS
    exact ⟨List.Mem.tail _ (List.Mem.tail _ (List.Mem.tail _ g1)), List.Mem.tail _ (List.Mem.tail _ (List.Mem.tail _ g2))⟩
  · exact ⟨R0, h0, Nat.zero_le _, rfl⟩
  · rintro vs R q p J hp hvl2 ⟨R1, hS, hvl, rfl⟩
    obtain ⟨g1, g2, g3, g4, g5⟩ := hst _ _ hS
    have hL0 : ∀ H', R1.Sublist H' → LdT (cx B0 old) 93 H' b3 0 (.func (.func g) #[] ⟨cap⟩) := fun H' hs => ld1 (.own _ _ (hs.subset g4)) rfl (sz rfl) rfl
    have hbs : ∀ {X : Hp}, R1.Sublist X → Base.Sublist X := fun h => g5.trans h
    have hfl : (vs.filter fun q => d q.1).length ≤ vs.length := List.length_filter_le _ _
    have hlen2 : ((vs.filter fun q => d q.1) ++ [p]).length ≤ ms.length := by rw [List.length_append, List.length_singleton] at hvl2 ⊢; omega
    unfold ekP enP
    repeat (first | refine Z0 ?_ | (refine ZR ?_; first | refine x1 ?_ | refine x2 ?_ | refine x8 ?_ | refine Z1 ?_ | refine Z2 ?_ | refine x3 fun _ => ?_ | refine x4 fun _ => ?_ | refine x5 fun _ => ?_ | refine Z3 fun _ => ?_ | refine Z4 fun _ => ?_) | refine ZC ?_)
    rename_i b5
    refine ⟨q, _, List.Perm.swap _ _ _, ?_⟩
    repeat (first | refine Z0 ?_ | (refine ZR ?_; first | refine x1 ?_ | refine x2 ?_ | refine x8 ?_ | refine Z1 ?_ | refine Z2 ?_ | refine x3 fun _ => ?_ | refine x4 fun _ => ?_ | refine x5 fun _ => ?_ | refine Z3 fun _ => ?_ | refine Z4 fun _ => ?_) | refine ZC ?_)
    refine rt_step rfl rfl rfl (st_call (first := #[]) (cap := ⟨cap⟩) rfl rfl hg rfl (hf p.1 _ _ (hbs (by exact drop_auto)) ?_))
    cases hd : d p.1 with
    | false =>
      repeat (first | refine Z0 ?_ | (refine ZR ?_; first | refine x1 ?_ | refine x2 ?_ | refine x8 ?_ | refine Z1 ?_ | refine Z2 ?_ | refine x3 fun _ => ?_ | refine x4 fun _ => ?_ | refine x5 fun _ => ?_ | refine Z3 fun _ => ?_ | refine Z4 fun _ => ?_) | refine ZC ?_)
      unfold rndΦ RndJ
      refine ⟨1, q, _, List.Perm.refl _, rfl, _, ⟨R1, ?_, hvl2, rfl⟩, by exact drop_auto⟩
      rw [List.filter_append, List.filter_cons_of_neg (by simp [hd]), List.filter_nil, List.append_nil]
      exact hS
    | true =>
      repeat (first | refine Z0 ?_ | (refine ZR ?_; first | refine x1 ?_ | refine x2 ?_ | refine x8 ?_ | refine Z1 ?_ | refine Z2 ?_ | refine x3 fun _ => ?_ | refine x4 fun _ => ?_ | refine x5 fun _ => ?_ | refine Z3 fun _ => ?_ | refine Z4 fun _ => ?_) | refine ZC ?_)
      refine rt_step rfl rfl rfl (st_yield (q := none) rfl rfl rfl (by rw [hps]; rfl) (H1 := ((m + 1, _) :: (b5, _) :: (J ++ [_, _])) ++ R1) pjY hfr ((hround (vs.filter fun q => d q.1) R1 none p _ hp hlen2 hS).mono ?_))
      intro e l2 H2 h
      cases e with
      | exit j => exact h
      | ret => exact h
      | normal =>
        obtain ⟨q', H3, hp', h⟩ := h
        refine ⟨q', H3, hp', h.mono fun e l3 H4 h => ?_⟩
        obtain ⟨st, q2, H5, hp2, h⟩ := h
        refine ⟨st, q2, H5, hp2, ?_⟩
        have hfa : (vs ++ [p]).filter (fun q => d q.1) = (vs.filter fun q => d q.1) ++ [p] := by rw [List.filter_append, List.filter_cons_of_pos (by simp [hd]), List.filter_nil]
        cases e with
        | normal =>
          obtain ⟨_, R', hs', hsub'⟩ := h
          refine RunT.weak (RunT.perm ?_ pjZ.symm) hsub'
          repeat (first | refine Z0 ?_ | (refine ZR ?_; first | refine x1 ?_ | refine x2 ?_ | refine x8 ?_ | refine Z1 ?_ | refine Z2 ?_ | refine x3 fun _ => ?_ | refine x4 fun _ => ?_ | refine x5 fun _ => ?_ | refine Z3 fun _ => ?_ | refine Z4 fun _ => ?_) | refine ZC ?_)
          unfold rndΦ RndJ
          exact ⟨1, q, _, List.Perm.refl _, rfl, _, ⟨R', by rw [hfa]; exact hs', hvl2, rfl⟩, by exact drop_auto⟩
        | exit j =>
          obtain ⟨hf, _⟩ := h
          cases hf
        | ret =>
          obtain ⟨hf, _⟩ := h
          cases hf
  · rintro vs R v ⟨R1, hS, hvl, rfl⟩ hperm
    refine ⟨0, none, _, List.Perm.refl _, rfl, ?_⟩
    exact lv_one (List.Perm.refl _) ⟨(Lp, .loop 0 none fr ps A B) :: R1, List.sublist_cons_self _ _, res_nil (hQ _ R1 _ hS (hperm.filter _))⟩
theorem app131_ct {g : Nat} {cap : List Value} {d : Pk → Bool} {Base : Hp} (b1 b2 b3 : Nat) (hb : Born ms c) (hl : ms.length ≤ 20000) (hg : callable (cx B0 old) g = true)
    (hf : ∀ (k : Pk) (H1 : Hp) (Θ : Value → Hp → Prop), Base.Sublist H1 → Θ (.bool (d k)) H1 → CallT (cx B0 old) (acall (cx B0 old) ansP (n + 1)) g ([] ++ ([.agg ⟨enP k⟩] ++ cap)) H1 Θ)
    (g1 : (b1, AObj.row [.map (some mb)] 1 false) ∈ H) (g2 : (mb, AObj.map (mkH ekP evW ms) c) ∈ H) (g3 : (b2, AObj.row [.func (.func 109) #[] #[.pointer (some ⟨b1, 0, none⟩)]] 1 false) ∈ H) (g4 : (b3, AObj.row [.func (.func g) #[] ⟨cap⟩] 1 false) ∈ H) (g5 : Base.Sublist H)
    (hQ : ∀ (vs : List (Pk × Rw × Nat)) v G, vs.Perm (ms.filter fun q => d q.1) → Own enP 22 (vs.map (·.1)) v G → Q v (G ++ H)) :
    CallT (cx B0 old) (acall (cx B0 old) ansP (n + 5)) 131 [.slice none 0 0, .func (.func 108) #[] #[.pointer (some ⟨b2, 0, none⟩), .pointer (some ⟨b3, 0, none⟩)]] H Q := by
  refine call_inM 13 rfl Tryz.func131 rfl rfl ?_
  refine cm_seq (cm_code ?_)
  repeat (first | refine Z0 ?_ | (refine ZR ?_; first | refine x1 ?_ | refine x2 ?_ | refine x8 ?_ | refine Z1 ?_ | refine Z2 ?_ | refine x3 fun _ => ?_ | refine x4 fun _ => ?_ | refine x5 fun _ => ?_ | refine Z3 fun _ => ?_ | refine Z4 fun _ => ?_) | refine ZC ?_)
  rename_i c2
  refine cm_seq (cm_seq (cm_code ?_))
  repeat (first | refine Z0 ?_ | (refine ZR ?_; first | refine x1 ?_ | refine x2 ?_ | refine x8 ?_ | refine Z1 ?_ | refine Z2 ?_ | refine x3 fun _ => ?_ | refine x4 fun _ => ?_ | refine x5 fun _ => ?_ | refine Z3 fun _ => ?_ | refine Z4 fun _ => ?_) | refine ZC ?_)
  refine cm_block (cm_range rfl rfl ?_)
  intro m fr hfr
  refine pick108_ct (n := n) (ms := ms) (c := c) (mb := mb) (Base := Base) b1 b2 b3 (m + 1) 13 _ fr _ _ _
    (fun vs R => ∃ v G, Own enP 22 (vs.map (·.1)) v G ∧ vs.length ≤ ms.length ∧ R = (m, .dblk) :: (c2, .row [v] 1 false) :: (G ++ H)) _ rfl hfr hb hg hf ?_ ?_ ?_ ?_
  · rintro vs R ⟨v, G, ho, hvl, rfl⟩
    have hs : H.Sublist ((m, AObj.dblk) :: (c2, AObj.row [v] 1 false) :: (G ++ H)) := drop_auto
    exact ⟨hs.subset g1, hs.subset g2, hs.subset g3, hs.subset g4, g5.trans hs⟩
  · exact ⟨_, _, Own.nil, Nat.zero_le _, rfl⟩
  · rintro vs R q p J hp hvl2 ⟨v, G, ho, hvl, rfl⟩
    obtain ⟨ad4, c4', e4, _⟩ := ho.arrW (C := cx B0 old) enP_len
    subst e4
    unfold ekP enP
    refine CodeT.perm ?_ (pjA (G := G) (J := J) (X := H))
    repeat (first | refine Z0 ?_ | (refine ZR ?_; first | refine x1 ?_ | refine x2 ?_ | refine x8 ?_ | refine Z1 ?_ | refine Z2 ?_ | refine x3 fun _ => ?_ | refine x4 fun _ => ?_ | refine x5 fun _ => ?_ | refine Z3 fun _ => ?_ | refine Z4 fun _ => ?_) | refine ZC ?_)
    rename_i b5
    refine ⟨q, _, List.Perm.swap _ _ _, ?_⟩
    repeat (first | refine Z0 ?_ | (refine ZR ?_; first | refine x1 ?_ | refine x2 ?_ | refine x8 ?_ | refine Z1 ?_ | refine Z2 ?_ | refine x3 fun _ => ?_ | refine x4 fun _ => ?_ | refine x5 fun _ => ?_ | refine Z3 fun _ => ?_ | refine Z4 fun _ => ?_) | refine ZC ?_)
    rename_i bs
    refine rt_step rfl rfl rfl (st_appP (M := [p.1]) (c := 1) (pre := [_, _, _, _, _]) ho enP_len enP_one rfl rfl (ap rfl) (arrW_one enP_len hm0) (Nat.le_trans (Nat.mul_le_mul_right _ (show 2 * ((vs.map (·.1)).length + [p.1].length) + 192 ≤ 60000 by simp only [List.length_append, List.length_singleton, List.length_map] at hvl2 ⊢; omega)) (by decide)) fun v1 G1 o1 => ?_)
    obtain ⟨ad5, c5', e5, _⟩ := o1.arrW (C := cx B0 old) enP_len
    subst e5
    repeat (first | refine Z0 ?_ | (refine ZR ?_; first | refine x1 ?_ | refine x2 ?_ | refine x8 ?_ | refine Z1 ?_ | refine Z2 ?_ | refine x3 fun _ => ?_ | refine x4 fun _ => ?_ | refine x5 fun _ => ?_ | refine Z3 fun _ => ?_ | refine Z4 fun _ => ?_) | refine ZC ?_)
    unfold rndΦ RndJ
    exact ⟨1, q, _, pjX (G := G1) (J := J) (X := H), rfl, _, ⟨_, _, by rw [List.map_append]; exact o1, hvl2, rfl⟩, by exact drop_auto⟩
  · rintro vs R v ⟨v', G, ho, hvl, rfl⟩ hperm
    refine ⟨0, none, _, List.Perm.refl _, rfl, ?_⟩
    obtain ⟨ad4, c4', e4, _⟩ := ho.arrW (C := cx B0 old) enP_len
    subst e4
    refine cm_code ?_
    repeat (first | refine Z0 ?_ | (refine ZR ?_; first | refine x1 ?_ | refine x2 ?_ | refine x8 ?_ | refine Z1 ?_ | refine Z2 ?_ | refine x3 fun _ => ?_ | refine x4 fun _ => ?_ | refine x5 fun _ => ?_ | refine Z3 fun _ => ?_ | refine Z4 fun _ => ?_) | refine ZC ?_)
    refine lv_one (List.Perm.refl _) ⟨G ++ H, by exact drop_auto, ?_⟩
    exact res_tmp rfl (res_nil (hQ vs _ G hperm ho))
theorem coll106_ct {g : Nat} {cap : List Value} {d : Pk → Bool} {Base : Hp} (b1 b2 b3 : Nat) (hb : Born ms c) (hl : ms.length ≤ 20000) (hg : callable (cx B0 old) g = true)
    (hf : ∀ (k : Pk) (H1 : Hp) (Θ : Value → Hp → Prop), Base.Sublist H1 → Θ (.bool (d k)) H1 → CallT (cx B0 old) (acall (cx B0 old) ansP (n + 1)) g ([] ++ ([.agg ⟨enP k⟩] ++ cap)) H1 Θ)
    (g1 : (b1, AObj.row [.map (some mb)] 1 false) ∈ H) (g2 : (mb, AObj.map (mkH ekP evW ms) c) ∈ H) (g3 : (b2, AObj.row [.func (.func 109) #[] #[.pointer (some ⟨b1, 0, none⟩)]] 1 false) ∈ H) (g4 : (b3, AObj.row [.func (.func g) #[] ⟨cap⟩] 1 false) ∈ H) (g5 : Base.Sublist H)
    (hQ : ∀ (vs : List (Pk × Rw × Nat)) v G, vs.Perm (ms.filter fun q => d q.1) → Own enP 22 (vs.map (·.1)) v G → Q v (G ++ H)) :
    CallT (cx B0 old) (acall (cx B0 old) ansP (n + 6)) 106 [.func (.func 108) #[] #[.pointer (some ⟨b2, 0, none⟩), .pointer (some ⟨b3, 0, none⟩)]] H Q := by
  refine call_in1 5 rfl Tryz.func106 rfl rfl ?_
  repeat (first | refine Z0 ?_ | (refine ZR ?_; first | refine x1 ?_ | refine x2 ?_ | refine x8 ?_ | refine Z1 ?_ | refine Z2 ?_ | refine x3 fun _ => ?_ | refine x4 fun _ => ?_ | refine x5 fun _ => ?_ | refine Z3 fun _ => ?_ | refine Z4 fun _ => ?_) | refine ZC ?_)
  refine rt_step rfl rfl rfl (st_call rfl rfl rfl rfl (app131_ct b1 b2 b3 hb hl hg hf g1 g2 g3 g4 g5 fun vs v G hp ho => ?_))
  repeat (first | refine Z0 ?_ | (refine ZR ?_; first | refine x1 ?_ | refine x2 ?_ | refine x8 ?_ | refine Z1 ?_ | refine Z2 ?_ | refine x3 fun _ => ?_ | refine x4 fun _ => ?_ | refine x5 fun _ => ?_ | refine Z3 fun _ => ?_ | refine Z4 fun _ => ?_) | refine ZC ?_)
  exact re_1 rfl rfl (List.Sublist.refl _) (hQ vs v G hp ho)
theorem sorted77_ct {g : Nat} {cap : List Value} {d : Pk → Bool} {Base : Hp} {M : List Rt} (b1 b2 b3 : Nat) (hI : RibI ms c M) (hl : M.length ≤ 20000) (hg : callable (cx B0 old) g = true)
    (hf : ∀ (n : Nat) (k : Pk) (H1 : Hp) (Θ : Value → Hp → Prop), Base.Sublist H1 → Θ (.bool (d k)) H1 → CallT (cx B0 old) (acall (cx B0 old) ansP (n + 1)) g ([] ++ ([.agg ⟨enP k⟩] ++ cap)) H1 Θ)
    (g1 : (b1, AObj.row [.map (some mb)] 1 false) ∈ H) (g2 : (mb, AObj.map (mkH ekP evW ms) c) ∈ H) (g3 : (b2, AObj.row [.func (.func 109) #[] #[.pointer (some ⟨b1, 0, none⟩)]] 1 false) ∈ H) (g4 : (b3, AObj.row [.func (.func g) #[] ⟨cap⟩] 1 false) ∈ H) (g5 : Base.Sublist H)
    (hQ : ∀ v G, Own enP 22 ((M.filter fun r => d (plc r)).map plc) v G → Q v (G ++ H)) :
    CallT (cx B0 old) (acall (cx B0 old) ansP (n + 20018)) 77 [.func (.func 108) #[] #[.pointer (some ⟨b2, 0, none⟩), .pointer (some ⟨b3, 0, none⟩)], .func (.func 80) #[] #[]] H Q := by
  refine call_in2 12 rfl Tryz.func77 rfl rfl ?_
  have hml : ms.length ≤ 20000 := by rw [hI.len]; exact hl
  repeat (first | refine Z0 ?_ | (refine ZR ?_; first | refine x1 ?_ | refine x2 ?_ | refine x8 ?_ | refine Z1 ?_ | refine Z2 ?_ | refine x3 fun _ => ?_ | refine x4 fun _ => ?_ | refine x5 fun _ => ?_ | refine Z3 fun _ => ?_ | refine Z4 fun _ => ?_) | refine ZC ?_)
  refine rt_step rfl rfl rfl (st_call rfl rfl rfl rfl (CallT.fuel (n := n + 20011 + 6) (coll106_ct b1 b2 b3 hI.born hml hg (hf _) g1 g2 g3 g4 g5 fun vs v G hp ho => ?_) rfl))
  have hlen : (vs.map (·.1)).length ≤ 20000 := by
    rw [List.length_map, hp.length_eq]
    exact Nat.le_trans (List.length_filter_le _ _) hml
  repeat (first | refine Z0 ?_ | (refine ZR ?_; first | refine x1 ?_ | refine x2 ?_ | refine x8 ?_ | refine Z1 ?_ | refine Z2 ?_ | refine x3 fun _ => ?_ | refine x4 fun _ => ?_ | refine x5 fun _ => ?_ | refine Z3 fun _ => ?_ | refine Z4 fun _ => ?_) | refine ZC ?_)
  refine rt_step rfl rfl rfl (st_call rfl rfl rfl rfl (CallT.fuel (n := (n + 20000 - (vs.map (·.1)).length) + (vs.map (·.1)).length + 17) (sortFP_ct placeCmp ho (fun x hx => by
    obtain ⟨q, hq, rfl⟩ := List.mem_map.1 hx
    exact hI.okp (List.mem_filter.1 (hp.mem_iff.1 hq)).1) (by omega) fun w ks G2 o2 p2 s2 => ?_) (by omega)))
  have hks := hI.keys (p2.trans (hp.map _)) s2
  subst hks
  repeat (first | refine Z0 ?_ | (refine ZR ?_; first | refine x1 ?_ | refine x2 ?_ | refine x8 ?_ | refine Z1 ?_ | refine Z2 ?_ | refine x3 fun _ => ?_ | refine x4 fun _ => ?_ | refine x5 fun _ => ?_ | refine Z3 fun _ => ?_ | refine Z4 fun _ => ?_) | refine ZC ?_)
  exact re_1 rfl rfl (List.Sublist.refl _) (hQ v G2 o2)
end
end Go.Proofs.YtphadapcafibpaaGreat.Abs

/- list, All, From, Routes. -/
namespace Go.Proofs.YtphadapcafibpaaGreat.Abs
open Go
set_option linter.unusedVariables false
theorem pk3 {a : Nat × AObj} {G X Y Z : Hp} : (G ++ (a :: (X ++ (Y ++ Z)))).Perm (a :: (X ++ ((G ++ Y) ++ Z))) := by
  have h1 : (G ++ (a :: (X ++ (Y ++ Z)))).Perm ((a :: X) ++ (G ++ (Y ++ Z))) := List.perm_append_comm_assoc G (a :: X) (Y ++ Z)
  simpa using h1
section
variable {B0 : Nat} {old : Nat → Option (List Value)} {n : Nat} {H : Hp} {Q : Value → Hp → Prop} {lim : Int} {M : List Rt} {v : Value} {Hs : Hp}
set_option maxRecDepth 10000
set_option maxHeartbeats 16000000
theorem list49_ct {g : Nat} {cap : List Value} {d : Pk → Bool} {Base : Hp} (hI : Rib (cx B0 old) lim M v Hs) (hl : M.length ≤ 20000) (hg : callable (cx B0 old) g = true)
    (hf : ∀ (n : Nat) (k : Pk) (H1 : Hp) (Θ : Value → Hp → Prop), Base.Sublist H1 → Θ (.bool (d k)) H1 → CallT (cx B0 old) (acall (cx B0 old) ansP (n + 1)) g ([] ++ ([.agg ⟨enP k⟩] ++ cap)) H1 Θ) (hB : Base.Sublist H)
    (hQ : ∀ w G, RsL (cx B0 old) (M.filter fun r => d (plc r)) w G → Q w (G ++ (Hs ++ H))) :
    CallT (cx B0 old) (acall (cx B0 old) ansP (n + 20019)) 49 [v, .func (.func g) #[] ⟨cap⟩] (Hs ++ H) Q := by
  cases hI with
  | mk p mb c ms Gm hI hR h0 h6 hlim =>
  refine call_in2 36 rfl Tryz.func49 rfl rfl ?_
  repeat (first | refine Z0 ?_ | (refine ZR ?_; first | refine x1 ?_ | refine x2 ?_ | refine x8 ?_ | refine Z1 ?_ | refine Z2 ?_ | refine x3 fun _ => ?_ | refine x4 fun _ => ?_ | refine x5 fun _ => ?_ | refine Z3 fun _ => ?_ | refine Z4 fun _ => ?_) | refine ZC ?_)
  refine rt_step rfl rfl rfl (st_call rfl rfl rfl rfl (valid47_ct h0 ?_))
  repeat (first | refine Z0 ?_ | (refine ZR ?_; first | refine x1 ?_ | refine x2 ?_ | refine x8 ?_ | refine Z1 ?_ | refine Z2 ?_ | refine x3 fun _ => ?_ | refine x4 fun _ => ?_ | refine x5 fun _ => ?_ | refine Z3 fun _ => ?_ | refine Z4 fun _ => ?_) | refine ZC ?_)
  refine rt_step rfl rfl rfl (st_call rfl rfl rfl rfl (keys79_ct fun b1 => ?_))
  repeat (first | refine Z0 ?_ | (refine ZR ?_; first | refine x1 ?_ | refine x2 ?_ | refine x8 ?_ | refine Z1 ?_ | refine Z2 ?_ | refine x3 fun _ => ?_ | refine x4 fun _ => ?_ | refine x5 fun _ => ?_ | refine Z3 fun _ => ?_ | refine Z4 fun _ => ?_) | refine ZC ?_)
  refine rt_step rfl rfl rfl (st_call rfl rfl rfl rfl (pick78_ct fun b2 b3 => ?_))
  repeat (first | refine Z0 ?_ | (refine ZR ?_; first | refine x1 ?_ | refine x2 ?_ | refine x8 ?_ | refine Z1 ?_ | refine Z2 ?_ | refine x3 fun _ => ?_ | refine x4 fun _ => ?_ | refine x5 fun _ => ?_ | refine Z3 fun _ => ?_ | refine Z4 fun _ => ?_) | refine ZC ?_)
  refine rt_step rfl rfl rfl (st_call rfl rfl rfl rfl (sorted77_ct (Base := Base) b1 b2 b3 hI hl hg hf (by exact in_auto) (by exact in_auto) (by exact in_auto) (by exact in_auto) (hB.trans (by exact drop_auto)) fun vk Gk hk => ?_))
  generalize hMF : (M.filter fun r => d (plc r)) = MF at *
  have hsub : ∀ r ∈ MF, r ∈ M := fun r hr => by rw [← hMF] at hr; exact (List.mem_filter.1 hr).1
  have hml : MF.length ≤ 20000 := by rw [← hMF]; exact Nat.le_trans (List.length_filter_le _ _) hl
  obtain ⟨ak, ck, ek, hwk⟩ := hk.arrW (C := cx B0 old) enP_len
  subst ek
  have hlm : (MF.map plc).length = MF.length := List.length_map ..
  rw [hlm]
  rw [hlm] at hk
  repeat (first | refine Z0 ?_ | (refine ZR ?_; first | refine x1 ?_ | refine x2 ?_ | refine x8 ?_ | refine Z1 ?_ | refine Z2 ?_ | refine x3 fun _ => ?_ | refine x4 fun _ => ?_ | refine x5 fun _ => ?_ | refine Z3 fun _ => ?_ | refine Z4 fun _ => ?_) | refine ZC ?_)
  refine loop_ind (ι := Nat × List Rw × Value × Hp × Hp) (0, [], .slice none 0 0, [], []) (fun j => MF.length - j.1)
    (fun j => j.1 ≤ MF.length ∧ Own enW 38 j.2.1 j.2.2.1 j.2.2.2.1 ∧ (∀ x ∈ j.2.1, Rd (cx B0 old) j.2.2.2.2 x) ∧ j.2.1.map (·.r) = MF.take j.1)
    (fun j => [(20, .int .i64 (j.1 : Int)), (19, .int .i64 (MF.length : Int)), (18, .slice ak MF.length ck), (5, j.2.2.1), (0, .pointer (some ⟨p, 0, none⟩))])
    (fun j => j.2.2.2.1 ++ (j.2.2.2.2 ++ (Gk ++ ((p, AObj.row [.int .i64 lim, .map (some mb)] 2 false) :: (mb, AObj.map (mkH ekP evW ms) c) :: (Gm ++ H))))) ⟨Nat.zero_le _, .nil, fun x h => (by cases h), rfl⟩ (by repeat (first | exact SubL.nil | refine SubL.cons rfl ?_)) (show (Gk ++ ((p, AObj.row [.int .i64 lim, .map (some mb)] 2 false) :: (mb, AObj.map (mkH ekP evW ms) c) :: (Gm ++ H))).Sublist _ from by exact drop_auto) ?_
  rintro ⟨i, L, vl, Gs, Gr⟩ ⟨hi, ho, hrd, hmp⟩
  dsimp only at hi ho hrd hmp ⊢
  obtain ⟨al, cl, el, _⟩ := ho.arrW (C := cx B0 old) enW_len
  subst el
  have hLl : L.length ≤ MF.length := by have := congrArg List.length hmp; rw [List.length_map, List.length_take] at this; omega
  repeat (first | refine Z0 ?_ | (refine ZR ?_; first | refine x1 ?_ | refine x2 ?_ | refine x8 ?_ | refine Z1 ?_ | refine Z2 ?_ | refine x3 fun _ => ?_ | refine x4 fun _ => ?_ | refine x5 fun _ => ?_ | refine Z3 fun _ => ?_ | refine Z4 fun _ => ?_) | refine ZC ?_)
  refine ct_condT te_d rfl (fun hlt => ?_) (fun hlt => ?_)
  rotate_left
  · obtain rfl : i = MF.length := by omega
    rw [List.take_length] at hmp
    have hQ := hQ _ (Gs ++ Gr) ⟨L, Gs, Gr, ho, hrd, hmp, rfl⟩
    rw [List.append_assoc] at hQ
    repeat (first | refine Z0 ?_ | (refine ZR ?_; first | refine x1 ?_ | refine x2 ?_ | refine x8 ?_ | refine Z1 ?_ | refine Z2 ?_ | refine x3 fun _ => ?_ | refine x4 fun _ => ?_ | refine x5 fun _ => ?_ | refine Z3 fun _ => ?_ | refine Z4 fun _ => ?_) | refine ZC ?_)
    exact re_1 rfl rfl (by exact drop_auto) hQ
  obtain ⟨r, hr⟩ : ∃ r, MF[i]? = some r := ⟨_, List.getElem?_eq_getElem (by omega)⟩
  have hkr : (MF.map plc)[i]? = some (plc r) := by rw [List.getElem?_map, hr]; rfl
  have hrM := hsub r (List.mem_of_getElem? hr)
  obtain ⟨x, hx, hxr⟩ := (hI.fnd (plc r) r).2 ⟨hrM, rfl⟩
  obtain ⟨nx, hmx⟩ := lkH_mem hx
  have hRx := hR _ hmx
  dsimp only at hRx
  have hlk := lookE_K (C := cx B0 old) (ev := evW) keyMapP ms (plc r) false
  rw [hx] at hlk
  simp only [Bool.false_eq_true, if_false] at hlk
  obtain ⟨b1', o1', e1', hL0⟩ := ((hwk [] []).arr enP_len).ldW 91 hkr rfl (sz rfl)
  subst e1'
  simp only [List.nil_append, List.append_nil] at hL0
  generalize hpr : plc r = pr at *
  unfold ekP evW at hlk
  unfold enP enW enR at hlk
  unfold enP at hL0
  repeat (first | refine Z0 ?_ | (refine ZR ?_; first | refine x1 ?_ | refine x2 ?_ | refine x8 ?_ | refine Z1 ?_ | refine Z2 ?_ | refine x3 fun _ => ?_ | refine x4 fun _ => ?_ | refine x5 fun _ => ?_ | refine Z3 fun _ => ?_ | refine Z4 fun _ => ?_) | refine ZC ?_)
  rename_i b7
  refine ct_draw (masks := [0, 0, 2, 6, 14, 0, 62, 126, 254, 511, 1023]) (plan := [0, 1, 2, 3, 4, 5, 6, 7, 8, 9, 10]) (E := []) (by kernel_rfl) (by kernel_rfl) (by kernel_rfl) (by kernel_rfl) ?_
  repeat (first | refine Y0 ?_ | (refine YP ?_; first | refine y1 ?_ | refine y2 ?_ | refine Y1 ?_ | refine Y2 ?_))
  refine pl_R rfl rfl rfl rfl rfl rfl (rd_lookup rfl rfl (by exact in_auto) hlk) ?_
  repeat (first | refine Y0 ?_ | (refine YP ?_; first | refine y1 ?_ | refine y2 ?_ | refine Y1 ?_ | refine Y2 ?_))
  refine pl_S rfl rfl rfl rfl rfl rfl (st_call rfl rfl rfl rfl (clone48W x (by rw [hxr]; exact (hI.val r hrM).light) (hRx.weak (by exact drop_auto)) fun y G hy hyR => ⟨?_, ?_⟩))
  · exact rec_auto
  refine PlanT.perm ?_ (pk3 (G := G) (X := Gs) (Y := Gr)).symm
  refine pl_S rfl rfl rfl rfl rfl rfl (st_buildSlice rfl (zr rfl) rfl rfl rfl rfl rfl rfl fun bs => ⟨by exact rec_auto, ?_⟩)
  refine pl_S rfl rfl rfl rfl rfl rfl (st_appP (M := [y]) (c := 1) (pre := [_, _]) ho enW_len enW_one rfl rfl (ap rfl) (arrW_one enW_len hm0) (Nat.le_trans (Nat.mul_le_mul_right _ (show 2 * (L.length + [y].length) + 192 ≤ 60000 by simp only [List.length_singleton]; omega)) (by decide)) fun v1 G1 o1 => ⟨by exact rec_auto, ?_⟩)
  repeat (first | refine Y0 ?_ | (refine YP ?_; first | refine y1 ?_ | refine y2 ?_ | refine Y1 ?_ | refine Y2 ?_))
  repeat (first | refine Z0 ?_ | (refine ZR ?_; first | refine x1 ?_ | refine x2 ?_ | refine x8 ?_ | refine Z1 ?_ | refine Z2 ?_ | refine x3 fun _ => ?_ | refine x4 fun _ => ?_ | refine x5 fun _ => ?_ | refine Z3 fun _ => ?_ | refine Z4 fun _ => ?_) | refine ZC ?_)
  refine ⟨(i + 1, L ++ [y], v1, G1, G ++ Gr), ⟨by dsimp only; omega, o1, fun z hz => ?_, ?_⟩, by dsimp only; omega, by repeat (first | exact SubL.nil | refine SubL.cons rfl ?_), by exact drop_auto⟩
  · rcases List.mem_append.1 hz with h | h
    · exact (hrd z h).weak (List.sublist_append_right _ _)
    · rw [List.mem_singleton.1 h]; exact hyR.weak (List.sublist_append_left _ _)
  · dsimp only
    rw [List.map_append, hmp, List.take_add_one, hr, List.map_singleton, hy, hxr]
    rfl
theorem all50_ct (k : Pk) (hQ : Q (.bool true) H) : CallT (cx B0 old) (acall (cx B0 old) ansP (n + 1)) 50 [.agg ⟨enP k⟩] H Q := by
  refine call_in1 3 rfl Tryz.func50 rfl rfl ?_
  unfold enP
  repeat (first | refine Z0 ?_ | (refine ZR ?_; first | refine x1 ?_ | refine x2 ?_ | refine x8 ?_ | refine Z1 ?_ | refine Z2 ?_ | refine x3 fun _ => ?_ | refine x4 fun _ => ?_ | refine x5 fun _ => ?_ | refine Z3 fun _ => ?_ | refine Z4 fun _ => ?_) | refine ZC ?_)
  exact re_1 (H' := H) rfl rfl (by exact drop_auto) hQ
theorem all16_ct (hI : Rib (cx B0 old) lim M v Hs) (hl : M.length ≤ 20000) (hQ : ∀ w G, RsL (cx B0 old) M w G → Q w (G ++ (Hs ++ H))) :
    CallT (cx B0 old) (acall (cx B0 old) ansP (n + 20020)) 16 [v] (Hs ++ H) Q := by
  refine call_in1 5 rfl Tryz.func16 rfl rfl ?_
  repeat (first | refine Z0 ?_ | (refine ZR ?_; first | refine x1 ?_ | refine x2 ?_ | refine x8 ?_ | refine Z1 ?_ | refine Z2 ?_ | refine x3 fun _ => ?_ | refine x4 fun _ => ?_ | refine x5 fun _ => ?_ | refine Z3 fun _ => ?_ | refine Z4 fun _ => ?_) | refine ZC ?_)
  refine rt_step rfl rfl rfl (st_call rfl rfl rfl rfl (list49_ct (g := 50) (cap := []) (d := fun _ => true) (Base := []) hI hl rfl (fun n k H1 Θ _ hΘ => all50_ct k hΘ) (List.nil_sublist _) fun w G hG => ?_))
  rw [List.filter_eq_self.2 (fun _ _ => rfl)] at hG
  repeat (first | refine Z0 ?_ | (refine ZR ?_; first | refine x1 ?_ | refine x2 ?_ | refine x8 ?_ | refine Z1 ?_ | refine Z2 ?_ | refine x3 fun _ => ?_ | refine x4 fun _ => ?_ | refine x5 fun _ => ?_ | refine Z3 fun _ => ?_ | refine Z4 fun _ => ?_) | refine ZC ?_)
  exact re_1 rfl rfl (by exact drop_auto) (hQ w G hG)
theorem from52_ct {pb : Nat} (peer : Int) (k : Pk) (hpb : [(pb, AObj.row [.int .u32 peer] 1 false)].Sublist H) (hQ : Q (.bool (decide (k.peer = peer))) H) :
    CallT (cx B0 old) (acall (cx B0 old) ansP (n + 1)) 52 [.agg ⟨enP k⟩, .pointer (some ⟨pb, 0, none⟩)] H Q := by
  refine call_in2 8 rfl Tryz.func52 rfl rfl ?_
  have hL0 : ∀ H', H.Sublist H' → LdT (cx B0 old) 39 H' pb 0 (.int .u32 peer) := fun H' hs => ld1 (.own _ _ (hs.subset (hpb.subset (List.Mem.head _)))) rfl (sz rfl) rfl
  unfold enP
  repeat (first | refine Z0 ?_ | (refine ZR ?_; first | refine x1 ?_ | refine x2 ?_ | refine x8 ?_ | refine Z1 ?_ | refine Z2 ?_ | refine x3 fun _ => ?_ | refine x4 fun _ => ?_ | refine x5 fun _ => ?_ | refine Z3 fun _ => ?_ | refine Z4 fun _ => ?_) | refine ZC ?_)
  refine re_1 (H' := H) rfl rfl (by exact drop_auto) ?_
  rw [show (k.peer == peer) = decide (k.peer = peer) by rw [Bool.eq_iff_iff]; simp]
  exact hQ
theorem from20_ct (peer : Int) (hI : Rib (cx B0 old) lim M v Hs) (hl : M.length ≤ 20000) (hQ : ∀ w G, RsL (cx B0 old) (M.filter fun r => decide (r.peer = peer)) w G → Q w (G ++ (Hs ++ H))) :
    CallT (cx B0 old) (acall (cx B0 old) ansP (n + 20020)) 20 [v, .int .u32 peer] (Hs ++ H) Q := by
  refine call_in2 8 rfl Tryz.func20 rfl rfl ?_
  repeat (first | refine Z0 ?_ | (refine ZR ?_; first | refine x1 ?_ | refine x2 ?_ | refine x8 ?_ | refine Z1 ?_ | refine Z2 ?_ | refine x3 fun _ => ?_ | refine x4 fun _ => ?_ | refine x5 fun _ => ?_ | refine Z3 fun _ => ?_ | refine Z4 fun _ => ?_) | refine ZC ?_)
  rename_i pb
  refine rt_step rfl rfl rfl (st_call rfl rfl rfl rfl (CallT.perm (list49_ct (g := 52) (cap := [.pointer (some ⟨pb, 0, none⟩)]) (d := fun k => decide (k.peer = peer)) (Base := [(pb, .row [.int .u32 peer] 1 false)]) (H := (pb, .row [.int .u32 peer] 1 false) :: H) hI hl rfl (fun n k H1 Θ hs hΘ => from52_ct peer k hs hΘ) (by exact drop_auto) fun w G hG => ?_) List.perm_middle))
  repeat (first | refine Z0 ?_ | (refine ZR ?_; first | refine x1 ?_ | refine x2 ?_ | refine x8 ?_ | refine Z1 ?_ | refine Z2 ?_ | refine x3 fun _ => ?_ | refine x4 fun _ => ?_ | refine x5 fun _ => ?_ | refine Z3 fun _ => ?_ | refine Z4 fun _ => ?_) | refine ZC ?_)
  exact re_1 (H' := G ++ (Hs ++ H)) rfl rfl (by exact drop_auto) (hQ w G hG)
theorem routes68_ct {kb : Nat} (key : S60) (k : Pk) (hpb : [(kb, AObj.row (en60 key) 21 false)].Sublist H) (hQ : Q (.bool (decide (k.k = key))) H) :
    CallT (cx B0 old) (acall (cx B0 old) ansP (n + 1)) 68 [.agg ⟨enP k⟩, .pointer (some ⟨kb, 0, none⟩)] H Q := by
  refine call_in2 8 rfl Tryz.func68 rfl rfl ?_
  have hL0 : ∀ H', H.Sublist H' → LdT (cx B0 old) 43 H' kb 0 (.agg ⟨en60 key⟩) := fun H' hs => ldW (.own _ _ (hs.subset (hpb.subset (List.Mem.head _)))) rfl (sz rfl) rfl
  unfold enP
  repeat (first | refine Z0 ?_ | (refine ZR ?_; first | refine x1 ?_ | refine x2 ?_ | refine x8 ?_ | refine Z1 ?_ | refine Z2 ?_ | refine x3 fun _ => ?_ | refine x4 fun _ => ?_ | refine x5 fun _ => ?_ | refine Z3 fun _ => ?_ | refine Z4 fun _ => ?_) | refine ZC ?_)
  refine re_1 (H' := H) rfl rfl (by exact drop_auto) ?_
  have e : leafsEq (en60 k.k) (en60 key) = decide (k.k = key) := by
    by_cases h : k.k = key
    · rw [h, leaf60]; simp
    · rw [leaf60_ne h, decide_eq_false h]
  rw [← e] at hQ
  exact hQ
theorem routes33_ct (k : S60) (hI : Rib (cx B0 old) lim M v Hs) (hl : M.length ≤ 20000) (hQ : ∀ w G, RsL (cx B0 old) (M.filter fun r => decide (keyS r.n = keyS k)) w G → Q w (G ++ (Hs ++ H))) :
    CallT (cx B0 old) (acall (cx B0 old) ansP (n + 20020)) 33 [v, .agg ⟨en60 k⟩] (Hs ++ H) Q := by
  have hky : ∀ {H1 : Hp} {Θ : Value → Hp → Prop}, Θ (.agg ⟨en60 (keyS k)⟩) H1 → CallT (cx B0 old) (acall (cx B0 old) ansP (n + 20019)) 56 [.agg ⟨en60 k⟩] H1 Θ := fun h => key56_ct k h
  refine call_in2 11 rfl Tryz.func33 rfl rfl ?_
  unfold en60
  repeat (first | refine Z0 ?_ | (refine ZR ?_; first | refine x1 ?_ | refine x2 ?_ | refine x8 ?_ | refine Z1 ?_ | refine Z2 ?_ | refine x3 fun _ => ?_ | refine x4 fun _ => ?_ | refine x5 fun _ => ?_ | refine Z3 fun _ => ?_ | refine Z4 fun _ => ?_) | refine ZC ?_)
  rename_i b3
  refine rt_step rfl rfl rfl (st_call rfl rfl rfl rfl (hky ?_))
  repeat (first | refine Z0 ?_ | (refine ZR ?_; first | refine x1 ?_ | refine x2 ?_ | refine x8 ?_ | refine Z1 ?_ | refine Z2 ?_ | refine x3 fun _ => ?_ | refine x4 fun _ => ?_ | refine x5 fun _ => ?_ | refine Z3 fun _ => ?_ | refine Z4 fun _ => ?_) | refine ZC ?_)
  rename_i kb
  refine rt_step rfl rfl rfl (st_call rfl rfl rfl rfl (CallT.perm (list49_ct (g := 68) (cap := [.pointer (some ⟨kb, 0, none⟩)]) (d := fun p => decide (p.k = keyS k)) (Base := [(kb, .row (en60 (keyS k)) 21 false)]) (H := (kb, .row (en60 (keyS k)) 21 false) :: (b3, _) :: H) hI hl rfl (fun n p H1 Θ hs hΘ => routes68_ct (keyS k) p hs hΘ) (by exact drop_auto) fun w G hG => ?_) (List.perm_append_comm_assoc Hs [_, _] H)))
  repeat (first | refine Z0 ?_ | (refine ZR ?_; first | refine x1 ?_ | refine x2 ?_ | refine x8 ?_ | refine Z1 ?_ | refine Z2 ?_ | refine x3 fun _ => ?_ | refine x4 fun _ => ?_ | refine x5 fun _ => ?_ | refine Z3 fun _ => ?_ | refine Z4 fun _ => ?_) | refine ZC ?_)
  exact re_1 (H' := G ++ (Hs ++ H)) rfl rfl (by exact drop_auto) (hQ w G hG)
end
end Go.Proofs.YtphadapcafibpaaGreat.Abs

/- Acts: light, do. -/
namespace Go.Proofs.YtphadapcafibpaaGreat.Abs
open Go
set_option linter.unusedVariables false
/-- A call. -/
structure Ac where
  k : Int
  w : Rw
def enAc (x : Ac) : List Value := .int .i64 x.k :: enW x.w
theorem enAc_len (x : Ac) : (enAc x).length = 39 := rfl
structure okAc (C : Ctx) (H : Hp) (x : Ac) : Prop where
  wf : x.w.r.n.wf
  peer : 0 ≤ x.w.r.peer ∧ x.w.r.peer ≤ 4294967295
  rd : Rd C H x.w
theorem okAc.weak {C : Ctx} {H H' : Hp} {x : Ac} (h : okAc C H x) (hs : H.Sublist H') : okAc C H' x := ⟨h.wf, h.peer, h.rd.weak hs⟩
open Classical in
/-- What an act does. -/
noncomputable def doM (lim : Int) (k : Int) (r : Rt) (M : List Rt) : List Rt × Int × Int :=
  if k < 4 then ((putM lim r M).1, (if (putM lim r M).2.1 then 1 else 0), (putM lim r M).2.2)
  else if k = 4 then (if getR M (plc r) = none then (M, 0, 8) else (dropR M (plc r), 0, 0))
  else if k = 5 then (M.filter (keepD r.peer), (M.length : Int) - ((M.filter (keepD r.peer)).length : Int), 0)
  else if k = 6 then (M.map (stlR r.peer), (stlN r.peer M : Int), 0)
  else (M.filter (keepS r.peer), (M.length : Int) - ((M.filter (keepS r.peer)).length : Int), 0)
theorem putM_len (lim : Int) (r : Rt) (M : List Rt) : (putM lim r M).1.length ≤ M.length + 1 := by
  have h := putR_len (e := r) (M := M)
  unfold putM
  split
  · exact Nat.le_succ _
  · split
    · split
      · exact Nat.le_succ _
      · exact h
    · split
      · exact Nat.le_succ _
      · exact h
theorem doM_len (lim k : Int) (r : Rt) (M : List Rt) : (doM lim k r M).1.length ≤ M.length + 1 := by
  have h := putM_len lim r M
  unfold doM
  split
  · exact h
  · split
    · split
      · exact Nat.le_succ _
      · exact Nat.le_trans (List.length_filter_le _ _) (Nat.le_succ _)
    · split
      · exact Nat.le_trans (List.length_filter_le _ _) (Nat.le_succ _)
      · split
        · rw [List.length_map]; exact Nat.le_succ _
        · exact Nat.le_trans (List.length_filter_le _ _) (Nat.le_succ _)
theorem cut_part {cs r q : List Value} {o n f m : Nat} (h : cut cs o n = some r) (h2 : cut r f m = some q) (hm : 0 < m) : cut cs (o + f) m = some q :=
  cut_of (cut_size h2) fun j hj => by
    haveI : Tok := ⟨fun _ => none⟩
    have h3 := cut_len h2 hm
    have h4 := cut_size h
    rw [cut_get h2 hj, cut_get h (j := f + j) (by omega), Nat.add_assoc]
theorem pmP {b : Nat × AObj} {G Hs H : Hp} : (Hs ++ (G ++ (b :: H))).Perm (G ++ (b :: (Hs ++ H))) := (List.perm_append_comm_assoc Hs G (b :: H)).trans (List.Perm.append_left G List.perm_middle)
section
variable {B0 : Nat} {old : Nat → Option (List Value)} {n : Nat} {H : Hp} {Q : Value → Hp → Prop} {lim : Int} {M : List Rt} {v : Value} {Hs : Hp}
set_option maxRecDepth 10000
set_option maxHeartbeats 16000000
theorem light8_ct {L : List Ac} {ad : Option Addr} {c : Nat} (hw : Arr (cx B0 old) H ad 39 enAc L) (hl : L.length ≤ 9223372036854775807) (hQ : ∀ t : Bool, (t = true ↔ (∀ x ∈ L, ltR x.w.r) ∧ L.length ≤ 60) → Q (.bool t) H) :
    CallT (cx B0 old) (acall (cx B0 old) ansP (n + 2)) 8 [.slice ad L.length c] H Q := by
  refine call_in1 20 rfl Tryz.func8 rfl rfl ?_
  repeat (first | refine Z0 ?_ | (refine ZR ?_; first | refine x1 ?_ | refine x2 ?_ | refine x8 ?_ | refine Z1 ?_ | refine Z2 ?_ | refine x3 fun _ => ?_ | refine x4 fun _ => ?_ | refine x5 fun _ => ?_ | refine Z3 fun _ => ?_ | refine Z4 fun _ => ?_) | refine ZC ?_)
  refine loop_ind (ι := Nat) 0 (fun i => L.length - i) (fun i => i ≤ L.length ∧ ∀ x ∈ L.take i, ltR x.w.r) (fun i => [(3, .int .i64 (i : Int)), (0, .slice ad L.length c)]) (fun _ => H) ⟨Nat.zero_le _, fun x h => (by cases h)⟩ (by repeat (first | exact SubL.nil | refine SubL.cons rfl ?_)) (by exact drop_auto) ?_
  rintro i ⟨hi, htk⟩
  repeat (first | refine Z0 ?_ | (refine ZR ?_; first | refine x1 ?_ | refine x2 ?_ | refine x8 ?_ | refine Z1 ?_ | refine Z2 ?_ | refine x3 fun _ => ?_ | refine x4 fun _ => ?_ | refine x5 fun _ => ?_ | refine Z3 fun _ => ?_ | refine Z4 fun _ => ?_) | refine ZC ?_)
  refine ct_condT te_d rfl (fun hlt => ?_) (fun hlt => ?_)
  · obtain ⟨x, hx⟩ : ∃ x, L[i]? = some x := ⟨_, List.getElem?_eq_getElem (by omega)⟩
    obtain ⟨b1, o1, cs, e1, hrow, hcut⟩ := hw.els i x hx
    subst e1
    have hL0 : ∀ H', H.Sublist H' → LdT (cx B0 old) 52 H' b1 (o1 + i * 39 + 1) (.agg ⟨enW x.w⟩) := fun H' hs => ldP (hrow.weak hs) rfl (sz rfl) (cut_part hcut rfl (by decide))
    repeat (first | refine Z0 ?_ | (refine ZR ?_; first | refine x1 ?_ | refine x2 ?_ | refine x8 ?_ | refine Z1 ?_ | refine Z2 ?_ | refine x3 fun _ => ?_ | refine x4 fun _ => ?_ | refine x5 fun _ => ?_ | refine Z3 fun _ => ?_ | refine Z4 fun _ => ?_) | refine ZC ?_)
    refine rt_step rfl rfl rfl (st_call rfl rfl rfl rfl (light27_ct x.w fun t ht => ?_))
    cases t with
    | false =>
      repeat (first | refine Z0 ?_ | (refine ZR ?_; first | refine x1 ?_ | refine x2 ?_ | refine x8 ?_ | refine Z1 ?_ | refine Z2 ?_ | refine x3 fun _ => ?_ | refine x4 fun _ => ?_ | refine x5 fun _ => ?_ | refine Z3 fun _ => ?_ | refine Z4 fun _ => ?_) | refine ZC ?_)
      exact re_1 rfl rfl (by exact drop_auto) (hQ false ⟨fun h => (by cases h), fun h => ht.2 (h.1 x (List.mem_of_getElem? hx))⟩)
    | true =>
      repeat (first | refine Z0 ?_ | (refine ZR ?_; first | refine x1 ?_ | refine x2 ?_ | refine x8 ?_ | refine Z1 ?_ | refine Z2 ?_ | refine x3 fun _ => ?_ | refine x4 fun _ => ?_ | refine x5 fun _ => ?_ | refine Z3 fun _ => ?_ | refine Z4 fun _ => ?_) | refine ZC ?_)
      refine ⟨i + 1, ⟨by omega, fun y hy => ?_⟩, by omega, by repeat (first | exact SubL.nil | refine SubL.cons rfl ?_), by exact drop_auto⟩
      rw [List.take_add_one, hx] at hy
      rcases List.mem_append.1 hy with h | h
      · exact htk y h
      · rw [List.mem_singleton.1 h]; exact ht.1 rfl
  · have hi' : i = L.length := by omega
    subst hi'
    rw [List.take_length] at htk
    repeat (first | refine Z0 ?_ | (refine ZR ?_; first | refine x1 ?_ | refine x2 ?_ | refine x8 ?_ | refine Z1 ?_ | refine Z2 ?_ | refine x3 fun _ => ?_ | refine x4 fun _ => ?_ | refine x5 fun _ => ?_ | refine Z3 fun _ => ?_ | refine Z4 fun _ => ?_) | refine ZC ?_)
    refine re_1 rfl rfl (by exact drop_auto) (hQ _ ?_)
    rw [decide_eq_true_eq]
    exact ⟨fun h => ⟨htk, by omega⟩, fun h => by have := h.2; omega⟩
theorem do11_ct (k : Int) (w : Rw) (ha : okAc (cx B0 old) H ⟨k, w⟩) (hlt : ltR w.r) (hI : Rib (cx B0 old) lim M v Hs)
    (hQ : ∀ Hs', Rib (cx B0 old) lim (doM lim (pkF k 8) w.r M).1 v Hs' → Q (.tuple #[.int .i64 (doM lim (pkF k 8) w.r M).2.1, .int .i64 (doM lim (pkF k 8) w.r M).2.2]) (Hs' ++ H)) :
    CallT (cx B0 old) (acall (cx B0 old) ansP (n + 6)) 11 [v, .agg ⟨.int .i64 k :: enW w⟩] (Hs ++ H) Q := by
  have hr := pkF_range (x := k) (m := 8) (by decide)
  have hpk : ∀ {H1 : Hp} {Θ : Value → Hp → Prop}, Θ (.int .i64 (pkF k 8)) H1 → CallT (cx B0 old) (acall (cx B0 old) ansP (n + 5)) 26 [.int .i64 k, .int .i64 8] H1 Θ := fun h => pick26_ct k 8 (by decide) (by decide) h
  generalize pkF k 8 = q at *
  obtain ⟨p0, hp0⟩ : ∃ a, v = .pointer (some a) := by cases hI; exact ⟨_, rfl⟩
  subst hp0
  obtain ⟨hwf, hpe, hrd⟩ := ha
  dsimp only at hwf hpe hrd
  have hown : ∀ {H1 : Hp} {Θ : Value → Hp → Prop}, H.Sublist H1 → (∀ y G, y.r = w.r → Rd (cx B0 old) G y → Θ (.agg ⟨enW y⟩) (G ++ H1)) → CallT (cx B0 old) (acall (cx B0 old) ansP (n + 5)) 22 [.agg ⟨enW w⟩] H1 Θ := fun hs h => own22W w hlt.light (hrd.weak hs) h
  have hdrop : ∀ {b : Nat × AObj} {Θ : Value → Hp → Prop}, (getR M (plc w.r) = none → Θ (.int .i64 8) (Hs ++ (b :: H))) → (∀ r, getR M (plc w.r) = some r → ∀ Hs', Rib (cx B0 old) lim (dropR M (plc w.r)) (.pointer (some p0)) Hs' → Θ (.int .i64 0) (Hs' ++ (b :: H))) →
      CallT (cx B0 old) (acall (cx B0 old) ansP (n + 5)) 35 [.pointer (some p0), .agg ⟨en60 w.r.n⟩, .int .u32 w.r.peer] (b :: (Hs ++ H)) Θ := fun h1 h2 => CallT.perm (drop35_ct w.r.n w.r.peer hI h1 h2) List.perm_middle
  refine call_in2 56 rfl Tryz.func11 rfl rfl ?_
  have h8 : q = 0 ∨ q = 1 ∨ q = 2 ∨ q = 3 ∨ q = 4 ∨ q = 5 ∨ q = 6 ∨ q = 7 := by omega
  have put : ∀ (y : Rw) (G : Hp) (b : Nat × AObj) (Θ : Value → Hp → Prop), y.r = w.r → Rd (cx B0 old) G y → (∀ Hs', Rib (cx B0 old) lim (putM lim w.r M).1 (.pointer (some p0)) Hs' → Θ (.tuple #[.bool (putM lim w.r M).2.1, .int .i64 (putM lim w.r M).2.2]) (Hs' ++ (G ++ (b :: H)))) →
      CallT (cx B0 old) (acall (cx B0 old) ansP (n + 5)) 23 [.pointer (some p0), .agg ⟨enW y⟩] (G ++ (b :: (Hs ++ H))) Θ := fun y G b Θ hy hyR h => CallT.perm (put23_ct y (by rw [hy]; exact hwf) (by rw [hy]; exact hpe) (hyR.weak (by exact drop_auto)) hI (by rw [hy]; exact h)) pmP
  unfold enW enR
  rcases h8 with rfl | rfl | rfl | rfl | rfl | rfl | rfl | rfl
  iterate 4
    · repeat (first | refine Z0 ?_ | (refine ZR ?_; first | refine x1 ?_ | refine x2 ?_ | refine x8 ?_ | refine Z1 ?_ | refine Z2 ?_ | refine x3 fun _ => ?_ | refine x4 fun _ => ?_ | refine x5 fun _ => ?_ | refine Z3 fun _ => ?_ | refine Z4 fun _ => ?_) | refine ZC ?_)
      rename_i bx
      refine rt_step rfl rfl rfl (st_call rfl rfl rfl rfl (hpk ?_))
      repeat (first | refine Z0 ?_ | (refine ZR ?_; first | refine x1 ?_ | refine x2 ?_ | refine x8 ?_ | refine Z1 ?_ | refine Z2 ?_ | refine x3 fun _ => ?_ | refine x4 fun _ => ?_ | refine x5 fun _ => ?_ | refine Z3 fun _ => ?_ | refine Z4 fun _ => ?_) | refine ZC ?_)
      refine rt_step rfl rfl rfl (st_call rfl rfl rfl rfl (hown (by exact drop_auto) fun y G hy hyR => ?_))
      repeat (first | refine Z0 ?_ | (refine ZR ?_; first | refine x1 ?_ | refine x2 ?_ | refine x8 ?_ | refine Z1 ?_ | refine Z2 ?_ | refine x3 fun _ => ?_ | refine x4 fun _ => ?_ | refine x5 fun _ => ?_ | refine Z3 fun _ => ?_ | refine Z4 fun _ => ?_) | refine ZC ?_)
      refine rt_step rfl rfl rfl (st_call rfl rfl rfl rfl (put y G _ _ hy hyR fun Hs' hI' => ?_))
      have hQ := hQ Hs'
      unfold doM at hQ
      simp only [show (0 : Int) < 4 by decide, show (1 : Int) < 4 by decide, show (2 : Int) < 4 by decide, show (3 : Int) < 4 by decide, if_true] at hQ
      have hQ := hQ hI'
      repeat (first | refine Z0 ?_ | (refine ZR ?_; first | refine x1 ?_ | refine x2 ?_ | refine x8 ?_ | refine Z1 ?_ | refine Z2 ?_ | refine x3 fun _ => ?_ | refine x4 fun _ => ?_ | refine x5 fun _ => ?_ | refine Z3 fun _ => ?_ | refine Z4 fun _ => ?_) | refine ZC ?_)
      first | (refine isRun ?_; refine z1 (fun hc => ?_) (fun hc => ?_)) | refine z2 (fun hc => ?_) (fun hc => ?_) | (refine isPlan ?_; refine z3 (fun hc => ?_) (fun hc => ?_))
      · rw [hc, if_pos rfl] at hQ
        repeat (first | refine Z0 ?_ | (refine ZR ?_; first | refine x1 ?_ | refine x2 ?_ | refine x8 ?_ | refine Z1 ?_ | refine Z2 ?_ | refine x3 fun _ => ?_ | refine x4 fun _ => ?_ | refine x5 fun _ => ?_ | refine Z3 fun _ => ?_ | refine Z4 fun _ => ?_) | refine ZC ?_)
        exact re_2 rfl rfl rfl (by exact drop_auto) hQ
      · rw [hc, if_neg (by decide)] at hQ
        repeat (first | refine Z0 ?_ | (refine ZR ?_; first | refine x1 ?_ | refine x2 ?_ | refine x8 ?_ | refine Z1 ?_ | refine Z2 ?_ | refine x3 fun _ => ?_ | refine x4 fun _ => ?_ | refine x5 fun _ => ?_ | refine Z3 fun _ => ?_ | refine Z4 fun _ => ?_) | refine ZC ?_)
        exact re_2 rfl rfl rfl (by exact drop_auto) hQ
  · unfold doM at hQ
    simp only [show ¬ (4 : Int) < 4 by decide, if_false, if_true] at hQ
    repeat (first | refine Z0 ?_ | (refine ZR ?_; first | refine x1 ?_ | refine x2 ?_ | refine x8 ?_ | refine Z1 ?_ | refine Z2 ?_ | refine x3 fun _ => ?_ | refine x4 fun _ => ?_ | refine x5 fun _ => ?_ | refine Z3 fun _ => ?_ | refine Z4 fun _ => ?_) | refine ZC ?_)
    refine rt_step rfl rfl rfl (st_call rfl rfl rfl rfl (hpk ?_))
    repeat (first | refine Z0 ?_ | (refine ZR ?_; first | refine x1 ?_ | refine x2 ?_ | refine x8 ?_ | refine Z1 ?_ | refine Z2 ?_ | refine x3 fun _ => ?_ | refine x4 fun _ => ?_ | refine x5 fun _ => ?_ | refine Z3 fun _ => ?_ | refine Z4 fun _ => ?_) | refine ZC ?_)
    refine rt_step rfl rfl rfl (st_call rfl rfl rfl rfl (hdrop (fun hn => ?_) (fun r hr' Hs' hI' => ?_)))
    · rw [if_pos hn] at hQ
      repeat (first | refine Z0 ?_ | (refine ZR ?_; first | refine x1 ?_ | refine x2 ?_ | refine x8 ?_ | refine Z1 ?_ | refine Z2 ?_ | refine x3 fun _ => ?_ | refine x4 fun _ => ?_ | refine x5 fun _ => ?_ | refine Z3 fun _ => ?_ | refine Z4 fun _ => ?_) | refine ZC ?_)
      exact re_2 rfl rfl rfl (by exact drop_auto) (hQ _ hI)
    · rw [if_neg (by rw [hr']; simp)] at hQ
      repeat (first | refine Z0 ?_ | (refine ZR ?_; first | refine x1 ?_ | refine x2 ?_ | refine x8 ?_ | refine Z1 ?_ | refine Z2 ?_ | refine x3 fun _ => ?_ | refine x4 fun _ => ?_ | refine x5 fun _ => ?_ | refine Z3 fun _ => ?_ | refine Z4 fun _ => ?_) | refine ZC ?_)
      exact re_2 rfl rfl rfl (by exact drop_auto) (hQ _ hI')
  · unfold doM at hQ
    simp only [show ¬ (5 : Int) < 4 by decide, show ¬ (5 : Int) = 4 by decide, if_false, if_true] at hQ
    repeat (first | refine Z0 ?_ | (refine ZR ?_; first | refine x1 ?_ | refine x2 ?_ | refine x8 ?_ | refine Z1 ?_ | refine Z2 ?_ | refine x3 fun _ => ?_ | refine x4 fun _ => ?_ | refine x5 fun _ => ?_ | refine Z3 fun _ => ?_ | refine Z4 fun _ => ?_) | refine ZC ?_)
    refine rt_step rfl rfl rfl (st_call rfl rfl rfl rfl (hpk ?_))
    repeat (first | refine Z0 ?_ | (refine ZR ?_; first | refine x1 ?_ | refine x2 ?_ | refine x8 ?_ | refine Z1 ?_ | refine Z2 ?_ | refine x3 fun _ => ?_ | refine x4 fun _ => ?_ | refine x5 fun _ => ?_ | refine Z3 fun _ => ?_ | refine Z4 fun _ => ?_) | refine ZC ?_)
    refine rt_step rfl rfl rfl (st_call rfl rfl rfl rfl (CallT.perm (dropPeer36_ct w.r.peer hI fun Hs' hI' => ?_) List.perm_middle))
    repeat (first | refine Z0 ?_ | (refine ZR ?_; first | refine x1 ?_ | refine x2 ?_ | refine x8 ?_ | refine Z1 ?_ | refine Z2 ?_ | refine x3 fun _ => ?_ | refine x4 fun _ => ?_ | refine x5 fun _ => ?_ | refine Z3 fun _ => ?_ | refine Z4 fun _ => ?_) | refine ZC ?_)
    exact re_2 rfl rfl rfl (by exact drop_auto) (hQ _ hI')
  · unfold doM at hQ
    simp only [show ¬ (6 : Int) < 4 by decide, show ¬ (6 : Int) = 4 by decide, show ¬ (6 : Int) = 5 by decide, if_false, if_true] at hQ
    repeat (first | refine Z0 ?_ | (refine ZR ?_; first | refine x1 ?_ | refine x2 ?_ | refine x8 ?_ | refine Z1 ?_ | refine Z2 ?_ | refine x3 fun _ => ?_ | refine x4 fun _ => ?_ | refine x5 fun _ => ?_ | refine Z3 fun _ => ?_ | refine Z4 fun _ => ?_) | refine ZC ?_)
    refine rt_step rfl rfl rfl (st_call rfl rfl rfl rfl (hpk ?_))
    repeat (first | refine Z0 ?_ | (refine ZR ?_; first | refine x1 ?_ | refine x2 ?_ | refine x8 ?_ | refine Z1 ?_ | refine Z2 ?_ | refine x3 fun _ => ?_ | refine x4 fun _ => ?_ | refine x5 fun _ => ?_ | refine Z3 fun _ => ?_ | refine Z4 fun _ => ?_) | refine ZC ?_)
    refine rt_step rfl rfl rfl (st_call rfl rfl rfl rfl (CallT.perm (stale21_ct w.r.peer hI fun Hs' hI' => ?_) List.perm_middle))
    repeat (first | refine Z0 ?_ | (refine ZR ?_; first | refine x1 ?_ | refine x2 ?_ | refine x8 ?_ | refine Z1 ?_ | refine Z2 ?_ | refine x3 fun _ => ?_ | refine x4 fun _ => ?_ | refine x5 fun _ => ?_ | refine Z3 fun _ => ?_ | refine Z4 fun _ => ?_) | refine ZC ?_)
    exact re_2 rfl rfl rfl (by exact drop_auto) (hQ _ hI')
  · unfold doM at hQ
    simp only [show ¬ (7 : Int) < 4 by decide, show ¬ (7 : Int) = 4 by decide, show ¬ (7 : Int) = 5 by decide, show ¬ (7 : Int) = 6 by decide, if_false] at hQ
    repeat (first | refine Z0 ?_ | (refine ZR ?_; first | refine x1 ?_ | refine x2 ?_ | refine x8 ?_ | refine Z1 ?_ | refine Z2 ?_ | refine x3 fun _ => ?_ | refine x4 fun _ => ?_ | refine x5 fun _ => ?_ | refine Z3 fun _ => ?_ | refine Z4 fun _ => ?_) | refine ZC ?_)
    refine rt_step rfl rfl rfl (st_call rfl rfl rfl rfl (hpk ?_))
    repeat (first | refine Z0 ?_ | (refine ZR ?_; first | refine x1 ?_ | refine x2 ?_ | refine x8 ?_ | refine Z1 ?_ | refine Z2 ?_ | refine x3 fun _ => ?_ | refine x4 fun _ => ?_ | refine x5 fun _ => ?_ | refine Z3 fun _ => ?_ | refine Z4 fun _ => ?_) | refine ZC ?_)
    refine rt_step rfl rfl rfl (st_call rfl rfl rfl rfl (CallT.perm (sweep25_ct w.r.peer hI fun Hs' hI' => ?_) List.perm_middle))
    repeat (first | refine Z0 ?_ | (refine ZR ?_; first | refine x1 ?_ | refine x2 ?_ | refine x8 ?_ | refine Z1 ?_ | refine Z2 ?_ | refine x3 fun _ => ?_ | refine x4 fun _ => ?_ | refine x5 fun _ => ?_ | refine Z3 fun _ => ?_ | refine Z4 fun _ => ?_) | refine ZC ?_)
    exact re_2 rfl rfl rfl (by exact drop_auto) (hQ _ hI')
end
end Go.Proofs.YtphadapcafibpaaGreat.Abs
