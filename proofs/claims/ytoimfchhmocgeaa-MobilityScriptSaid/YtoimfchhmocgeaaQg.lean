/- Maps of blocks: what a map's entries point to, by keys; in plain Lean. -/
import Derived.Test.YtoimfchhmocgeaaQm
import Derived.Test.YtoimfchhmocgeaaQn
import Derived.Test.YtoimfchhmocgeaaQp
import Derived.Test.YtoimfchhmocgeaaQb
namespace Go.Proofs.Ytoimfchhmocgeaa.Abs
open Go
set_option linter.unusedVariables false
section
variable {α : Type} {P : Nat → α → Hp → Prop} {st s2 : Kk → Option α} {ms : List (Kk × Nat × Nat)} {c : Nat} {G G' : Hp} {k : Kk} {a : α}
def updF (s : Kk → Option α) (k : Kk) (v : Option α) : Kk → Option α := fun j => if j = k then v else s j
theorem updF_eq (s : Kk → Option α) (k : Kk) (v : Option α) : updF s k v k = v := if_pos rfl
theorem updF_ne (s : Kk → Option α) {k j : Kk} (v : Option α) (h : j ≠ k) : updF s k v j = s j := if_neg h
/-- The parts of memory that belong to a map's entries. -/
def PcI (P : Nat → α → Hp → Prop) (st : Kk → Option α) : List (Kk × Nat × Nat) → Hp → Prop
  | [], G => G = []
  | p :: t, G => ∃ a Ga GR, st p.1 = some a ∧ P p.2.1 a Ga ∧ G.Perm (Ga ++ GR) ∧ PcI P st t GR
theorem PcI.permG : ∀ {ms : List (Kk × Nat × Nat)} {G G' : Hp}, G.Perm G' → PcI P st ms G → PcI P st ms G'
  | [], G, G', h, e => by
    have e : G = [] := e
    subst e
    exact h.symm.eq_nil
  | p :: t, G, G', h, ⟨a, Ga, GR, h1, h2, h3, h4⟩ => ⟨a, Ga, GR, h1, h2, h.symm.trans h3, h4⟩
theorem PcI.perm {ms ms' : List (Kk × Nat × Nat)} (hp : ms.Perm ms') : ∀ {G : Hp}, PcI P st ms G → PcI P st ms' G := by
  induction hp with
  | nil => exact fun h => h
  | cons x _ ih => exact fun ⟨a, Ga, GR, h1, h2, h3, h4⟩ => ⟨a, Ga, GR, h1, h2, h3, ih h4⟩
  | swap x y l =>
    intro G ⟨a, Ga, GR, h1, h2, h3, b, Gb, GR2, k1, k2, k3, k4⟩
    exact ⟨b, Gb, Ga ++ GR2, k1, k2, (h3.trans (List.Perm.append_left Ga k3)).trans (List.perm_append_comm_assoc Ga Gb GR2), a, Ga, GR2, h1, h2, List.Perm.refl _, k4⟩
  | trans _ _ ih1 ih2 => exact fun h => ih2 (ih1 h)
theorem PcI.congr : ∀ {ms : List (Kk × Nat × Nat)} {G : Hp}, (∀ p ∈ ms, st p.1 = s2 p.1) → PcI P st ms G → PcI P s2 ms G
  | [], G, _, e => e
  | p :: t, G, h, ⟨a, Ga, GR, h1, h2, h3, h4⟩ => ⟨a, Ga, GR, by rw [← h p (List.mem_cons_self ..)]; exact h1, h2, h3, PcI.congr (fun q hq => h q (List.mem_cons_of_mem _ hq)) h4⟩
theorem PcI.some : ∀ {ms : List (Kk × Nat × Nat)} {G : Hp}, PcI P st ms G → ∀ p ∈ ms, ∃ a, st p.1 = some a
  | [], _, _, p, h => by cases h
  | q :: t, G, ⟨a, Ga, GR, h1, h2, h3, h4⟩, p, h => by
    rcases List.mem_cons.1 h with rfl | h
    · exact ⟨a, h1⟩
    · exact PcI.some h4 p h
/-- A map from keys to blocks, and the blocks. -/
structure MpI (P : Nat → α → Hp → Prop) (st : Kk → Option α) (ms : List (Kk × Nat × Nat)) (c : Nat) (G : Hp) : Prop where
  born : Born ms c
  uq : Uq ms
  dom : ∀ k a, st k = some a → ∃ b n, (k, b, n) ∈ ms
  pc : PcI P st ms G
theorem MpI.nil (c : Nat) : MpI P (fun _ => none) [] c [] := ⟨Born.nil c, List.nodup_nil, fun k a h => (by cases h), rfl⟩
theorem MpI.permG (h : MpI P st ms c G) (hp : G.Perm G') : MpI P st ms c G' := ⟨h.born, h.uq, h.dom, h.pc.permG hp⟩
theorem MpI.congr (h : MpI P st ms c G) (e : ∀ k, st k = s2 k) : MpI P s2 ms c G := (funext e : st = s2) ▸ h
theorem MpI.mem (h : MpI P st ms c G) {b n : Nat} (hm : (k, b, n) ∈ ms) : ∃ a, st k = some a := h.pc.some _ hm
theorem MpI.lk_none (h : MpI P st ms c G) (e : st k = none) : lkH ms k = none := lkH_none.2 fun p hp e2 => by
  obtain ⟨a, ha⟩ := h.pc.some p hp
  rw [e2, e] at ha; cases ha
theorem MpI.del_none (h : MpI P st ms c G) (e : st k = none) : delH ms k = ms := by
  rw [del_eq h.uq]
  exact List.filter_eq_self.2 fun p hp => decide_eq_true (lkH_none.1 (h.lk_none e) p hp)
theorem MpI.len {L : List Kk} (h : MpI P st ms c G) (hL : ∀ k a, st k = some a → k ∈ L) : ms.length ≤ L.length := by
  have key : ∀ {α : Type} {l m : List α}, l.Nodup → (∀ x ∈ l, x ∈ m) → l.length ≤ m.length := by
    intro α l
    induction l with
    | nil => exact fun _ _ => Nat.zero_le _
    | cons a l ih =>
      intro m hn hs
      obtain ⟨m1, m2, rfl⟩ := List.append_of_mem (hs a (List.mem_cons_self ..))
      rw [List.nodup_cons] at hn
      have := ih (m := m1 ++ m2) hn.2 fun x hx => by
        rcases List.mem_append.1 (hs x (List.mem_cons_of_mem _ hx)) with h2 | h2
        · exact List.mem_append_left _ h2
        · rcases List.mem_cons.1 h2 with rfl | h2
          · exact absurd hx hn.1
          · exact List.mem_append_right _ h2
      simp only [List.length_append, List.length_cons] at this ⊢
      omega
  have h1 := key h.uq fun x hx => by
    obtain ⟨⟨k, b, n⟩, hp, e⟩ := List.mem_map.1 hx
    have e : k = x := e
    subst e
    obtain ⟨a, ha⟩ := h.mem hp
    exact hL _ a ha
  rwa [List.length_map] at h1
theorem split_key (h : Uq ms) {b n : Nat} (hm : (k, b, n) ∈ ms) : ms.Perm ((k, b, n) :: ms.filter fun p => decide (p.1 ≠ k)) := by
  induction ms with
  | nil => cases hm
  | cons p t ih =>
    unfold Uq at h
    rw [List.map_cons, List.nodup_cons] at h
    rcases List.mem_cons.1 hm with h1 | h1
    · subst h1
      have h2 : t.filter (fun p => decide (p.1 ≠ k)) = t := List.filter_eq_self.2 fun p hp => decide_eq_true fun g => h.1 (by show k ∈ _; rw [← g]; exact List.mem_map_of_mem (f := fun p : Kk × Nat × Nat => p.1) hp)
      rw [List.filter_cons_of_neg (by simp), h2]
    · have hne : p.1 ≠ k := fun e => h.1 (e ▸ List.mem_map_of_mem (f := fun p : Kk × Nat × Nat => p.1) h1)
      rw [List.filter_cons_of_pos (by simpa using hne)]
      exact (List.Perm.cons _ (ih h.2 h1)).trans (List.Perm.swap _ _ _)
theorem flt_ne {p : Kk × Nat × Nat} (h : p ∈ ms.filter fun p => decide (p.1 ≠ k)) : p ∈ ms ∧ p.1 ≠ k := by
  obtain ⟨h1, h2⟩ := List.mem_filter.1 h
  exact ⟨h1, of_decide_eq_true h2⟩
theorem upd_mem (h : Uq ms) {v : Nat} {j : Kk} {b n : Nat} (hm : (j, b, n) ∈ ms) (hj : j ≠ k) : (j, b, n) ∈ updH ms c k v := by
  obtain ⟨m, hp⟩ := upd_perm (c := c) (k := k) (v := v) h
  exact hp.mem_iff.2 (List.mem_cons_of_mem _ (List.mem_filter.2 ⟨hm, decide_eq_true hj⟩))
/-- The entry of a key: it can be changed, taken out, or put anew. -/
theorem MpI.look (h : MpI P st ms c G) (e : st k = some a) : ∃ b Ga R, lkH ms k = some b ∧ P b a Ga ∧ G.Perm (Ga ++ R) ∧ (∀ a' Ga', P b a' Ga' → MpI P (updF st k (some a')) ms c (Ga' ++ R)) ∧ MpI P (updF st k none) (delH ms k) c R ∧
    (∀ b' a' Ga', P b' a' Ga' → MpI P (updF st k (some a')) (updH ms c k b') (updC ms c k) (Ga' ++ R)) := by
  obtain ⟨b, n, hm⟩ := h.dom k a e
  have hsp := split_key h.uq hm
  obtain ⟨a0, Ga, R, h1, h2, h3, h4⟩ := h.pc.perm hsp
  have h1 : st k = some a0 := h1
  rw [e] at h1
  cases h1
  have hcg : ∀ v, PcI P (updF st k v) (ms.filter fun p => decide (p.1 ≠ k)) R := fun v => h4.congr fun p hp => (updF_ne st v (flt_ne hp).2).symm
  refine ⟨b, Ga, R, h.uq.lkH hm, h2, h3, fun a' Ga' hP => ?_, ?_, fun b' a' Ga' hP => ?_⟩
  · refine ⟨h.born, h.uq, fun j x hj => ?_, PcI.perm hsp.symm ⟨a', Ga', R, updF_eq .., hP, List.Perm.refl _, hcg _⟩⟩
    by_cases hjk : j = k
    · subst hjk; exact ⟨b, n, hm⟩
    · rw [updF_ne _ _ hjk] at hj; exact h.dom j x hj
  · rw [del_eq h.uq]
    refine ⟨h.born.sub List.filter_sublist, h.uq.sublist (List.filter_sublist.map _), fun j x hj => ?_, hcg _⟩
    by_cases hjk : j = k
    · subst hjk; rw [updF_eq] at hj; cases hj
    · rw [updF_ne _ _ hjk] at hj
      obtain ⟨b1, n1, hm1⟩ := h.dom j x hj
      exact ⟨b1, n1, List.mem_filter.2 ⟨hm1, decide_eq_true hjk⟩⟩
  · obtain ⟨m, hp⟩ := upd_perm (c := c) (k := k) (v := b') h.uq
    refine ⟨h.born.upd, h.uq.upd, fun j x hj => ?_, PcI.perm hp.symm ⟨a', Ga', R, updF_eq .., hP, List.Perm.refl _, hcg _⟩⟩
    by_cases hjk : j = k
    · subst hjk; exact ⟨b', m, hp.mem_iff.2 (List.mem_cons_self ..)⟩
    · rw [updF_ne _ _ hjk] at hj
      obtain ⟨b1, n1, hm1⟩ := h.dom j x hj
      exact ⟨b1, n1, upd_mem h.uq hm1 hjk⟩
/-- A new entry. -/
theorem MpI.new (h : MpI P st ms c G) (e : st k = none) {b' : Nat} {a' : α} {Ga' : Hp} (hP : P b' a' Ga') : MpI P (updF st k (some a')) (updH ms c k b') (updC ms c k) (Ga' ++ G) := by
  have hno := lkH_none.1 (h.lk_none e)
  have hfl : ms.filter (fun p => decide (p.1 ≠ k)) = ms := List.filter_eq_self.2 fun p hp => decide_eq_true (hno p hp)
  obtain ⟨m, hp⟩ := upd_perm (c := c) (k := k) (v := b') h.uq
  rw [hfl] at hp
  refine ⟨h.born.upd, h.uq.upd, fun j x hj => ?_, PcI.perm hp.symm ⟨a', Ga', G, updF_eq .., hP, List.Perm.refl _, h.pc.congr fun p hp2 => (updF_ne st _ (hno p hp2)).symm⟩⟩
  by_cases hjk : j = k
  · subst hjk; exact ⟨b', m, hp.mem_iff.2 (List.mem_cons_self ..)⟩
  · rw [updF_ne _ _ hjk] at hj
    obtain ⟨b1, n1, hm1⟩ := h.dom j x hj
    exact ⟨b1, n1, upd_mem h.uq hm1 hjk⟩
theorem MpI.del (h : MpI P st ms c G) (e : st k = none) : MpI P (updF st k none) (delH ms k) c G := by
  rw [h.del_none e]
  exact h.congr fun j => by
    by_cases hjk : j = k
    · subst hjk; rw [updF_eq, e]
    · rw [updF_ne _ _ hjk]
end
/-- A claim's block. -/
def PCl (b : Nat) (a : Int × Bool) (G : Hp) : Prop := G = [(b, .row [.int .u32 a.1, .bool a.2] 2 false)]
/-- The block of an address's moves, and the times. -/
def PMv (b : Nat) (a : List Int × Bool) (G : Hp) : Prop := ∃ v Gv, OwnI a.1 v Gv ∧ G = (b, .row [v, .bool a.2] 2 false) :: Gv
abbrev ClG := MpI PCl
abbrev MvG := MpI PMv
end Go.Proofs.Ytoimfchhmocgeaa.Abs

/- The book in general: stuck, move, decide. -/
namespace Go.Proofs.Ytoimfchhmocgeaa.Abs
open Go
set_option linter.unusedVariables false
theorem gb_a {t d e f : Nat × AObj} {M X R H : Hp} (hp : M.Perm (X ++ R)) : (t :: d :: e :: f :: (X ++ (R ++ H))).Perm (t :: d :: e :: f :: (M ++ H)) := by
  have := (hp.symm.append_right H)
  rw [List.append_assoc] at this
  exact List.Perm.append_left [t, d, e, f] this
theorem gb_e {s t d e f : Nat × AObj} {M X R H : Hp} (hp : M.Perm (X ++ R)) : (s :: t :: d :: e :: f :: (X ++ (R ++ H))).Perm (s :: t :: d :: e :: f :: (M ++ H)) := by
  have := (hp.symm.append_right H)
  rw [List.append_assoc] at this
  exact List.Perm.append_left [s, t, d, e, f] this
section
variable {B0 : Nat} {old : Nat → Option (List Value)} {n : Nat} {H G CG MG : Hp} {Q : Value → Hp → Prop} {p cb mb cc mc : Nat} {lim win last : Int} {cs ms : List (Kk × Nat × Nat)} {K : Kk} {cl : Kk → Option (Int × Bool)} {mv : Kk → Option (List Int × Bool)}
set_option maxRecDepth 10000
set_option maxHeartbeats 8000000
theorem stuck46G_ct (hM : MvG mv ms mc G) (h : Q (.bool (moveF (mv K))) ((p, AObj.row [.int .i64 lim, .int .i64 win, .int .i64 last, .map (some cb), .map (some mb)] 5 false) :: (cb, AObj.map (mkH ekM evP cs) cc) :: (mb, AObj.map (mkH ekM evP ms) mc) :: (G ++ H))) :
    CallT (cx B0 old) (acall (cx B0 old) ansP (n + 1)) 46 [.pointer (some ⟨p, 0, none⟩), .agg ⟨enK K⟩] ((p, AObj.row [.int .i64 lim, .int .i64 win, .int .i64 last, .map (some cb), .map (some mb)] 5 false) :: (cb, AObj.map (mkH ekM evP cs) cc) :: (mb, AObj.map (mkH ekM evP ms) mc) :: (G ++ H)) Q := by
  refine call_in2 20 rfl Try.func46 rfl rfl ?_
  have hlk := lookE_K (C := cx B0 old) (ev := evP) keyMapM ms K false
  unfold ekM at hlk
  unfold enK at hlk ⊢
  repeat (first | refine Z0 ?_ | (refine ZR ?_; first | refine x1 ?_ | refine x2 ?_ | refine x8 ?_ | refine Z1 ?_ | refine Z2 ?_ | refine x3 fun _ => ?_ | refine x4 fun _ => ?_ | refine x5 fun _ => ?_ | refine Z3 fun _ => ?_ | refine Z4 fun _ => ?_) | refine ZC ?_)
  refine ct_draw (masks := [0, 1, 3, 7, 0, 31, 63]) (plan := [0, 1, 2, 3, 4, 5, 6]) (E := []) (by kernel_rfl) (by kernel_rfl) (by kernel_rfl) (by kernel_rfl) ?_
  repeat (first | refine Y0 ?_ | (refine YP ?_; first | refine y1 ?_ | refine y2 ?_ | refine Y1 ?_ | refine Y2 ?_))
  cases hk : mv K with
  | none =>
    rw [hM.lk_none hk] at hlk
    rw [hk] at h
    refine pl_R rfl rfl rfl rfl rfl rfl (rd_lookup rfl rfl hm3 hlk) ?_
    repeat (first | refine Y0 ?_ | (refine YP ?_; first | refine y1 ?_ | refine y2 ?_ | refine Y1 ?_ | refine Y2 ?_))
    repeat (first | refine Z0 ?_ | (refine ZR ?_; first | refine x1 ?_ | refine x2 ?_ | refine x8 ?_ | refine Z1 ?_ | refine Z2 ?_ | refine x3 fun _ => ?_ | refine x4 fun _ => ?_ | refine x5 fun _ => ?_ | refine Z3 fun _ => ?_ | refine Z4 fun _ => ?_) | refine ZC ?_)
    exact re_1 rfl rfl (List.Sublist.cons _ (List.Sublist.refl _)) h
  | some q =>
    obtain ⟨L, f⟩ := q
    obtain ⟨b, Ga, R, e, ⟨v, Gv, ho, rfl⟩, hpm, _⟩ := hM.look hk
    rw [e] at hlk
    rw [hk] at h
    unfold evP at hlk
    have hbm : (b, AObj.row [v, .bool f] 2 false) ∈ G := hpm.mem_iff.2 (List.Mem.head _)
    have hL0 : ∀ H', G.Sublist H' → LdT (cx B0 old) 4 H' b 1 (.bool f) := fun H' hs => ld1 (.own _ _ (hs.subset hbm)) rfl (sz rfl) rfl
    refine pl_R rfl rfl rfl rfl rfl rfl (rd_lookup rfl rfl hm3 hlk) ?_
    repeat (first | refine Y0 ?_ | (refine YP ?_; first | refine y1 ?_ | refine y2 ?_ | refine Y1 ?_ | refine Y2 ?_))
    repeat (first | refine Z0 ?_ | (refine ZR ?_; first | refine x1 ?_ | refine x2 ?_ | refine x8 ?_ | refine Z1 ?_ | refine Z2 ?_ | refine x3 fun _ => ?_ | refine x4 fun _ => ?_ | refine x5 fun _ => ?_ | refine Z3 fun _ => ?_ | refine Z4 fun _ => ?_) | refine ZC ?_)
    exact re_1 rfl rfl (List.Sublist.cons _ (List.Sublist.refl _)) h
theorem move44G_ct (hM : MvG mv ms mc G) (hl : lenM (mv K) ≤ 2000) (now : Int) (hn : 0 ≤ now ∧ now ≤ 1099511627776) (hwn : 0 ≤ win ∧ win ≤ 100000)
    (hQ : ∀ ms' mc' G', MvG (updF mv K (some (moveL win now (mv K) ++ [now], moveF (mv K) || tooM lim win now (mv K)))) ms' mc' G' → Q (.bool (tooM lim win now (mv K))) ((p, AObj.row [.int .i64 lim, .int .i64 win, .int .i64 last, .map (some cb), .map (some mb)] 5 false) :: (cb, AObj.map (mkH ekM evP cs) cc) :: (mb, AObj.map (mkH ekM evP ms') mc') :: (G' ++ H))) :
    CallT (cx B0 old) (acall (cx B0 old) ansP (n + 5)) 44 [.pointer (some ⟨p, 0, none⟩), .agg ⟨enK K⟩, .int .i64 now] ((p, AObj.row [.int .i64 lim, .int .i64 win, .int .i64 last, .map (some cb), .map (some mb)] 5 false) :: (cb, AObj.map (mkH ekM evP cs) cc) :: (mb, AObj.map (mkH ekM evP ms) mc) :: (G ++ H)) Q := by
  refine call_in3 55 rfl Try.func44 rfl rfl ?_
  have hlk := lookE_K (C := cx B0 old) (ev := evP) keyMapM ms K false
  unfold ekM at hlk
  unfold enK at hlk ⊢
  repeat (first | refine Z0 ?_ | (refine ZR ?_; first | refine x1 ?_ | refine x2 ?_ | refine x8 ?_ | refine Z1 ?_ | refine Z2 ?_ | refine x3 fun _ => ?_ | refine x4 fun _ => ?_ | refine x5 fun _ => ?_ | refine Z3 fun _ => ?_ | refine Z4 fun _ => ?_) | refine ZC ?_)
  rename_i t4
  refine ct_draw (masks := [0, 1, 3, 7, 0, 31, 63]) (plan := [0, 1, 2, 3, 4, 5, 6]) (E := []) (by kernel_rfl) (by kernel_rfl) (by kernel_rfl) (by kernel_rfl) ?_
  repeat (first | refine Y0 ?_ | (refine YP ?_; first | refine y1 ?_ | refine y2 ?_ | refine Y1 ?_ | refine Y2 ?_))
  cases hk : mv K with
  | none =>
    rw [hM.lk_none hk] at hlk
    refine pl_R rfl rfl rfl rfl rfl rfl (rd_lookup rfl rfl hm3 hlk) ?_
    repeat (first | refine Y0 ?_ | (refine YP ?_; first | refine y1 ?_ | refine y2 ?_ | refine Y1 ?_ | refine Y2 ?_))
    repeat (first | refine Z0 ?_ | (refine ZR ?_; first | refine x1 ?_ | refine x2 ?_ | refine x8 ?_ | refine Z1 ?_ | refine Z2 ?_ | refine x3 fun _ => ?_ | refine x4 fun _ => ?_ | refine x5 fun _ => ?_ | refine Z3 fun _ => ?_ | refine Z4 fun _ => ?_) | refine ZC ?_)
    rename_i bm
    refine ct_draw (masks := [0, 1, 3, 7, 0, 0, 63]) (plan := [0, 1, 2, 3, 4, 5, 6]) (E := []) (by kernel_rfl) (by kernel_rfl) (by kernel_rfl) (by kernel_rfl) ?_
    repeat (first | refine Y0 ?_ | (refine YP ?_; first | refine y1 ?_ | refine y2 ?_ | refine Y1 ?_ | refine Y2 ?_))
    refine pl_S0 rfl rfl rfl rfl rfl (st_update rfl rfl rfl (updE_K keyMapM ms mc K bm) sw4 ⟨by exact rec_auto, ?_⟩)
    repeat (first | refine Y0 ?_ | (refine YP ?_; first | refine y1 ?_ | refine y2 ?_ | refine Y1 ?_ | refine Y2 ?_))
    repeat (first | refine Z0 ?_ | (refine ZR ?_; first | refine x1 ?_ | refine x2 ?_ | refine x8 ?_ | refine Z1 ?_ | refine Z2 ?_ | refine x3 fun _ => ?_ | refine x4 fun _ => ?_ | refine x5 fun _ => ?_ | refine Z3 fun _ => ?_ | refine Z4 fun _ => ?_) | refine ZC ?_)
    rw [hk] at hQ
    unfold tooM moveL moveF at hQ
    dsimp only at hQ
    obtain ⟨F, hF⟩ : ∃ F, List.filter (keepT (now - win)) ([] : List Int) = F := ⟨_, rfl⟩
    have hfl : F.length ≤ 2000 := by rw [← hF]; exact Nat.zero_le _
    rw [hF] at hQ
    have hnew := fun {a' Ga'} h => hM.new (a' := a') (Ga' := Ga') (b' := bm) hk h
    generalize updH ms mc K bm = ms1 at *
    generalize updC ms mc K = mc1 at *
    refine rt_step rfl rfl rfl (st_call rfl rfl rfl rfl (forget63_ct (G := []) OwnI.nil (by decide) (now - win) fun w v' G' o' => ?_))
    rw [hF] at o'
    have o2 := o'
    obtain ⟨ad2, c2, ev2, _⟩ := o'.own.arrW (C := cx B0 old) enV_len
    subst ev2
    repeat (first | refine Z0 ?_ | (refine ZR ?_; first | refine x1 ?_ | refine x2 ?_ | refine x8 ?_ | refine Z1 ?_ | refine Z2 ?_ | refine x3 fun _ => ?_ | refine x4 fun _ => ?_ | refine x5 fun _ => ?_ | refine Z3 fun _ => ?_ | refine Z4 fun _ => ?_) | refine ZC ?_)
    refine rt_step rfl rfl rfl (st_appI (pre := [_, _]) o2 rfl rfl (ap rfl) (arrW_one enV_len hm0) (Nat.le_trans (Nat.mul_le_mul_right _ (show 2 * (F.length + 1) + 192 ≤ 6000 by omega)) (by decide)) fun v3 G3 o3 => ?_)
    have o4 := o3
    obtain ⟨ad3, c3, ev3, _⟩ := o3.own.arrW (C := cx B0 old) enV_len
    subst ev3
    refine RunT.perm ?_ mv_p
    repeat (first | refine Z0 ?_ | (refine ZR ?_; first | refine x1 ?_ | refine x2 ?_ | refine x8 ?_ | refine Z1 ?_ | refine Z2 ?_ | refine x3 fun _ => ?_ | refine x4 fun _ => ?_ | refine x5 fun _ => ?_ | refine Z3 fun _ => ?_ | refine Z4 fun _ => ?_) | refine ZC ?_)
    refine ct_draw (masks := [0, 1, 3, 7, 15, 0, 32, 96, 224, 511]) (plan := [0, 1, 2, 3, 4, 5, 6, 7, 8, 9]) (E := []) (by kernel_rfl) (by kernel_rfl) (by kernel_rfl) (by kernel_rfl) ?_
    repeat (first | refine Y0 ?_ | (refine YP ?_; first | refine y1 ?_ | refine y2 ?_ | refine Y1 ?_ | refine Y2 ?_))
    repeat (first | refine Z0 ?_ | (refine ZR ?_; first | refine x1 ?_ | refine x2 ?_ | refine x8 ?_ | refine Z1 ?_ | refine Z2 ?_ | refine x3 fun _ => ?_ | refine x4 fun _ => ?_ | refine x5 fun _ => ?_ | refine Z3 fun _ => ?_ | refine Z4 fun _ => ?_) | refine ZC ?_)
    have hlen : (F ++ [now]).length = F.length + 1 := by rw [List.length_append, List.length_singleton]
    refine ct_condT te_d rfl (fun hc => ?_) (fun hc => ?_)
    · have h := hQ ms1 mc1 (((bm, .row [.slice ad3 (F ++ [now]).length c3, .bool false] 2 false) :: G3) ++ G) (by
        have e : decide ((F.length : Int) + 1 > lim) = false := decide_eq_false (by omega)
        rw [e, Bool.or_false]
        exact hnew ⟨_, G3, o4, rfl⟩)
      rw [show decide ((F.length : Int) + 1 > lim) = false from decide_eq_false (by omega), List.append_assoc] at h
      repeat (first | refine Z0 ?_ | (refine ZR ?_; first | refine x1 ?_ | refine x2 ?_ | refine x8 ?_ | refine Z1 ?_ | refine Z2 ?_ | refine x3 fun _ => ?_ | refine x4 fun _ => ?_ | refine x5 fun _ => ?_ | refine Z3 fun _ => ?_ | refine Z4 fun _ => ?_) | refine ZC ?_)
      exact re_1 rfl rfl (by exact drop_auto) h
    · have h := hQ ms1 mc1 (((bm, .row [.slice ad3 (F ++ [now]).length c3, .bool true] 2 false) :: G3) ++ G) (by
        have e : decide ((F.length : Int) + 1 > lim) = true := decide_eq_true (by omega)
        rw [e, Bool.or_true]
        exact hnew ⟨_, G3, o4, rfl⟩)
      rw [show decide ((F.length : Int) + 1 > lim) = true from decide_eq_true (by omega), List.append_assoc] at h
      repeat (first | refine Z0 ?_ | (refine ZR ?_; first | refine x1 ?_ | refine x2 ?_ | refine x8 ?_ | refine Z1 ?_ | refine Z2 ?_ | refine x3 fun _ => ?_ | refine x4 fun _ => ?_ | refine x5 fun _ => ?_ | refine Z3 fun _ => ?_ | refine Z4 fun _ => ?_) | refine ZC ?_)
      exact re_1 rfl rfl (by exact drop_auto) h
  | some q =>
    obtain ⟨L, f⟩ := q
    rw [hk] at hl hQ
    have hlL : L.length ≤ 2000 := hl
    obtain ⟨b, Ga, R, e, ⟨v, Gv, ho, rfl⟩, hpm, hch, _⟩ := hM.look hk
    rw [e] at hlk
    unfold evP at hlk
    refine pl_R rfl rfl rfl rfl rfl rfl (rd_lookup rfl rfl hm3 hlk) ?_
    repeat (first | refine Y0 ?_ | (refine YP ?_; first | refine y1 ?_ | refine y2 ?_ | refine Y1 ?_ | refine Y2 ?_))
    repeat (first | refine Z0 ?_ | (refine ZR ?_; first | refine x1 ?_ | refine x2 ?_ | refine x8 ?_ | refine Z1 ?_ | refine Z2 ?_ | refine x3 fun _ => ?_ | refine x4 fun _ => ?_ | refine x5 fun _ => ?_ | refine Z3 fun _ => ?_ | refine Z4 fun _ => ?_) | refine ZC ?_)
    unfold tooM moveL moveF at hQ
    dsimp only at hQ
    obtain ⟨F, hF⟩ : ∃ F, List.filter (keepT (now - win)) L = F := ⟨_, rfl⟩
    have hfl : F.length ≤ 2000 := by rw [← hF]; exact Nat.le_trans (List.length_filter_le _ _) hlL
    rw [hF] at hQ
    refine RunT.perm ?_ (gb_a hpm)
    refine rt_step rfl rfl rfl (st_call rfl rfl rfl rfl (CallT.perm (forget63_ct ho (show L.length ≤ 100000 by omega) (now - win) fun w v' G' o' => ?_) mv_q))
    rw [hF] at o'
    have o2 := o'
    obtain ⟨ad2, c2, ev2, _⟩ := o'.own.arrW (C := cx B0 old) enV_len
    subst ev2
    repeat (first | refine Z0 ?_ | (refine ZR ?_; first | refine x1 ?_ | refine x2 ?_ | refine x8 ?_ | refine Z1 ?_ | refine Z2 ?_ | refine x3 fun _ => ?_ | refine x4 fun _ => ?_ | refine x5 fun _ => ?_ | refine Z3 fun _ => ?_ | refine Z4 fun _ => ?_) | refine ZC ?_)
    refine rt_step rfl rfl rfl (st_appI (pre := [_, _]) o2 rfl rfl (ap rfl) (arrW_one enV_len hm0) (Nat.le_trans (Nat.mul_le_mul_right _ (show 2 * (F.length + 1) + 192 ≤ 6000 by omega)) (by decide)) fun v3 G3 o3 => ?_)
    have o4 := o3
    obtain ⟨ad3, c3, ev3, _⟩ := o3.own.arrW (C := cx B0 old) enV_len
    subst ev3
    refine RunT.perm ?_ mv_p
    repeat (first | refine Z0 ?_ | (refine ZR ?_; first | refine x1 ?_ | refine x2 ?_ | refine x8 ?_ | refine Z1 ?_ | refine Z2 ?_ | refine x3 fun _ => ?_ | refine x4 fun _ => ?_ | refine x5 fun _ => ?_ | refine Z3 fun _ => ?_ | refine Z4 fun _ => ?_) | refine ZC ?_)
    refine ct_draw (masks := [0, 1, 3, 7, 15, 0, 32, 96, 224, 511]) (plan := [0, 1, 2, 3, 4, 5, 6, 7, 8, 9]) (E := []) (by kernel_rfl) (by kernel_rfl) (by kernel_rfl) (by kernel_rfl) ?_
    repeat (first | refine Y0 ?_ | (refine YP ?_; first | refine y1 ?_ | refine y2 ?_ | refine Y1 ?_ | refine Y2 ?_))
    repeat (first | refine Z0 ?_ | (refine ZR ?_; first | refine x1 ?_ | refine x2 ?_ | refine x8 ?_ | refine Z1 ?_ | refine Z2 ?_ | refine x3 fun _ => ?_ | refine x4 fun _ => ?_ | refine x5 fun _ => ?_ | refine Z3 fun _ => ?_ | refine Z4 fun _ => ?_) | refine ZC ?_)
    have hlen : (F ++ [now]).length = F.length + 1 := by rw [List.length_append, List.length_singleton]
    refine ct_condT te_d rfl (fun hc => ?_) (fun hc => ?_)
    · have h := hQ _ mc (((b, .row [.slice ad3 (F ++ [now]).length c3, .bool f] 2 false) :: G3) ++ R) (by
        have e : decide ((F.length : Int) + 1 > lim) = false := decide_eq_false (by omega)
        rw [e, Bool.or_false]
        exact hch _ _ ⟨_, G3, o4, rfl⟩)
      rw [show decide ((F.length : Int) + 1 > lim) = false from decide_eq_false (by omega), List.append_assoc] at h
      repeat (first | refine Z0 ?_ | (refine ZR ?_; first | refine x1 ?_ | refine x2 ?_ | refine x8 ?_ | refine Z1 ?_ | refine Z2 ?_ | refine x3 fun _ => ?_ | refine x4 fun _ => ?_ | refine x5 fun _ => ?_ | refine Z3 fun _ => ?_ | refine Z4 fun _ => ?_) | refine ZC ?_)
      exact re_1 rfl rfl (by exact drop_auto) h
    · have h := hQ _ mc (((b, .row [.slice ad3 (F ++ [now]).length c3, .bool true] 2 false) :: G3) ++ R) (by
        have e : decide ((F.length : Int) + 1 > lim) = true := decide_eq_true (by omega)
        rw [e, Bool.or_true]
        exact hch _ _ ⟨_, G3, o4, rfl⟩)
      rw [show decide ((F.length : Int) + 1 > lim) = true from decide_eq_true (by omega), List.append_assoc] at h
      repeat (first | refine Z0 ?_ | (refine ZR ?_; first | refine x1 ?_ | refine x2 ?_ | refine x8 ?_ | refine Z1 ?_ | refine Z2 ?_ | refine x3 fun _ => ?_ | refine x4 fun _ => ?_ | refine x5 fun _ => ?_ | refine Z3 fun _ => ?_ | refine Z4 fun _ => ?_) | refine ZC ?_)
      exact re_1 rfl rfl (by exact drop_auto) h
theorem decide70G_ct (hC : ClG cl cs cc G) (r : S27) (self now : Int) (b0 : Nat) (hb0 : ∀ q, cl K = some q → lkH cs K = some b0)
    (hQ : ∀ cs' cc' G', ClG (updF cl K (decC (nextM (seqO (cl K)) (cl K).isSome self r))) cs' cc' G' → Q (.bool (nextM (seqO (cl K)) (cl K).isSome self r).2) ((p, AObj.row [.int .i64 lim, .int .i64 win, .int .i64 last, .map (some cb), .map (some mb)] 5 false) :: (cb, AObj.map (mkH ekM evP cs') cc') :: (mb, AObj.map (mkH ekM evP ms) mc) :: (G' ++ H))) :
    CallT (cx B0 old) (acall (cx B0 old) ansP (n + 3)) 70 [.pointer (some ⟨p, 0, none⟩), .agg ⟨enX K (clV (cl K) b0) r self now⟩] ((p, AObj.row [.int .i64 lim, .int .i64 win, .int .i64 last, .map (some cb), .map (some mb)] 5 false) :: (cb, AObj.map (mkH ekM evP cs) cc) :: (mb, AObj.map (mkH ekM evP ms) mc) :: (G ++ H)) Q := by
  refine call_in2 45 rfl Try.func70 rfl rfl ?_
  have hnx := fun {H' : Hp} {Q' : Value → Hp → Prop} (known : Bool) (own : Int) (h : Q' (.tuple #[.int .u32 (nextM (if known = true then own else 0) known self r).1, .bool (nextM (if known = true then own else 0) known self r).2]) H') =>
    next_ct (B0 := B0) (old := old) (n := n) (H := H') (Q := Q') known own self r _ rfl fun v b e => by rw [← e] at h; exact h
  unfold enX
  unfold en27 at hnx
  cases hk : cl K with
  | none =>
    rw [hk] at hQ
    unfold clV
    have hnx := fun {H' : Hp} {Q' : Value → Hp → Prop} h => hnx (H' := H') (Q' := Q') false 0 h
    rw [if_neg (by decide)] at hnx
    unfold seqO at hQ
    dsimp only [Option.isSome_none] at hQ
    generalize nextM 0 false self r = R at *
    obtain ⟨sq, stays⟩ := R
    dsimp only [decC] at hQ hnx
    repeat (first | refine Z0 ?_ | (refine ZR ?_; first | refine x1 ?_ | refine x2 ?_ | refine x8 ?_ | refine Z1 ?_ | refine Z2 ?_ | refine x3 fun _ => ?_ | refine x4 fun _ => ?_ | refine x5 fun _ => ?_ | refine Z3 fun _ => ?_ | refine Z4 fun _ => ?_) | refine ZC ?_)
    refine rt_step rfl rfl rfl (st_call rfl rfl rfl rfl (hnx ?_))
    repeat (first | refine Z0 ?_ | (refine ZR ?_; first | refine x1 ?_ | refine x2 ?_ | refine x8 ?_ | refine Z1 ?_ | refine Z2 ?_ | refine x3 fun _ => ?_ | refine x4 fun _ => ?_ | refine x5 fun _ => ?_ | refine Z3 fun _ => ?_ | refine Z4 fun _ => ?_) | refine ZC ?_)
    cases stays
    · have h := hQ _ cc G (hC.del hk)
      repeat (first | refine Z0 ?_ | (refine ZR ?_; first | refine x1 ?_ | refine x2 ?_ | refine x8 ?_ | refine Z1 ?_ | refine Z2 ?_ | refine x3 fun _ => ?_ | refine x4 fun _ => ?_ | refine x5 fun _ => ?_ | refine Z3 fun _ => ?_ | refine Z4 fun _ => ?_) | refine ZC ?_)
      refine ct_draw (masks := [0, 1, 3, 7, 0, 16, 63]) (plan := [0, 1, 2, 3, 4, 5, 6]) (E := []) (by kernel_rfl) (by kernel_rfl) (by kernel_rfl) (by kernel_rfl) ?_
      repeat (first | refine Y0 ?_ | (refine YP ?_; first | refine y1 ?_ | refine y2 ?_ | refine Y1 ?_ | refine Y2 ?_))
      refine pl_S0 rfl rfl rfl rfl rfl (st_delete rfl rfl (delE_K keyMapC cs K) sw2 ⟨by exact rec_auto, ?_⟩)
      repeat (first | refine Y0 ?_ | (refine YP ?_; first | refine y1 ?_ | refine y2 ?_ | refine Y1 ?_ | refine Y2 ?_))
      repeat (first | refine Z0 ?_ | (refine ZR ?_; first | refine x1 ?_ | refine x2 ?_ | refine x8 ?_ | refine Z1 ?_ | refine Z2 ?_ | refine x3 fun _ => ?_ | refine x4 fun _ => ?_ | refine x5 fun _ => ?_ | refine Z3 fun _ => ?_ | refine Z4 fun _ => ?_) | refine ZC ?_)
      exact re_1 rfl rfl (by exact drop_auto) h
    · repeat (first | refine Z0 ?_ | (refine ZR ?_; first | refine x1 ?_ | refine x2 ?_ | refine x8 ?_ | refine Z1 ?_ | refine Z2 ?_ | refine x3 fun _ => ?_ | refine x4 fun _ => ?_ | refine x5 fun _ => ?_ | refine Z3 fun _ => ?_ | refine Z4 fun _ => ?_) | refine ZC ?_)
      refine ct_draw (masks := [0, 1, 3, 7, 0, 16, 0, 64, 192, 511]) (plan := [0, 1, 2, 3, 4, 5, 6, 7, 8, 9]) (E := []) (by kernel_rfl) (by kernel_rfl) (by kernel_rfl) (by kernel_rfl) ?_
      repeat (first | refine Y0 ?_ | (refine YP ?_; first | refine y1 ?_ | refine y2 ?_ | refine Y1 ?_ | refine Y2 ?_))
      refine pl_S rfl rfl rfl rfl rfl rfl (st_box rfl (sz rfl) rfl rfl fun bc => ⟨by exact rec_auto, ?_⟩)
      repeat (first | refine Y0 ?_ | (refine YP ?_; first | refine y1 ?_ | refine y2 ?_ | refine Y1 ?_ | refine Y2 ?_))
      refine pl_S0 rfl rfl rfl rfl rfl (st_update rfl rfl rfl (updE_K keyMapC cs cc K bc) sw3 ⟨by exact rec_auto, ?_⟩)
      have h := hQ _ _ ([(bc, .row [.int .u32 sq, .bool false] 2 false)] ++ G) (hC.new (b' := bc) hk (show PCl bc (sq, false) [(bc, AObj.row [.int .u32 sq, .bool false] 2 false)] from rfl))
      generalize updH cs cc K bc = cs1 at *
      generalize updC cs cc K = cc1 at *
      refine PlanT.perm ?_ dc_p
      repeat (first | refine Y0 ?_ | (refine YP ?_; first | refine y1 ?_ | refine y2 ?_ | refine Y1 ?_ | refine Y2 ?_))
      repeat (first | refine Z0 ?_ | (refine ZR ?_; first | refine x1 ?_ | refine x2 ?_ | refine x8 ?_ | refine Z1 ?_ | refine Z2 ?_ | refine x3 fun _ => ?_ | refine x4 fun _ => ?_ | refine x5 fun _ => ?_ | refine Z3 fun _ => ?_ | refine Z4 fun _ => ?_) | refine ZC ?_)
      exact re_1 rfl rfl (by exact drop_auto) h
  | some q =>
    obtain ⟨q, f⟩ := q
    rw [hk] at hQ
    obtain ⟨b, Ga, R0, e, hga, hpm, _, hdl, hup⟩ := hC.look hk
    have hga : Ga = [(b, .row [.int .u32 q, .bool f] 2 false)] := hga
    subst hga
    obtain rfl : b = b0 := Option.some.inj (e.symm.trans (hb0 _ hk))
    have hbm : (b, AObj.row [.int .u32 q, .bool f] 2 false) ∈ G := hpm.mem_iff.2 (List.Mem.head _)
    have hL0 : ∀ H', G.Sublist H' → LdT (cx B0 old) 22 H' b 0 (.int .u32 q) := fun H' hs => ld1 (.own _ _ (hs.subset hbm)) rfl (sz rfl) rfl
    unfold clV evP
    have hnx := fun {H' : Hp} {Q' : Value → Hp → Prop} h => hnx (H' := H') (Q' := Q') true q h
    rw [if_pos rfl] at hnx
    unfold seqO at hQ
    dsimp only [Option.isSome_some] at hQ
    generalize nextM q true self r = R at *
    obtain ⟨sq, stays⟩ := R
    dsimp only [decC] at hQ hnx
    repeat (first | refine Z0 ?_ | (refine ZR ?_; first | refine x1 ?_ | refine x2 ?_ | refine x8 ?_ | refine Z1 ?_ | refine Z2 ?_ | refine x3 fun _ => ?_ | refine x4 fun _ => ?_ | refine x5 fun _ => ?_ | refine Z3 fun _ => ?_ | refine Z4 fun _ => ?_) | refine ZC ?_)
    refine rt_step rfl rfl rfl (st_call rfl rfl rfl rfl (hnx ?_))
    repeat (first | refine Z0 ?_ | (refine ZR ?_; first | refine x1 ?_ | refine x2 ?_ | refine x8 ?_ | refine Z1 ?_ | refine Z2 ?_ | refine x3 fun _ => ?_ | refine x4 fun _ => ?_ | refine x5 fun _ => ?_ | refine Z3 fun _ => ?_ | refine Z4 fun _ => ?_) | refine ZC ?_)
    have hsub : (R0 ++ H).Sublist ([(b, AObj.row [.int .u32 q, .bool f] 2 false)] ++ (R0 ++ H)) := List.sublist_cons_self _ _
    cases stays
    · have h := hQ _ cc R0 hdl
      repeat (first | refine Z0 ?_ | (refine ZR ?_; first | refine x1 ?_ | refine x2 ?_ | refine x8 ?_ | refine Z1 ?_ | refine Z2 ?_ | refine x3 fun _ => ?_ | refine x4 fun _ => ?_ | refine x5 fun _ => ?_ | refine Z3 fun _ => ?_ | refine Z4 fun _ => ?_) | refine ZC ?_)
      refine ct_draw (masks := [0, 1, 3, 7, 0, 16, 63]) (plan := [0, 1, 2, 3, 4, 5, 6]) (E := []) (by kernel_rfl) (by kernel_rfl) (by kernel_rfl) (by kernel_rfl) ?_
      repeat (first | refine Y0 ?_ | (refine YP ?_; first | refine y1 ?_ | refine y2 ?_ | refine Y1 ?_ | refine Y2 ?_))
      refine pl_S0 rfl rfl rfl rfl rfl (st_delete rfl rfl (delE_K keyMapC cs K) sw2 ⟨by exact rec_auto, ?_⟩)
      refine PlanT.perm ?_ (gb_a hpm)
      repeat (first | refine Y0 ?_ | (refine YP ?_; first | refine y1 ?_ | refine y2 ?_ | refine Y1 ?_ | refine Y2 ?_))
      repeat (first | refine Z0 ?_ | (refine ZR ?_; first | refine x1 ?_ | refine x2 ?_ | refine x8 ?_ | refine Z1 ?_ | refine Z2 ?_ | refine x3 fun _ => ?_ | refine x4 fun _ => ?_ | refine x5 fun _ => ?_ | refine Z3 fun _ => ?_ | refine Z4 fun _ => ?_) | refine ZC ?_)
      exact re_1 rfl rfl (by exact drop_auto) h
    · repeat (first | refine Z0 ?_ | (refine ZR ?_; first | refine x1 ?_ | refine x2 ?_ | refine x8 ?_ | refine Z1 ?_ | refine Z2 ?_ | refine x3 fun _ => ?_ | refine x4 fun _ => ?_ | refine x5 fun _ => ?_ | refine Z3 fun _ => ?_ | refine Z4 fun _ => ?_) | refine ZC ?_)
      refine ct_draw (masks := [0, 1, 3, 7, 0, 16, 0, 64, 192, 511]) (plan := [0, 1, 2, 3, 4, 5, 6, 7, 8, 9]) (E := []) (by kernel_rfl) (by kernel_rfl) (by kernel_rfl) (by kernel_rfl) ?_
      repeat (first | refine Y0 ?_ | (refine YP ?_; first | refine y1 ?_ | refine y2 ?_ | refine Y1 ?_ | refine Y2 ?_))
      refine pl_S rfl rfl rfl rfl rfl rfl (st_box rfl (sz rfl) rfl rfl fun bc => ⟨by exact rec_auto, ?_⟩)
      repeat (first | refine Y0 ?_ | (refine YP ?_; first | refine y1 ?_ | refine y2 ?_ | refine Y1 ?_ | refine Y2 ?_))
      refine pl_S0 rfl rfl rfl rfl rfl (st_update rfl rfl rfl (updE_K keyMapC cs cc K bc) sw3 ⟨by exact rec_auto, ?_⟩)
      have h := hQ _ _ ([(bc, .row [.int .u32 sq, .bool false] 2 false)] ++ R0) (hup bc _ _ (show PCl bc (sq, false) [(bc, AObj.row [.int .u32 sq, .bool false] 2 false)] from rfl))
      generalize updH cs cc K bc = cs1 at *
      generalize updC cs cc K = cc1 at *
      refine PlanT.perm ?_ ((gb_e hpm).trans dc_p)
      repeat (first | refine Y0 ?_ | (refine YP ?_; first | refine y1 ?_ | refine y2 ?_ | refine Y1 ?_ | refine Y2 ?_))
      repeat (first | refine Z0 ?_ | (refine ZR ?_; first | refine x1 ?_ | refine x2 ?_ | refine x8 ?_ | refine Z1 ?_ | refine Z2 ?_ | refine x3 fun _ => ?_ | refine x4 fun _ => ?_ | refine x5 fun _ => ?_ | refine Z3 fun _ => ?_ | refine Z4 fun _ => ?_) | refine ZC ?_)
      exact re_1 rfl rfl (by exact drop_auto) h
theorem rule65G_ct {b0 : Nat} (hC : ClG cl cs cc CG) (r : S27) (self now : Int) (hb0 : ∀ q, cl K = some q → lkH cs K = some b0) (h : Q (.tuple #[.bool false, .bool (clF (cl K))]) ((p, AObj.row [.int .i64 lim, .int .i64 win, .int .i64 last, .map (some cb), .map (some mb)] 5 false) :: (cb, AObj.map (mkH ekM evP cs) cc) :: (mb, AObj.map (mkH ekM evP ms) mc) :: (CG ++ (MG ++ H)))) :
    CallT (cx B0 old) (acall (cx B0 old) ansP (n + 1)) 65 [.pointer (some ⟨p, 0, none⟩), .agg ⟨enX K (clV (cl K) b0) r self now⟩] ((p, AObj.row [.int .i64 lim, .int .i64 win, .int .i64 last, .map (some cb), .map (some mb)] 5 false) :: (cb, AObj.map (mkH ekM evP cs) cc) :: (mb, AObj.map (mkH ekM evP ms) mc) :: (CG ++ (MG ++ H))) Q := by
  refine call_in2 16 rfl Try.func65 rfl rfl ?_
  unfold enX
  cases hk : cl K with
  | none =>
    rw [hk] at h
    unfold clV
    repeat (first | refine Z0 ?_ | (refine ZR ?_; first | refine x1 ?_ | refine x2 ?_ | refine x8 ?_ | refine Z1 ?_ | refine Z2 ?_ | refine x3 fun _ => ?_ | refine x4 fun _ => ?_ | refine x5 fun _ => ?_ | refine Z3 fun _ => ?_ | refine Z4 fun _ => ?_) | refine ZC ?_)
    refine ct_draw (masks := [0, 1, 3, 7, 15, 31, 63, 127, 255, 511, 15, 2047]) (plan := [0, 1, 2, 3, 4, 5, 6, 7, 8, 9, 10, 11]) (E := []) (by kernel_rfl) (by kernel_rfl) (by kernel_rfl) (by kernel_rfl) ?_
    repeat (first | refine Y0 ?_ | (refine YP ?_; first | refine y1 ?_ | refine y2 ?_ | refine Y1 ?_ | refine Y2 ?_))
    repeat (first | refine Z0 ?_ | (refine ZR ?_; first | refine x1 ?_ | refine x2 ?_ | refine x8 ?_ | refine Z1 ?_ | refine Z2 ?_ | refine x3 fun _ => ?_ | refine x4 fun _ => ?_ | refine x5 fun _ => ?_ | refine Z3 fun _ => ?_ | refine Z4 fun _ => ?_) | refine ZC ?_)
    exact re_2 rfl rfl rfl (List.Sublist.cons _ (List.Sublist.refl _)) h
  | some q =>
    obtain ⟨q, f⟩ := q
    rw [hk] at h
    obtain ⟨b, Ga, R0, e, hga, hpm, _⟩ := hC.look hk
    have hga : Ga = [(b, .row [.int .u32 q, .bool f] 2 false)] := hga
    subst hga
    obtain rfl : b = b0 := Option.some.inj (e.symm.trans (hb0 _ hk))
    have hbm : (b, AObj.row [.int .u32 q, .bool f] 2 false) ∈ CG := hpm.mem_iff.2 (List.Mem.head _)
    have hL0 : ∀ H', (CG ++ (MG ++ H)).Sublist H' → LdT (cx B0 old) 4 H' b 1 (.bool f) := fun H' hs => ld1 (.own _ _ (hs.subset (List.mem_append_left _ hbm))) rfl (sz rfl) rfl
    unfold clV evP
    repeat (first | refine Z0 ?_ | (refine ZR ?_; first | refine x1 ?_ | refine x2 ?_ | refine x8 ?_ | refine Z1 ?_ | refine Z2 ?_ | refine x3 fun _ => ?_ | refine x4 fun _ => ?_ | refine x5 fun _ => ?_ | refine Z3 fun _ => ?_ | refine Z4 fun _ => ?_) | refine ZC ?_)
    refine ct_draw (masks := [0, 1, 3, 7, 15, 31, 63, 127, 255, 511, 15, 2047]) (plan := [0, 1, 2, 3, 4, 5, 6, 7, 8, 9, 10, 11]) (E := []) (by kernel_rfl) (by kernel_rfl) (by kernel_rfl) (by kernel_rfl) ?_
    repeat (first | refine Y0 ?_ | (refine YP ?_; first | refine y1 ?_ | refine y2 ?_ | refine Y1 ?_ | refine Y2 ?_))
    repeat (first | refine Z0 ?_ | (refine ZR ?_; first | refine x1 ?_ | refine x2 ?_ | refine x8 ?_ | refine Z1 ?_ | refine Z2 ?_ | refine x3 fun _ => ?_ | refine x4 fun _ => ?_ | refine x5 fun _ => ?_ | refine Z3 fun _ => ?_ | refine Z4 fun _ => ?_) | refine ZC ?_)
    exact re_2 rfl rfl rfl (List.Sublist.cons _ (List.Sublist.refl _)) h
theorem rule66G_ct {b0 : Nat} (hM : MvG mv ms mc MG) (c0 : Option (Int × Bool)) (r : S27) (self now : Int) (h : Q (.tuple #[.bool (contB c0 r && moveF (mv K)), .bool (contB c0 r && moveF (mv K))]) ((p, AObj.row [.int .i64 lim, .int .i64 win, .int .i64 last, .map (some cb), .map (some mb)] 5 false) :: (cb, AObj.map (mkH ekM evP cs) cc) :: (mb, AObj.map (mkH ekM evP ms) mc) :: (CG ++ (MG ++ H)))) :
    CallT (cx B0 old) (acall (cx B0 old) ansP (n + 2)) 66 [.pointer (some ⟨p, 0, none⟩), .agg ⟨enX K (clV c0 b0) r self now⟩] ((p, AObj.row [.int .i64 lim, .int .i64 win, .int .i64 last, .map (some cb), .map (some mb)] 5 false) :: (cb, AObj.map (mkH ekM evP cs) cc) :: (mb, AObj.map (mkH ekM evP ms) mc) :: (CG ++ (MG ++ H))) Q := by
  refine call_in2 17 rfl Try.func66 rfl rfl ?_
  have hct := fun {H' : Hp} {Q' : Value → Hp → Prop} => contested67_ct (B0 := B0) (old := old) (n := n) (H := H') (Q := Q') (K := K) (cl := c0) b0 r self now
  have hstk := fun {H' : Hp} {Q' : Value → Hp → Prop} => stuck46G_ct (B0 := B0) (old := old) (n := n) (H := H') (Q := Q') (p := p) (cb := cb) (mb := mb) (cc := cc) (lim := lim) (win := win) (last := last) (cs := cs) (K := K) hM
  unfold contB at h
  obtain ⟨cp, hcp⟩ : ∃ cp, clV c0 b0 = .pointer cp := by cases c0 <;> exact ⟨_, rfl⟩
  unfold enX at hct ⊢
  rw [hcp] at hct ⊢
  unfold enK at hstk
  repeat (first | refine Z0 ?_ | (refine ZR ?_; first | refine x1 ?_ | refine x2 ?_ | refine x8 ?_ | refine Z1 ?_ | refine Z2 ?_ | refine x3 fun _ => ?_ | refine x4 fun _ => ?_ | refine x5 fun _ => ?_ | refine Z3 fun _ => ?_ | refine Z4 fun _ => ?_) | refine ZC ?_)
  refine rt_step rfl rfl rfl (st_call rfl rfl rfl rfl (hct ?_))
  generalize (c0.isNone && (r.a3 != 0) && !r.a4) = g at *
  cases g
  · repeat (first | refine Z0 ?_ | (refine ZR ?_; first | refine x1 ?_ | refine x2 ?_ | refine x8 ?_ | refine Z1 ?_ | refine Z2 ?_ | refine x3 fun _ => ?_ | refine x4 fun _ => ?_ | refine x5 fun _ => ?_ | refine Z3 fun _ => ?_ | refine Z4 fun _ => ?_) | refine ZC ?_)
    exact re_2 rfl rfl rfl (List.Sublist.cons _ (List.Sublist.refl _)) h
  · repeat (first | refine Z0 ?_ | (refine ZR ?_; first | refine x1 ?_ | refine x2 ?_ | refine x8 ?_ | refine Z1 ?_ | refine Z2 ?_ | refine x3 fun _ => ?_ | refine x4 fun _ => ?_ | refine x5 fun _ => ?_ | refine Z3 fun _ => ?_ | refine Z4 fun _ => ?_) | refine ZC ?_)
    refine rt_step rfl rfl rfl (st_call rfl rfl rfl rfl (CallT.perm (hstk ?_) bk_q))
    refine RunT.perm ?_ bk_q.symm
    rw [Bool.true_and] at h
    repeat (first | refine Z0 ?_ | (refine ZR ?_; first | refine x1 ?_ | refine x2 ?_ | refine x8 ?_ | refine Z1 ?_ | refine Z2 ?_ | refine x3 fun _ => ?_ | refine x4 fun _ => ?_ | refine x5 fun _ => ?_ | refine Z3 fun _ => ?_ | refine Z4 fun _ => ?_) | refine ZC ?_)
    exact re_2 rfl rfl rfl (List.Sublist.cons _ (List.Sublist.refl _)) h
theorem rule69G_ct {b0 : Nat} (hC : ClG cl cs cc CG) (r : S27) (self now : Int) (hb0 : ∀ q, cl K = some q → lkH cs K = some b0)
    (hQ : ∀ cs' cc' CG', ClG (updF cl K (decC (nextM (seqO (cl K)) (cl K).isSome self r))) cs' cc' CG' → Q (.tuple #[.bool !(nextM (seqO (cl K)) (cl K).isSome self r).2, .bool true]) ((p, AObj.row [.int .i64 lim, .int .i64 win, .int .i64 last, .map (some cb), .map (some mb)] 5 false) :: (cb, AObj.map (mkH ekM evP cs') cc') :: (mb, AObj.map (mkH ekM evP ms) mc) :: (CG' ++ (MG ++ H)))) :
    CallT (cx B0 old) (acall (cx B0 old) ansP (n + 4)) 69 [.pointer (some ⟨p, 0, none⟩), .agg ⟨enX K (clV (cl K) b0) r self now⟩] ((p, AObj.row [.int .i64 lim, .int .i64 win, .int .i64 last, .map (some cb), .map (some mb)] 5 false) :: (cb, AObj.map (mkH ekM evP cs) cc) :: (mb, AObj.map (mkH ekM evP ms) mc) :: (CG ++ (MG ++ H))) Q := by
  refine call_in2 10 rfl Try.func69 rfl rfl ?_
  have hd := fun {H' : Hp} {Q' : Value → Hp → Prop} => decide70G_ct (B0 := B0) (old := old) (n := n) (H := H') (Q := Q') (p := p) (cb := cb) (mb := mb) (mc := mc) (lim := lim) (win := win) (last := last) (ms := ms) (K := K) hC r self now b0 hb0
  generalize nextM (seqO (cl K)) (cl K).isSome self r = R at *
  obtain ⟨cp, hcp⟩ : ∃ cp, clV (cl K) b0 = .pointer cp := by cases cl K <;> exact ⟨_, rfl⟩
  unfold enX at hd ⊢
  rw [hcp] at hd ⊢
  repeat (first | refine Z0 ?_ | (refine ZR ?_; first | refine x1 ?_ | refine x2 ?_ | refine x8 ?_ | refine Z1 ?_ | refine Z2 ?_ | refine x3 fun _ => ?_ | refine x4 fun _ => ?_ | refine x5 fun _ => ?_ | refine Z3 fun _ => ?_ | refine Z4 fun _ => ?_) | refine ZC ?_)
  rename_i t3
  refine rt_step rfl rfl rfl (st_call rfl rfl rfl rfl (CallT.perm (hd (H' := MG ++ (_ :: H)) fun cs' cc' G' hC' => ?_) (bk_p.trans bk_q)))
  refine RunT.perm ?_ (bk_p.trans bk_q).symm
  repeat (first | refine Z0 ?_ | (refine ZR ?_; first | refine x1 ?_ | refine x2 ?_ | refine x8 ?_ | refine Z1 ?_ | refine Z2 ?_ | refine x3 fun _ => ?_ | refine x4 fun _ => ?_ | refine x5 fun _ => ?_ | refine Z3 fun _ => ?_ | refine Z4 fun _ => ?_) | refine ZC ?_)
  exact re_2 rfl rfl rfl (List.Sublist.cons _ (List.Sublist.refl _)) (hQ _ _ _ hC')
theorem rule68G_ct {b0 : Nat} (hM : MvG mv ms mc MG) (hl : lenM (mv K) ≤ 2000) (c0 : Option (Int × Bool)) (r : S27) (self now : Int) (hn : 0 ≤ now ∧ now ≤ 1099511627776) (hwn : 0 ≤ win ∧ win ≤ 100000)
    (hno : contB c0 r = false → Q (.tuple #[.bool false, .bool false]) ((p, AObj.row [.int .i64 lim, .int .i64 win, .int .i64 last, .map (some cb), .map (some mb)] 5 false) :: (cb, AObj.map (mkH ekM evP cs) cc) :: (mb, AObj.map (mkH ekM evP ms) mc) :: (CG ++ (MG ++ H))))
    (hQ : contB c0 r = true → ∀ ms' mc' MG', MvG (updF mv K (some (moveL win now (mv K) ++ [now], moveF (mv K) || tooM lim win now (mv K)))) ms' mc' MG' → Q (.tuple #[.bool (tooM lim win now (mv K)), .bool (tooM lim win now (mv K))]) ((p, AObj.row [.int .i64 lim, .int .i64 win, .int .i64 last, .map (some cb), .map (some mb)] 5 false) :: (cb, AObj.map (mkH ekM evP cs) cc) :: (mb, AObj.map (mkH ekM evP ms') mc') :: (CG ++ (MG' ++ H)))) :
    CallT (cx B0 old) (acall (cx B0 old) ansP (n + 6)) 68 [.pointer (some ⟨p, 0, none⟩), .agg ⟨enX K (clV c0 b0) r self now⟩] ((p, AObj.row [.int .i64 lim, .int .i64 win, .int .i64 last, .map (some cb), .map (some mb)] 5 false) :: (cb, AObj.map (mkH ekM evP cs) cc) :: (mb, AObj.map (mkH ekM evP ms) mc) :: (CG ++ (MG ++ H))) Q := by
  refine call_in2 19 rfl Try.func68 rfl rfl ?_
  have hct := fun {H' : Hp} {Q' : Value → Hp → Prop} => contested67_ct (B0 := B0) (old := old) (n := n + 4) (H := H') (Q := Q') (K := K) (cl := c0) b0 r self now
  have hmv := fun {H' : Hp} {Q' : Value → Hp → Prop} => move44G_ct (B0 := B0) (old := old) (n := n) (H := H') (Q := Q') (p := p) (cb := cb) (mb := mb) (cc := cc) (lim := lim) (win := win) (last := last) (cs := cs) (K := K) hM hl now hn hwn
  unfold contB at hno hQ
  obtain ⟨cp, hcp⟩ : ∃ cp, clV c0 b0 = .pointer cp := by cases c0 <;> exact ⟨_, rfl⟩
  unfold enX at hct ⊢
  rw [hcp] at hct ⊢
  unfold enK at hmv
  generalize tooM lim win now (mv K) = tm at *
  repeat (first | refine Z0 ?_ | (refine ZR ?_; first | refine x1 ?_ | refine x2 ?_ | refine x8 ?_ | refine Z1 ?_ | refine Z2 ?_ | refine x3 fun _ => ?_ | refine x4 fun _ => ?_ | refine x5 fun _ => ?_ | refine Z3 fun _ => ?_ | refine Z4 fun _ => ?_) | refine ZC ?_)
  refine rt_step rfl rfl rfl (st_call rfl rfl rfl rfl (hct ?_))
  generalize (c0.isNone && (r.a3 != 0) && !r.a4) = g at *
  cases g
  · repeat (first | refine Z0 ?_ | (refine ZR ?_; first | refine x1 ?_ | refine x2 ?_ | refine x8 ?_ | refine Z1 ?_ | refine Z2 ?_ | refine x3 fun _ => ?_ | refine x4 fun _ => ?_ | refine x5 fun _ => ?_ | refine Z3 fun _ => ?_ | refine Z4 fun _ => ?_) | refine ZC ?_)
    exact re_2 rfl rfl rfl (List.Sublist.cons _ (List.Sublist.refl _)) (hno rfl)
  · repeat (first | refine Z0 ?_ | (refine ZR ?_; first | refine x1 ?_ | refine x2 ?_ | refine x8 ?_ | refine Z1 ?_ | refine Z2 ?_ | refine x3 fun _ => ?_ | refine x4 fun _ => ?_ | refine x5 fun _ => ?_ | refine Z3 fun _ => ?_ | refine Z4 fun _ => ?_) | refine ZC ?_)
    refine rt_step rfl rfl rfl (st_call rfl rfl rfl rfl (CallT.perm (hmv fun ms' mc' G' hM' => ?_) bk_q))
    refine RunT.perm ?_ bk_q.symm
    repeat (first | refine Z0 ?_ | (refine ZR ?_; first | refine x1 ?_ | refine x2 ?_ | refine x8 ?_ | refine Z1 ?_ | refine Z2 ?_ | refine x3 fun _ => ?_ | refine x4 fun _ => ?_ | refine x5 fun _ => ?_ | refine Z3 fun _ => ?_ | refine Z4 fun _ => ?_) | refine ZC ?_)
    exact re_2 rfl rfl rfl (List.Sublist.cons _ (List.Sublist.refl _)) (hQ rfl _ _ _ hM')
end
end Go.Proofs.Ytoimfchhmocgeaa.Abs

/- The book in general: keys. -/
namespace Go.Proofs.Ytoimfchhmocgeaa.Abs
open Go
set_option linter.unusedVariables false
def SrtR (ks : List Kk) : Prop := (ks.map rkK).Pairwise (· < ·)
theorem srt_pre {a b : List Kk} (h : SrtR (a ++ b)) : SrtR a := by
  unfold SrtR at h ⊢
  rw [List.map_append] at h
  exact (List.pairwise_append.1 h).1
theorem srt_snoc {ks : List Kk} {k l : Kk} {m : Nat} (h : SrtR ks) (hl : ks[m]? = some l) (hm : m + 1 = ks.length) : SrtR (ks ++ [k]) ↔ rkK l < rkK k := by
  unfold SrtR at h ⊢
  rw [List.map_append, List.pairwise_append]
  have hlm : rkK l ∈ ks.map rkK := List.mem_map_of_mem (List.mem_iff_getElem?.2 ⟨m, hl⟩)
  constructor
  · rintro ⟨_, _, h3⟩
    exact h3 _ hlm (rkK k) (by simp)
  · intro hlt
    refine ⟨h, by simp, fun x hx y hy => ?_⟩
    obtain rfl : y = rkK k := by simpa using hy
    obtain ⟨i, hi⟩ := List.mem_iff_getElem?.1 hx
    have hil := (List.getElem?_eq_some_iff.1 hi).1
    rw [List.length_map] at hil
    by_cases him : i = m
    · subst him
      rw [List.getElem?_map, hl] at hi
      cases hi
      exact hlt
    · have hml : (ks.map rkK)[m]? = some (rkK l) := by rw [List.getElem?_map, hl]; rfl
      have := List.pairwise_iff_getElem.1 h i m (by rw [List.length_map]; omega) (by rw [List.length_map]; omega) (by omega)
      rw [List.getElem?_eq_some_iff] at hi hml
      obtain ⟨_, e1⟩ := hi
      obtain ⟨_, e2⟩ := hml
      rw [e1, e2] at this
      omega
theorem srt_one (k : Kk) : SrtR [k] := by unfold SrtR; simp
section
variable {B0 : Nat} {old : Nat → Option (List Value)} {n : Nat} {H : Hp} {Q : Value → Hp → Prop}
set_option maxRecDepth 10000
set_option maxHeartbeats 8000000
theorem keys47G_ct {ad : Option Addr} {c : Nat} {A : List N59} (ha : Arr (cx B0 old) H ad 6 en59 A) (hA : A.length ≤ 1000) (hw : ∀ x ∈ A, okK (kN x)) (hbad : ¬ SrtR (A.map kN) → Q (.tuple #[.slice none 0 0, .bool false]) H)
    (hQ : SrtR (A.map kN) → ∀ v G, Own enK 2 (A.map kN) v G → Q (.tuple #[v, .bool true]) (G ++ H)) :
    CallT (cx B0 old) (acall (cx B0 old) ansP (n + 4)) 47 [.slice ad A.length c, .func (.func 48) #[] #[]] H Q := by
  refine call_in2 38 rfl Try.func47 rfl rfl ?_
  repeat (first | refine Z0 ?_ | (refine ZR ?_; first | refine x1 ?_ | refine x2 ?_ | refine x8 ?_ | refine Z1 ?_ | refine Z2 ?_ | refine x3 fun _ => ?_ | refine x4 fun _ => ?_ | refine x5 fun _ => ?_ | refine Z3 fun _ => ?_ | refine Z4 fun _ => ?_) | refine ZC ?_)
  refine loop_ind (ι := Nat × Value × Hp) (0, .slice none 0 0, []) (fun i => A.length - i.1) (fun i => i.1 ≤ A.length ∧ SrtR ((A.take i.1).map kN) ∧ Own enK 2 ((A.take i.1).map kN) i.2.1 i.2.2)
    (fun i => [(12, .int .i64 (i.1 : Int)), (11, .int .i64 (A.length : Int)), (10, .slice ad A.length c), (6, i.2.1), (1, .func (.func 48) #[] #[])]) (fun i => i.2.2 ++ H) ⟨Nat.zero_le _, List.Pairwise.nil, Own.nil⟩ (by repeat (first | exact SubL.nil | refine SubL.cons rfl ?_)) (List.Sublist.refl _) ?_
  rintro ⟨i, v, G⟩ ⟨hi, hs, ho⟩
  dsimp only at hi hs ho ⊢
  repeat (first | refine Z0 ?_ | (refine ZR ?_; first | refine x1 ?_ | refine x2 ?_ | refine x8 ?_ | refine Z1 ?_ | refine Z2 ?_ | refine x3 fun _ => ?_ | refine x4 fun _ => ?_ | refine x5 fun _ => ?_ | refine Z3 fun _ => ?_ | refine Z4 fun _ => ?_) | refine ZC ?_)
  refine ct_condT te_d rfl (fun hlt => ?_) (fun hlt => ?_)
  rotate_left
  · obtain rfl : i = A.length := by omega
    rw [List.take_length] at ho hs
    have ho2 := ho
    obtain ⟨a1, c1, e1, _⟩ := ho.arrW (C := cx B0 old) enK_len
    subst e1
    repeat (first | refine Z0 ?_ | (refine ZR ?_; first | refine x1 ?_ | refine x2 ?_ | refine x8 ?_ | refine Z1 ?_ | refine Z2 ?_ | refine x3 fun _ => ?_ | refine x4 fun _ => ?_ | refine x5 fun _ => ?_ | refine Z3 fun _ => ?_ | refine Z4 fun _ => ?_) | refine ZC ?_)
    exact re_2 rfl rfl rfl (List.Sublist.refl _) (hQ hs _ _ ho2)
  have hil : i < A.length := by omega
  obtain ⟨x, hx⟩ : ∃ x, A[i]? = some x := ⟨_, List.getElem?_eq_getElem hil⟩
  have hxw := hw x (List.mem_iff_getElem?.2 ⟨i, hx⟩)
  have htk : A.take (i + 1) = A.take i ++ [x] := by rw [List.take_add_one, hx]; rfl
  have hsplit : A.map kN = (A.take (i + 1)).map kN ++ (A.drop (i + 1)).map kN := by rw [← List.map_append, List.take_append_drop]
  have htl : ((A.take i).map kN).length = i := by rw [List.length_map, List.length_take]; omega
  obtain ⟨b1, o1, e1, hL0⟩ := ha.ldW 59 hx rfl (sz rfl)
  subst e1
  obtain ⟨a1, c1, e1, g1⟩ := ho.arrW (C := cx B0 old) enK_len
  subst e1
  rw [htl]
  have hk := fun {H' : Hp} {Q' : Value → Hp → Prop} => key48_ct (B0 := B0) (old := old) (n := n + 2) (H := H') (Q := Q') x
  unfold en59 at hL0 hk
  repeat (first | refine Z0 ?_ | (refine ZR ?_; first | refine x1 ?_ | refine x2 ?_ | refine x8 ?_ | refine Z1 ?_ | refine Z2 ?_ | refine x3 fun _ => ?_ | refine x4 fun _ => ?_ | refine x5 fun _ => ?_ | refine Z3 fun _ => ?_ | refine Z4 fun _ => ?_) | refine ZC ?_)
  refine rt_step rfl rfl rfl (st_call rfl rfl rfl rfl (hk ?_))
  clear hk
  unfold enK
  by_cases hi0 : i = 0
  · subst hi0
    repeat (first | refine Z0 ?_ | (refine ZR ?_; first | refine x1 ?_ | refine x2 ?_ | refine x8 ?_ | refine Z1 ?_ | refine Z2 ?_ | refine x3 fun _ => ?_ | refine x4 fun _ => ?_ | refine x5 fun _ => ?_ | refine Z3 fun _ => ?_ | refine Z4 fun _ => ?_) | refine ZC ?_)
    refine ct_draw (masks := [0, 1, 3, 7, 7, 23, 63, 127, 7, 511, 1023, 2047]) (plan := [0, 1, 2, 3, 4, 5, 6, 7, 8, 9, 10, 11]) (E := []) (by kernel_rfl) (by kernel_rfl) (by kernel_rfl) (by kernel_rfl) ?_
    repeat (first | refine Y0 ?_ | (refine YP ?_; first | refine y1 ?_ | refine y2 ?_ | refine Y1 ?_ | refine Y2 ?_))
    rw [show decide (((0 : Nat) : Int) > 0) = false by decide]
    repeat (first | refine Y0 ?_ | (refine YP ?_; first | refine y1 ?_ | refine y2 ?_ | refine Y1 ?_ | refine Y2 ?_))
    repeat (first | refine Z0 ?_ | (refine ZR ?_; first | refine x1 ?_ | refine x2 ?_ | refine x8 ?_ | refine Z1 ?_ | refine Z2 ?_ | refine x3 fun _ => ?_ | refine x4 fun _ => ?_ | refine x5 fun _ => ?_ | refine Z3 fun _ => ?_ | refine Z4 fun _ => ?_) | refine ZC ?_)
    rw [show (0 : Nat) = ((A.take 0).map kN).length by rw [htl]]
    refine rt_step rfl rfl rfl (st_appP (M := [kN x]) (c := 1) (pre := [_, _, _]) ho enK_len enK_one rfl rfl (ap rfl) (arrW_one (a := kN x) enK_len hm0) (Nat.le_trans (Nat.mul_le_mul_right _ (show 2 * (((A.take 0).map kN).length + [kN x].length) + 192 ≤ 6000 by rw [htl]; simp only [List.length_singleton]; omega)) (by decide)) fun v2 G2 o2 => ?_)
    rw [htl]
    repeat (first | refine Z0 ?_ | (refine ZR ?_; first | refine x1 ?_ | refine x2 ?_ | refine x8 ?_ | refine Z1 ?_ | refine Z2 ?_ | refine x3 fun _ => ?_ | refine x4 fun _ => ?_ | refine x5 fun _ => ?_ | refine Z3 fun _ => ?_ | refine Z4 fun _ => ?_) | refine ZC ?_)
    exact ⟨(0 + 1, v2, G2), ⟨by dsimp only; omega, by dsimp only; rw [htk, List.map_append]; exact srt_one _, by dsimp only; rw [htk, List.map_append]; exact o2⟩, by dsimp only; omega, by repeat (first | exact SubL.nil | refine SubL.cons rfl ?_), by exact drop_auto⟩
  obtain ⟨y, hy⟩ : ∃ y, A[i - 1]? = some y := ⟨_, List.getElem?_eq_getElem (by omega)⟩
  have hyk : ((A.take i).map kN)[i - 1]? = some (kN y) := by rw [List.getElem?_map, List.getElem?_take_of_lt (by omega), hy]; rfl
  have hyw := hw y (List.mem_iff_getElem?.2 ⟨i - 1, hy⟩)
  have hsn := srt_snoc (k := kN x) hs hyk (by rw [htl]; omega)
  have htkm : (A.take (i + 1)).map kN = (A.take i).map kN ++ [kN x] := by rw [htk, List.map_append]; rfl
  have hav : Arr (cx B0 old) (G ++ H) a1 2 enK ((A.take i).map kN) := (g1 [] H).arr enK_len
  obtain ⟨b2, o2, e2, hL1⟩ := hav.ldW 91 hyk rfl (sz rfl)
  subst e2
  rw [show i - 1 = ((i : Int) - 1).toNat by omega] at hL1
  unfold enK at hL1
  have hcmp := fun {H' : Hp} {Q' : Value → Hp → Prop} => key64_ct (B0 := B0) (old := old) (n := n) (H := H') (Q := Q') (kN y) (kN x) hyw hxw
  unfold enK at hcmp
  repeat (first | refine Z0 ?_ | (refine ZR ?_; first | refine x1 ?_ | refine x2 ?_ | refine x8 ?_ | refine Z1 ?_ | refine Z2 ?_ | refine x3 fun _ => ?_ | refine x4 fun _ => ?_ | refine x5 fun _ => ?_ | refine Z3 fun _ => ?_ | refine Z4 fun _ => ?_) | refine ZC ?_)
  refine ct_draw (masks := [0, 1, 3, 7, 7, 23, 63, 127, 7, 511, 1023, 2047]) (plan := [0, 1, 2, 3, 4, 5, 6, 7, 8, 9, 10, 11]) (E := []) (by kernel_rfl) (by kernel_rfl) (by kernel_rfl) (by kernel_rfl) ?_
  repeat (first | refine Y0 ?_ | (refine YP ?_; first | refine y1 ?_ | refine y2 ?_ | refine Y1 ?_ | refine Y2 ?_))
  rw [show decide ((i : Int) > 0) = true from decide_eq_true (by omega)]
  repeat (first | refine Y0 ?_ | (refine YP ?_; first | refine y1 ?_ | refine y2 ?_ | refine Y1 ?_ | refine Y2 ?_))
  refine pl_S rfl rfl rfl rfl rfl rfl (st_call rfl rfl rfl rfl (hcmp fun z hz => ⟨by exact rec_auto, ?_⟩))
  repeat (first | refine Y0 ?_ | (refine YP ?_; first | refine y1 ?_ | refine y2 ?_ | refine Y1 ?_ | refine Y2 ?_))
  repeat (first | refine Z0 ?_ | (refine ZR ?_; first | refine x1 ?_ | refine x2 ?_ | refine x8 ?_ | refine Z1 ?_ | refine Z2 ?_ | refine x3 fun _ => ?_ | refine x4 fun _ => ?_ | refine x5 fun _ => ?_ | refine Z3 fun _ => ?_ | refine Z4 fun _ => ?_) | refine ZC ?_)
  refine ct_condT te_d rfl (fun hz0 => ?_) (fun hz0 => ?_)
  · repeat (first | refine Z0 ?_ | (refine ZR ?_; first | refine x1 ?_ | refine x2 ?_ | refine x8 ?_ | refine Z1 ?_ | refine Z2 ?_ | refine x3 fun _ => ?_ | refine x4 fun _ => ?_ | refine x5 fun _ => ?_ | refine Z3 fun _ => ?_ | refine Z4 fun _ => ?_) | refine ZC ?_)
    exact re_2 rfl rfl rfl (by exact drop_auto) (hbad fun g => by
      rw [hsplit] at g
      have g2 := srt_pre g
      rw [htkm] at g2
      have := hsn.1 g2
      omega)
  · repeat (first | refine Z0 ?_ | (refine ZR ?_; first | refine x1 ?_ | refine x2 ?_ | refine x8 ?_ | refine Z1 ?_ | refine Z2 ?_ | refine x3 fun _ => ?_ | refine x4 fun _ => ?_ | refine x5 fun _ => ?_ | refine Z3 fun _ => ?_ | refine Z4 fun _ => ?_) | refine ZC ?_)
    rw [← htl]
    refine rt_step rfl rfl rfl (st_appP (M := [kN x]) (c := 1) (pre := [_, _, _]) ho enK_len enK_one rfl rfl (ap rfl) (arrW_one (a := kN x) enK_len hm0) (Nat.le_trans (Nat.mul_le_mul_right _ (show 2 * (((A.take i).map kN).length + [kN x].length) + 192 ≤ 6000 by rw [htl]; simp only [List.length_singleton]; omega)) (by decide)) fun v2 G2 o2 => ?_)
    rw [htl]
    repeat (first | refine Z0 ?_ | (refine ZR ?_; first | refine x1 ?_ | refine x2 ?_ | refine x8 ?_ | refine Z1 ?_ | refine Z2 ?_ | refine x3 fun _ => ?_ | refine x4 fun _ => ?_ | refine x5 fun _ => ?_ | refine Z3 fun _ => ?_ | refine Z4 fun _ => ?_) | refine ZC ?_)
    exact ⟨(i + 1, v2, G2), ⟨by dsimp only; omega, by dsimp only; rw [htkm]; exact hsn.2 (by omega), by dsimp only; rw [htkm]; exact o2⟩, by dsimp only; omega, by repeat (first | exact SubL.nil | refine SubL.cons rfl ?_), by exact drop_auto⟩
theorem keys49G_ct {ad : Option Addr} {c : Nat} {A : List S27} (ha : Arr (cx B0 old) H ad 5 en27 A) (hA : A.length ≤ 1000) (hw : ∀ x ∈ A, okK (kR x)) (hbad : ¬ SrtR (A.map kR) → Q (.tuple #[.slice none 0 0, .bool false]) H)
    (hQ : SrtR (A.map kR) → ∀ v G, Own enK 2 (A.map kR) v G → Q (.tuple #[v, .bool true]) (G ++ H)) :
    CallT (cx B0 old) (acall (cx B0 old) ansP (n + 4)) 49 [.slice ad A.length c, .func (.func 50) #[] #[]] H Q := by
  refine call_in2 38 rfl Try.func49 rfl rfl ?_
  repeat (first | refine Z0 ?_ | (refine ZR ?_; first | refine x1 ?_ | refine x2 ?_ | refine x8 ?_ | refine Z1 ?_ | refine Z2 ?_ | refine x3 fun _ => ?_ | refine x4 fun _ => ?_ | refine x5 fun _ => ?_ | refine Z3 fun _ => ?_ | refine Z4 fun _ => ?_) | refine ZC ?_)
  refine loop_ind (ι := Nat × Value × Hp) (0, .slice none 0 0, []) (fun i => A.length - i.1) (fun i => i.1 ≤ A.length ∧ SrtR ((A.take i.1).map kR) ∧ Own enK 2 ((A.take i.1).map kR) i.2.1 i.2.2)
    (fun i => [(12, .int .i64 (i.1 : Int)), (11, .int .i64 (A.length : Int)), (10, .slice ad A.length c), (6, i.2.1), (1, .func (.func 50) #[] #[])]) (fun i => i.2.2 ++ H) ⟨Nat.zero_le _, List.Pairwise.nil, Own.nil⟩ (by repeat (first | exact SubL.nil | refine SubL.cons rfl ?_)) (List.Sublist.refl _) ?_
  rintro ⟨i, v, G⟩ ⟨hi, hs, ho⟩
  dsimp only at hi hs ho ⊢
  repeat (first | refine Z0 ?_ | (refine ZR ?_; first | refine x1 ?_ | refine x2 ?_ | refine x8 ?_ | refine Z1 ?_ | refine Z2 ?_ | refine x3 fun _ => ?_ | refine x4 fun _ => ?_ | refine x5 fun _ => ?_ | refine Z3 fun _ => ?_ | refine Z4 fun _ => ?_) | refine ZC ?_)
  refine ct_condT te_d rfl (fun hlt => ?_) (fun hlt => ?_)
  rotate_left
  · obtain rfl : i = A.length := by omega
    rw [List.take_length] at ho hs
    have ho2 := ho
    obtain ⟨a1, c1, e1, _⟩ := ho.arrW (C := cx B0 old) enK_len
    subst e1
    repeat (first | refine Z0 ?_ | (refine ZR ?_; first | refine x1 ?_ | refine x2 ?_ | refine x8 ?_ | refine Z1 ?_ | refine Z2 ?_ | refine x3 fun _ => ?_ | refine x4 fun _ => ?_ | refine x5 fun _ => ?_ | refine Z3 fun _ => ?_ | refine Z4 fun _ => ?_) | refine ZC ?_)
    exact re_2 rfl rfl rfl (List.Sublist.refl _) (hQ hs _ _ ho2)
  have hil : i < A.length := by omega
  obtain ⟨x, hx⟩ : ∃ x, A[i]? = some x := ⟨_, List.getElem?_eq_getElem hil⟩
  have hxw := hw x (List.mem_iff_getElem?.2 ⟨i, hx⟩)
  have htk : A.take (i + 1) = A.take i ++ [x] := by rw [List.take_add_one, hx]; rfl
  have hsplit : A.map kR = (A.take (i + 1)).map kR ++ (A.drop (i + 1)).map kR := by rw [← List.map_append, List.take_append_drop]
  have htl : ((A.take i).map kR).length = i := by rw [List.length_map, List.length_take]; omega
  obtain ⟨b1, o1, e1, hL0⟩ := ha.ldW 27 hx rfl (sz rfl)
  subst e1
  obtain ⟨a1, c1, e1, g1⟩ := ho.arrW (C := cx B0 old) enK_len
  subst e1
  rw [htl]
  have hk := fun {H' : Hp} {Q' : Value → Hp → Prop} => key50_ct (B0 := B0) (old := old) (n := n + 2) (H := H') (Q := Q') x
  unfold en27 at hL0 hk
  repeat (first | refine Z0 ?_ | (refine ZR ?_; first | refine x1 ?_ | refine x2 ?_ | refine x8 ?_ | refine Z1 ?_ | refine Z2 ?_ | refine x3 fun _ => ?_ | refine x4 fun _ => ?_ | refine x5 fun _ => ?_ | refine Z3 fun _ => ?_ | refine Z4 fun _ => ?_) | refine ZC ?_)
  refine rt_step rfl rfl rfl (st_call rfl rfl rfl rfl (hk ?_))
  clear hk
  unfold enK
  by_cases hi0 : i = 0
  · subst hi0
    repeat (first | refine Z0 ?_ | (refine ZR ?_; first | refine x1 ?_ | refine x2 ?_ | refine x8 ?_ | refine Z1 ?_ | refine Z2 ?_ | refine x3 fun _ => ?_ | refine x4 fun _ => ?_ | refine x5 fun _ => ?_ | refine Z3 fun _ => ?_ | refine Z4 fun _ => ?_) | refine ZC ?_)
    refine ct_draw (masks := [0, 1, 3, 7, 7, 23, 63, 127, 7, 511, 1023, 2047]) (plan := [0, 1, 2, 3, 4, 5, 6, 7, 8, 9, 10, 11]) (E := []) (by kernel_rfl) (by kernel_rfl) (by kernel_rfl) (by kernel_rfl) ?_
    repeat (first | refine Y0 ?_ | (refine YP ?_; first | refine y1 ?_ | refine y2 ?_ | refine Y1 ?_ | refine Y2 ?_))
    rw [show decide (((0 : Nat) : Int) > 0) = false by decide]
    repeat (first | refine Y0 ?_ | (refine YP ?_; first | refine y1 ?_ | refine y2 ?_ | refine Y1 ?_ | refine Y2 ?_))
    repeat (first | refine Z0 ?_ | (refine ZR ?_; first | refine x1 ?_ | refine x2 ?_ | refine x8 ?_ | refine Z1 ?_ | refine Z2 ?_ | refine x3 fun _ => ?_ | refine x4 fun _ => ?_ | refine x5 fun _ => ?_ | refine Z3 fun _ => ?_ | refine Z4 fun _ => ?_) | refine ZC ?_)
    rw [show (0 : Nat) = ((A.take 0).map kR).length by rw [htl]]
    refine rt_step rfl rfl rfl (st_appP (M := [kR x]) (c := 1) (pre := [_, _, _]) ho enK_len enK_one rfl rfl (ap rfl) (arrW_one (a := kR x) enK_len hm0) (Nat.le_trans (Nat.mul_le_mul_right _ (show 2 * (((A.take 0).map kR).length + [kR x].length) + 192 ≤ 6000 by rw [htl]; simp only [List.length_singleton]; omega)) (by decide)) fun v2 G2 o2 => ?_)
    rw [htl]
    repeat (first | refine Z0 ?_ | (refine ZR ?_; first | refine x1 ?_ | refine x2 ?_ | refine x8 ?_ | refine Z1 ?_ | refine Z2 ?_ | refine x3 fun _ => ?_ | refine x4 fun _ => ?_ | refine x5 fun _ => ?_ | refine Z3 fun _ => ?_ | refine Z4 fun _ => ?_) | refine ZC ?_)
    exact ⟨(0 + 1, v2, G2), ⟨by dsimp only; omega, by dsimp only; rw [htk, List.map_append]; exact srt_one _, by dsimp only; rw [htk, List.map_append]; exact o2⟩, by dsimp only; omega, by repeat (first | exact SubL.nil | refine SubL.cons rfl ?_), by exact drop_auto⟩
  obtain ⟨y, hy⟩ : ∃ y, A[i - 1]? = some y := ⟨_, List.getElem?_eq_getElem (by omega)⟩
  have hyk : ((A.take i).map kR)[i - 1]? = some (kR y) := by rw [List.getElem?_map, List.getElem?_take_of_lt (by omega), hy]; rfl
  have hyw := hw y (List.mem_iff_getElem?.2 ⟨i - 1, hy⟩)
  have hsn := srt_snoc (k := kR x) hs hyk (by rw [htl]; omega)
  have htkm : (A.take (i + 1)).map kR = (A.take i).map kR ++ [kR x] := by rw [htk, List.map_append]; rfl
  have hav : Arr (cx B0 old) (G ++ H) a1 2 enK ((A.take i).map kR) := (g1 [] H).arr enK_len
  obtain ⟨b2, o2, e2, hL1⟩ := hav.ldW 91 hyk rfl (sz rfl)
  subst e2
  rw [show i - 1 = ((i : Int) - 1).toNat by omega] at hL1
  unfold enK at hL1
  have hcmp := fun {H' : Hp} {Q' : Value → Hp → Prop} => key64_ct (B0 := B0) (old := old) (n := n) (H := H') (Q := Q') (kR y) (kR x) hyw hxw
  unfold enK at hcmp
  repeat (first | refine Z0 ?_ | (refine ZR ?_; first | refine x1 ?_ | refine x2 ?_ | refine x8 ?_ | refine Z1 ?_ | refine Z2 ?_ | refine x3 fun _ => ?_ | refine x4 fun _ => ?_ | refine x5 fun _ => ?_ | refine Z3 fun _ => ?_ | refine Z4 fun _ => ?_) | refine ZC ?_)
  refine ct_draw (masks := [0, 1, 3, 7, 7, 23, 63, 127, 7, 511, 1023, 2047]) (plan := [0, 1, 2, 3, 4, 5, 6, 7, 8, 9, 10, 11]) (E := []) (by kernel_rfl) (by kernel_rfl) (by kernel_rfl) (by kernel_rfl) ?_
  repeat (first | refine Y0 ?_ | (refine YP ?_; first | refine y1 ?_ | refine y2 ?_ | refine Y1 ?_ | refine Y2 ?_))
  rw [show decide ((i : Int) > 0) = true from decide_eq_true (by omega)]
  repeat (first | refine Y0 ?_ | (refine YP ?_; first | refine y1 ?_ | refine y2 ?_ | refine Y1 ?_ | refine Y2 ?_))
  refine pl_S rfl rfl rfl rfl rfl rfl (st_call rfl rfl rfl rfl (hcmp fun z hz => ⟨by exact rec_auto, ?_⟩))
  repeat (first | refine Y0 ?_ | (refine YP ?_; first | refine y1 ?_ | refine y2 ?_ | refine Y1 ?_ | refine Y2 ?_))
  repeat (first | refine Z0 ?_ | (refine ZR ?_; first | refine x1 ?_ | refine x2 ?_ | refine x8 ?_ | refine Z1 ?_ | refine Z2 ?_ | refine x3 fun _ => ?_ | refine x4 fun _ => ?_ | refine x5 fun _ => ?_ | refine Z3 fun _ => ?_ | refine Z4 fun _ => ?_) | refine ZC ?_)
  refine ct_condT te_d rfl (fun hz0 => ?_) (fun hz0 => ?_)
  · repeat (first | refine Z0 ?_ | (refine ZR ?_; first | refine x1 ?_ | refine x2 ?_ | refine x8 ?_ | refine Z1 ?_ | refine Z2 ?_ | refine x3 fun _ => ?_ | refine x4 fun _ => ?_ | refine x5 fun _ => ?_ | refine Z3 fun _ => ?_ | refine Z4 fun _ => ?_) | refine ZC ?_)
    exact re_2 rfl rfl rfl (by exact drop_auto) (hbad fun g => by
      rw [hsplit] at g
      have g2 := srt_pre g
      rw [htkm] at g2
      have := hsn.1 g2
      omega)
  · repeat (first | refine Z0 ?_ | (refine ZR ?_; first | refine x1 ?_ | refine x2 ?_ | refine x8 ?_ | refine Z1 ?_ | refine Z2 ?_ | refine x3 fun _ => ?_ | refine x4 fun _ => ?_ | refine x5 fun _ => ?_ | refine Z3 fun _ => ?_ | refine Z4 fun _ => ?_) | refine ZC ?_)
    rw [← htl]
    refine rt_step rfl rfl rfl (st_appP (M := [kR x]) (c := 1) (pre := [_, _, _]) ho enK_len enK_one rfl rfl (ap rfl) (arrW_one (a := kR x) enK_len hm0) (Nat.le_trans (Nat.mul_le_mul_right _ (show 2 * (((A.take i).map kR).length + [kR x].length) + 192 ≤ 6000 by rw [htl]; simp only [List.length_singleton]; omega)) (by decide)) fun v2 G2 o2 => ?_)
    rw [htl]
    repeat (first | refine Z0 ?_ | (refine ZR ?_; first | refine x1 ?_ | refine x2 ?_ | refine x8 ?_ | refine Z1 ?_ | refine Z2 ?_ | refine x3 fun _ => ?_ | refine x4 fun _ => ?_ | refine x5 fun _ => ?_ | refine Z3 fun _ => ?_ | refine Z4 fun _ => ?_) | refine ZC ?_)
    exact ⟨(i + 1, v2, G2), ⟨by dsimp only; omega, by dsimp only; rw [htkm]; exact hsn.2 (by omega), by dsimp only; rw [htkm]; exact o2⟩, by dsimp only; omega, by repeat (first | exact SubL.nil | refine SubL.cons rfl ?_), by exact drop_auto⟩
end
end Go.Proofs.Ytoimfchhmocgeaa.Abs

/- The book in general: clean. -/
namespace Go.Proofs.Ytoimfchhmocgeaa.Abs
open Go
set_option linter.unusedVariables false
theorem flt_dec {L vk : List Kk} {k : Kk} (h1 : k ∈ L) (h2 : k ∉ vk) : (L.filter fun j => decide (j ∉ k :: vk)).length < (L.filter fun j => decide (j ∉ vk)).length := by
  have key : ∀ L : List Kk, (L.filter fun j => decide (j ∉ k :: vk)).length ≤ (L.filter fun j => decide (j ∉ vk)).length ∧ (k ∈ L → (L.filter fun j => decide (j ∉ k :: vk)).length < (L.filter fun j => decide (j ∉ vk)).length) := by
    intro L
    induction L with
    | nil => exact ⟨Nat.le_refl _, fun h => by cases h⟩
    | cons a L ih =>
      by_cases hak : a = k
      · subst hak
        have e1 : decide (a ∉ a :: vk) = false := decide_eq_false (by simp)
        have e2 : decide (a ∉ vk) = true := decide_eq_true h2
        rw [List.filter_cons, List.filter_cons, e1, e2]
        simp only [Bool.false_eq_true, if_false, if_true, List.length_cons]
        exact ⟨by omega, fun _ => by omega⟩
      · have e : decide (a ∉ k :: vk) = decide (a ∉ vk) := by rw [decide_eq_decide]; simp [hak]
        rw [List.filter_cons, List.filter_cons, e]
        have hm : k ∈ a :: L → k ∈ L := fun h => by
          rcases List.mem_cons.1 h with rfl | h
          · exact absurd rfl hak
          · exact h
        cases decide (a ∉ vk)
        · simp only [Bool.false_eq_true, if_false]
          exact ⟨ih.1, fun h => ih.2 (hm h)⟩
        · simp only [if_true, List.length_cons]
          exact ⟨by omega, fun h => by have := ih.2 (hm h); omega⟩
  exact (key L).2 h1
/-- Births of visited entries. -/
def Seen (ms : List (Kk × Nat × Nat)) (vk : List Kk) (vs : List Nat) : Prop := ∀ p ∈ ms, p.2.2 ∈ vs ↔ p.1 ∈ vk
theorem Seen.nil (ms : List (Kk × Nat × Nat)) : Seen ms [] [] := fun p _ => by simp
theorem Seen.cons {ms : List (Kk × Nat × Nat)} {vk : List Kk} {vs : List Nat} {c : Nat} (h : Seen ms vk vs) (hb : Born ms c) (hu : Uq ms) {p : Kk × Nat × Nat} (hp : p ∈ ms) : Seen ms (p.1 :: vk) (vs ++ [p.2.2]) := fun q hq => by
  have inj : ∀ {β : Type} {f : Kk × Nat × Nat → β} {L : List (Kk × Nat × Nat)}, (L.map f).Nodup → ∀ {x y}, x ∈ L → y ∈ L → f x = f y → x = y := by
    intro β f L
    induction L with
    | nil => intro _ x y hx; cases hx
    | cons a l ih =>
      intro hn x y hx hy e
      rw [List.map_cons, List.nodup_cons] at hn
      rcases List.mem_cons.1 hx with h1 | h1 <;> rcases List.mem_cons.1 hy with h2 | h2
      · rw [h1, h2]
      · exact absurd (by rw [← h1, e]; exact List.mem_map_of_mem h2) hn.1
      · exact absurd (by rw [← h2, ← e]; exact List.mem_map_of_mem h1) hn.1
      · exact ih hn.2 h1 h2 e
  rw [List.mem_append, List.mem_singleton, List.mem_cons, h q hq]
  constructor
  · rintro (h1 | h1)
    · exact .inr h1
    · exact .inl (by rw [inj (f := fun p : Kk × Nat × Nat => p.2.2) hb.nd hq hp h1])
  · rintro (h1 | h1)
    · exact .inr (by rw [inj (f := fun p : Kk × Nat × Nat => p.1) hu hq hp h1])
    · exact .inl h1
theorem Seen.sub {ms ms' : List (Kk × Nat × Nat)} {vk : List Kk} {vs : List Nat} (h : Seen ms vk vs) (hs : ∀ p ∈ ms', p ∈ ms) : Seen ms' vk vs := fun p hp => h p (hs p hp)
theorem del_sub {ms : List (Kk × Nat × Nat)} (hu : Uq ms) (k : Kk) : ∀ p ∈ delH ms k, p ∈ ms := fun p hp => by
  rw [del_eq hu] at hp
  exact (List.mem_filter.1 hp).1
theorem gb_c {x i h a b c : Nat × AObj} {V C M R H : Hp} (hp : M.Perm ((x :: V) ++ R)) : (x :: (V ++ ([i, h, a, b, c] ++ (C ++ (R ++ H))))).Perm (i :: h :: a :: b :: c :: (C ++ (M ++ H))) := by
  have h1 : ((x :: V) ++ (i :: h :: a :: b :: c :: (C ++ (R ++ H)))).Perm (i :: h :: a :: b :: c :: (C ++ ((x :: V) ++ (R ++ H)))) := List.perm_append_comm_assoc (x :: V) (i :: h :: a :: b :: c :: C) (R ++ H)
  have h2 : ((x :: V) ++ (R ++ H)).Perm (M ++ H) := by
    have := hp.symm.append_right H
    rwa [List.append_assoc] at this
  exact h1.trans (List.Perm.append_left (i :: h :: a :: b :: c :: C) h2)
theorem gb_d {t i h a b c : Nat × AObj} {C X R H : Hp} (hp : C.Perm (X ++ R)) : (t :: i :: h :: a :: b :: c :: (X ++ (R ++ H))).Perm (t :: i :: h :: a :: b :: c :: (C ++ H)) := by
  have h2 : (X ++ (R ++ H)).Perm (C ++ H) := by
    have := hp.symm.append_right H
    rwa [List.append_assoc] at this
  exact List.Perm.append_left [t, i, h, a, b, c] h2
section
variable {B0 : Nat} {old : Nat → Option (List Value)} {n : Nat} {H CG MG : Hp} {Q : Value → Hp → Prop} {p cb mb cc mc : Nat} {lim win last : Int} {cs ms : List (Kk × Nat × Nat)} {cl : Kk → Option (Int × Bool)} {mv : Kk → Option (List Int × Bool)}
set_option maxRecDepth 10000
set_option maxHeartbeats 16000000
theorem clean51G_ct (hC : ClG cl cs cc CG) (hM : MvG mv ms mc MG) (hl : ∀ k, lenM (mv k) ≤ 2000) (ks : List Kk) (hkl : ks.length ≤ 1000) {ad : Option Addr} {c : Nat} (ha : Arr (cx B0 old) H ad 2 enK ks) (now : Int) (hn : 0 ≤ now ∧ now ≤ 1099511627776) (hwn : 0 ≤ win ∧ win ≤ 100000)
    (hQ : ∀ w cs' cc' CG' ms' mc' MG', ClG (fun k => if k ∈ ks then cl k else none) cs' cc' CG' → MvG (fun k => clM win now (mv k)) ms' mc' MG' → Q w ((p, AObj.row [.int .i64 lim, .int .i64 win, .int .i64 last, .map (some cb), .map (some mb)] 5 false) :: (cb, AObj.map (mkH ekM evP cs') cc') :: (mb, AObj.map (mkH ekM evP ms') mc') :: (CG' ++ (MG' ++ H)))) :
    CallT (cx B0 old) (acall (cx B0 old) ansP (n + 5)) 51 [.pointer (some ⟨p, 0, none⟩), .slice ad ks.length c, .int .i64 now] ((p, AObj.row [.int .i64 lim, .int .i64 win, .int .i64 last, .map (some cb), .map (some mb)] 5 false) :: (cb, AObj.map (mkH ekM evP cs) cc) :: (mb, AObj.map (mkH ekM evP ms) mc) :: (CG ++ (MG ++ H))) Q := by
  refine call_in3 78 rfl Try.func51 rfl rfl ?_
  repeat (first | refine Z0 ?_ | (refine ZR ?_; first | refine x1 ?_ | refine x2 ?_ | refine x8 ?_ | refine Z1 ?_ | refine Z2 ?_ | refine x3 fun _ => ?_ | refine x4 fun _ => ?_ | refine x5 fun _ => ?_ | refine Z3 fun _ => ?_ | refine Z4 fun _ => ?_) | refine ZC ?_)
  rename_i hb
  refine ct_midB (ι := List (Kk × Bool × Nat) × Nat) (fun t => Uq t.1 ∧ ∀ k, lkH t.1 k = if k ∈ ks then some true else none) (fun _ => [(6, .map (some hb)), (2, .int .i64 now), (0, .pointer (some ⟨p, 0, none⟩))]) (fun t => (hb, AObj.map (mkH ekM evB t.1) t.2) :: ((p, AObj.row [.int .i64 lim, .int .i64 win, .int .i64 last, .map (some cb), .map (some mb)] 5 false) :: (cb, AObj.map (mkH ekM evP cs) cc) :: (mb, AObj.map (mkH ekM evP ms) mc) :: (CG ++ (MG ++ H)))) ?_ ?_
  · refine loop_ind (ι := Nat × List (Kk × Bool × Nat) × Nat) (0, [], 0) (fun i => ks.length - i.1) (fun i => i.1 ≤ ks.length ∧ Uq i.2.1 ∧ ∀ k, lkH i.2.1 k = if k ∈ ks.take i.1 then some true else none)
      (fun i => [(17, .int .i64 (i.1 : Int)), (16, .int .i64 (ks.length : Int)), (15, .slice ad ks.length c), (6, .map (some hb)), (2, .int .i64 now), (0, .pointer (some ⟨p, 0, none⟩))]) (fun i => (hb, AObj.map (mkH ekM evB i.2.1) i.2.2) :: ((p, AObj.row [.int .i64 lim, .int .i64 win, .int .i64 last, .map (some cb), .map (some mb)] 5 false) :: (cb, AObj.map (mkH ekM evP cs) cc) :: (mb, AObj.map (mkH ekM evP ms) mc) :: (CG ++ (MG ++ H))))
      ⟨Nat.zero_le _, List.nodup_nil, fun k => rfl⟩ (by repeat (first | exact SubL.nil | refine SubL.cons rfl ?_)) (List.Sublist.refl _) ?_
    rintro ⟨i, hs, hc⟩ ⟨hi, hu, hlk⟩
    dsimp only at hi hu hlk ⊢
    repeat (first | refine Z0 ?_ | (refine ZR ?_; first | refine x1 ?_ | refine x2 ?_ | refine x8 ?_ | refine Z1 ?_ | refine Z2 ?_ | refine x3 fun _ => ?_ | refine x4 fun _ => ?_ | refine x5 fun _ => ?_ | refine Z3 fun _ => ?_ | refine Z4 fun _ => ?_) | refine ZC ?_)
    refine ct_condT te_d rfl (fun hlt => ?_) (fun hlt => ?_)
    rotate_left
    · obtain rfl : i = ks.length := by omega
      rw [List.take_length] at hlk
      repeat (first | refine Z0 ?_ | (refine ZR ?_; first | refine x1 ?_ | refine x2 ?_ | refine x8 ?_ | refine Z1 ?_ | refine Z2 ?_ | refine x3 fun _ => ?_ | refine x4 fun _ => ?_ | refine x5 fun _ => ?_ | refine Z3 fun _ => ?_ | refine Z4 fun _ => ?_) | refine ZC ?_)
      exact ⟨(hs, hc), ⟨hu, hlk⟩, by repeat (first | exact SubL.nil | refine SubL.cons rfl ?_), by exact drop_auto⟩
    obtain ⟨x, hx⟩ : ∃ x, ks[i]? = some x := ⟨_, List.getElem?_eq_getElem (by omega)⟩
    have htk : ks.take (i + 1) = ks.take i ++ [x] := by rw [List.take_add_one, hx]; rfl
    obtain ⟨b1, o1, e1, hL0⟩ := ha.ldW 91 hx rfl (sz rfl)
    subst e1
    unfold enK at hL0
    repeat (first | refine Z0 ?_ | (refine ZR ?_; first | refine x1 ?_ | refine x2 ?_ | refine x8 ?_ | refine Z1 ?_ | refine Z2 ?_ | refine x3 fun _ => ?_ | refine x4 fun _ => ?_ | refine x5 fun _ => ?_ | refine Z3 fun _ => ?_ | refine Z4 fun _ => ?_) | refine ZC ?_)
    refine rt_step0 rfl rfl (st_update rfl rfl rfl (updE_K keyMapH hs hc x true) sw1 ?_)
    repeat (first | refine Z0 ?_ | (refine ZR ?_; first | refine x1 ?_ | refine x2 ?_ | refine x8 ?_ | refine Z1 ?_ | refine Z2 ?_ | refine x3 fun _ => ?_ | refine x4 fun _ => ?_ | refine x5 fun _ => ?_ | refine Z3 fun _ => ?_ | refine Z4 fun _ => ?_) | refine ZC ?_)
    refine ⟨(i + 1, updH hs hc x true, updC hs hc x), ⟨by dsimp only; omega, hu.upd, fun k => ?_⟩, by dsimp only; omega, by repeat (first | exact SubL.nil | refine SubL.cons rfl ?_), by exact drop_auto⟩
    dsimp only
    rw [lkH_upd hu, hlk k, htk]
    by_cases hkx : k = x
    · rw [if_pos hkx, if_pos (by simp [hkx])]
    · rw [if_neg hkx]
      by_cases hm : k ∈ ks.take i
      · rw [if_pos hm, if_pos (List.mem_append_left _ hm)]
      · rw [if_neg hm, if_neg (by simp [hm, hkx])]
  rintro ⟨hs, hc⟩ ⟨hu, hlk⟩
  dsimp only at hu hlk ⊢
  repeat (first | refine Z0 ?_ | (refine ZR ?_; first | refine x1 ?_ | refine x2 ?_ | refine x8 ?_ | refine Z1 ?_ | refine Z2 ?_ | refine x3 fun _ => ?_ | refine x4 fun _ => ?_ | refine x5 fun _ => ?_ | refine Z3 fun _ => ?_ | refine Z4 fun _ => ?_) | refine ZC ?_)
  refine rt_step rfl rfl rfl (st_range rfl hm2 rfl fun it => ?_)
  repeat (first | refine Z0 ?_ | (refine ZR ?_; first | refine x1 ?_ | refine x2 ?_ | refine x8 ?_ | refine Z1 ?_ | refine Z2 ?_ | refine x3 fun _ => ?_ | refine x4 fun _ => ?_ | refine x5 fun _ => ?_ | refine Z3 fun _ => ?_ | refine Z4 fun _ => ?_) | refine ZC ?_)
  refine ct_midB (ι := List (Kk × Nat × Nat) × Hp) (fun j => ClG (fun k => if k ∈ ks then cl k else none) j.1 cc j.2) (fun _ => [(2, .int .i64 now), (0, .pointer (some ⟨p, 0, none⟩))]) (fun j => ((p, AObj.row [.int .i64 lim, .int .i64 win, .int .i64 last, .map (some cb), .map (some mb)] 5 false) :: (cb, AObj.map (mkH ekM evP j.1) cc) :: (mb, AObj.map (mkH ekM evP ms) mc) :: (j.2 ++ (MG ++ H)))) ?_ ?_
  · refine loop_ind (ι := List Kk × List Nat × List (Kk × Nat × Nat) × Hp) ([], [], cs, CG) (fun j => ((cs.map (·.1)).filter fun k => decide (k ∉ j.1)).length) (fun j => ClG (fun k => if k ∈ j.1 ∧ k ∉ ks then none else cl k) j.2.2.1 cc j.2.2.2 ∧ Seen j.2.2.1 j.1 j.2.1)
      (fun j => [(28, .pointer (some ⟨it, 0, none⟩)), (6, .map (some hb)), (2, .int .i64 now), (0, .pointer (some ⟨p, 0, none⟩))])
      (fun j => (it, .iter (some cb) cc j.2.1 cc) :: (hb, AObj.map (mkH ekM evB hs) hc) :: ((p, AObj.row [.int .i64 lim, .int .i64 win, .int .i64 last, .map (some cb), .map (some mb)] 5 false) :: (cb, AObj.map (mkH ekM evP j.2.2.1) cc) :: (mb, AObj.map (mkH ekM evP ms) mc) :: (j.2.2.2 ++ (MG ++ H)))) ⟨hC.congr fun k => by rw [if_neg (fun h => by cases h.1)], Seen.nil _⟩ (by repeat (first | exact SubL.nil | refine SubL.cons rfl ?_)) (List.Sublist.refl _) ?_
    rintro ⟨vk, vs, cs1, CG1⟩ ⟨hI, hsn⟩
    dsimp only at hI hsn ⊢
    repeat (first | refine Z0 ?_ | (refine ZR ?_; first | refine x1 ?_ | refine x2 ?_ | refine x8 ?_ | refine Z1 ?_ | refine Z2 ?_ | refine x3 fun _ => ?_ | refine x4 fun _ => ?_ | refine x5 fun _ => ?_ | refine Z3 fun _ => ?_ | refine Z4 fun _ => ?_) | refine ZC ?_)
    refine rt_step rfl rfl rfl (st_nextH rfl hm2 hI.born (fun hall => ?_) (fun q hq hnq => ?_))
    · repeat (first | refine Z0 ?_ | (refine ZR ?_; first | refine x1 ?_ | refine x2 ?_ | refine x8 ?_ | refine Z1 ?_ | refine Z2 ?_ | refine x3 fun _ => ?_ | refine x4 fun _ => ?_ | refine x5 fun _ => ?_ | refine Z3 fun _ => ?_ | refine Z4 fun _ => ?_) | refine ZC ?_)
      refine ⟨(cs1, CG1), hI.congr fun k => ?_, by repeat (first | exact SubL.nil | refine SubL.cons rfl ?_), by exact drop_auto⟩
      by_cases hk : k ∈ ks
      · rw [if_pos hk, if_neg (fun h => h.2 hk)]
      · rw [if_neg hk]
        by_cases hv : k ∈ vk
        · rw [if_pos ⟨hv, hk⟩]
        · rw [if_neg (fun h => hv h.1)]
          cases hck : cl k with
          | none => rfl
          | some a =>
            obtain ⟨b, n, hm⟩ := hI.dom k a (by rw [if_neg (fun h => hv h.1)]; exact hck)
            exact absurd ((hsn _ hm).1 (hall _ hm)) hv
    obtain ⟨k, b, bo⟩ := q
    dsimp only at hnq ⊢
    have hkv : k ∉ vk := fun h => hnq ((hsn _ hq).2 h)
    obtain ⟨a, hka⟩ := hI.mem hq
    have hck : cl k = some a := by rw [if_neg (fun h => hkv h.1)] at hka; exact hka
    obtain ⟨b9, n9, hm9⟩ := hC.dom k a hck
    have hk0 : k ∈ cs.map (·.1) := List.mem_map.2 ⟨_, hm9, rfl⟩
    have hdec := flt_dec hk0 hkv
    have hsn2 := hsn.cons hI.born hI.uq hq
    rw [ekM_eq, evP_eq]
    repeat (first | refine Z0 ?_ | (refine ZR ?_; first | refine x1 ?_ | refine x2 ?_ | refine x8 ?_ | refine Z1 ?_ | refine Z2 ?_ | refine x3 fun _ => ?_ | refine x4 fun _ => ?_ | refine x5 fun _ => ?_ | refine Z3 fun _ => ?_ | refine Z4 fun _ => ?_) | refine ZC ?_)
    refine rt_r rfl rfl rfl (rd_entryH (vs := vs) (p := (k, b, bo)) rfl hm0 hm3 hI.born hq) ?_
    dsimp only
    rw [ekM_eq, evP_eq]
    repeat (first | refine Z0 ?_ | (refine ZR ?_; first | refine x1 ?_ | refine x2 ?_ | refine x8 ?_ | refine Z1 ?_ | refine Z2 ?_ | refine x3 fun _ => ?_ | refine x4 fun _ => ?_ | refine x5 fun _ => ?_ | refine Z3 fun _ => ?_ | refine Z4 fun _ => ?_) | refine ZC ?_)
    have hlu := lookE_K (C := cx B0 old) (ev := evB) keyMapH hs k false
    rw [ekM_eq, hlk k] at hlu
    by_cases hkk : k ∈ ks
    · rw [if_pos hkk] at hlu
      dsimp only at hlu
      rw [if_neg (by decide)] at hlu
      unfold evB at hlu
      refine rt_r rfl rfl rfl (rd_lookup rfl rfl hm2 hlu) ?_
      repeat (first | refine Z0 ?_ | (refine ZR ?_; first | refine x1 ?_ | refine x2 ?_ | refine x8 ?_ | refine Z1 ?_ | refine Z2 ?_ | refine x3 fun _ => ?_ | refine x4 fun _ => ?_ | refine x5 fun _ => ?_ | refine Z3 fun _ => ?_ | refine Z4 fun _ => ?_) | refine ZC ?_)
      exact ⟨(k :: vk, vs ++ [bo], cs1, CG1), ⟨hI.congr fun j => by
        by_cases hj : j = k
        · subst hj; rw [if_neg (fun h => h.2 hkk), if_neg (fun h => h.2 hkk)]
        · have : (j ∈ k :: vk ∧ j ∉ ks) ↔ (j ∈ vk ∧ j ∉ ks) := by simp [hj]
          simp only [this], hsn2⟩, hdec, by repeat (first | exact SubL.nil | refine SubL.cons rfl ?_), by exact drop_auto⟩
    · rw [if_neg hkk] at hlu
      dsimp only at hlu
      rw [if_neg (by decide)] at hlu
      refine rt_r rfl rfl rfl (rd_lookup rfl rfl hm2 hlu) ?_
      obtain ⟨_, Ga, R, _, _, hpm, _, hdl, _⟩ := hI.look hka
      repeat (first | refine Z0 ?_ | (refine ZR ?_; first | refine x1 ?_ | refine x2 ?_ | refine x8 ?_ | refine Z1 ?_ | refine Z2 ?_ | refine x3 fun _ => ?_ | refine x4 fun _ => ?_ | refine x5 fun _ => ?_ | refine Z3 fun _ => ?_ | refine Z4 fun _ => ?_) | refine ZC ?_)
      refine ct_draw (masks := [0, 1, 3, 7, 0, 31]) (plan := [0, 1, 2, 3, 4, 5]) (E := []) (by kernel_rfl) (by kernel_rfl) (by kernel_rfl) (by kernel_rfl) ?_
      repeat (first | refine Y0 ?_ | (refine YP ?_; first | refine y1 ?_ | refine y2 ?_ | refine Y1 ?_ | refine Y2 ?_))
      refine pl_S0 rfl rfl rfl rfl rfl (st_delete rfl rfl (delE_K keyMapC cs1 k) sw4 ⟨by exact rec_auto, ?_⟩)
      refine PlanT.perm ?_ (gb_d hpm)
      repeat (first | refine Y0 ?_ | (refine YP ?_; first | refine y1 ?_ | refine y2 ?_ | refine Y1 ?_ | refine Y2 ?_))
      repeat (first | refine Z0 ?_ | (refine ZR ?_; first | refine x1 ?_ | refine x2 ?_ | refine x8 ?_ | refine Z1 ?_ | refine Z2 ?_ | refine x3 fun _ => ?_ | refine x4 fun _ => ?_ | refine x5 fun _ => ?_ | refine Z3 fun _ => ?_ | refine Z4 fun _ => ?_) | refine ZC ?_)
      exact ⟨(k :: vk, vs ++ [bo], delH cs1 k, R), ⟨hdl.congr fun j => by
        by_cases hj : j = k
        · subst hj; rw [updF_eq, if_pos ⟨List.mem_cons_self .., hkk⟩]
        · rw [updF_ne _ _ hj]
          have : (j ∈ k :: vk ∧ j ∉ ks) ↔ (j ∈ vk ∧ j ∉ ks) := by simp [hj]
          simp only [this], hsn2.sub (del_sub hI.uq k)⟩, hdec, by repeat (first | exact SubL.nil | refine SubL.cons rfl ?_), by exact drop_auto⟩
  clear hC
  rintro ⟨cs', CG'⟩ hC'
  dsimp only at hC' ⊢
  repeat (first | refine Z0 ?_ | (refine ZR ?_; first | refine x1 ?_ | refine x2 ?_ | refine x8 ?_ | refine Z1 ?_ | refine Z2 ?_ | refine x3 fun _ => ?_ | refine x4 fun _ => ?_ | refine x5 fun _ => ?_ | refine Z3 fun _ => ?_ | refine Z4 fun _ => ?_) | refine ZC ?_)
  refine rt_step rfl rfl rfl (st_range rfl hm2 rfl fun it2 => ?_)
  repeat (first | refine Z0 ?_ | (refine ZR ?_; first | refine x1 ?_ | refine x2 ?_ | refine x8 ?_ | refine Z1 ?_ | refine Z2 ?_ | refine x3 fun _ => ?_ | refine x4 fun _ => ?_ | refine x5 fun _ => ?_ | refine Z3 fun _ => ?_ | refine Z4 fun _ => ?_) | refine ZC ?_)
  refine loop_ind (ι := List Kk × List Nat × List (Kk × Nat × Nat) × Hp) ([], [], ms, MG) (fun j => ((ms.map (·.1)).filter fun k => decide (k ∉ j.1)).length) (fun j => MvG (fun k => if k ∈ j.1 then clM win now (mv k) else mv k) j.2.2.1 mc j.2.2.2 ∧ Seen j.2.2.1 j.1 j.2.1)
    (fun j => [(46, .pointer (some ⟨it2, 0, none⟩)), (2, .int .i64 now), (0, .pointer (some ⟨p, 0, none⟩))])
    (fun j => (it2, .iter (some mb) mc j.2.1 mc) :: ((p, AObj.row [.int .i64 lim, .int .i64 win, .int .i64 last, .map (some cb), .map (some mb)] 5 false) :: (cb, AObj.map (mkH ekM evP cs') cc) :: (mb, AObj.map (mkH ekM evP j.2.2.1) mc) :: (CG' ++ (j.2.2.2 ++ H)))) ⟨hM.congr fun k => by rw [if_neg (fun h => by cases h)], Seen.nil _⟩ (by repeat (first | exact SubL.nil | refine SubL.cons rfl ?_)) (List.Sublist.refl _) ?_
  rintro ⟨vk, vs, ms1, MG1⟩ ⟨hI, hsn⟩
  dsimp only at hI hsn ⊢
  repeat (first | refine Z0 ?_ | (refine ZR ?_; first | refine x1 ?_ | refine x2 ?_ | refine x8 ?_ | refine Z1 ?_ | refine Z2 ?_ | refine x3 fun _ => ?_ | refine x4 fun _ => ?_ | refine x5 fun _ => ?_ | refine Z3 fun _ => ?_ | refine Z4 fun _ => ?_) | refine ZC ?_)
  refine rt_step rfl rfl rfl (st_nextH rfl hm2 hI.born (fun hall => ?_) (fun q hq hnq => ?_))
  · repeat (first | refine Z0 ?_ | (refine ZR ?_; first | refine x1 ?_ | refine x2 ?_ | refine x8 ?_ | refine Z1 ?_ | refine Z2 ?_ | refine x3 fun _ => ?_ | refine x4 fun _ => ?_ | refine x5 fun _ => ?_ | refine Z3 fun _ => ?_ | refine Z4 fun _ => ?_) | refine ZC ?_)
    refine re_0 rfl (by exact drop_auto) (fun w => hQ w cs' cc CG' ms1 mc MG1 hC' (hI.congr fun k => ?_))
    by_cases hv : k ∈ vk
    · rw [if_pos hv]
    · rw [if_neg hv]
      cases hmk : mv k with
      | none => rfl
      | some a =>
        obtain ⟨b, n, hm⟩ := hI.dom k a (by rw [if_neg hv]; exact hmk)
        exact absurd ((hsn _ hm).1 (hall _ hm)) hv
  obtain ⟨k, b, bo⟩ := q
  dsimp only at hnq ⊢
  have hkv : k ∉ vk := fun h => hnq ((hsn _ hq).2 h)
  obtain ⟨⟨L, f⟩, hka⟩ := hI.mem hq
  have hmk : mv k = some (L, f) := by rw [if_neg hkv] at hka; exact hka
  obtain ⟨b9, n9, hm9⟩ := hM.dom k _ hmk
  have hk0 : k ∈ ms.map (·.1) := List.mem_map.2 ⟨_, hm9, rfl⟩
  have hdec := flt_dec hk0 hkv
  have hsn2 := hsn.cons hI.born hI.uq hq
  have hlL : L.length ≤ 2000 := by
    have := hl k
    rw [hmk] at this
    exact this
  obtain ⟨b2, Ga, R, hb2, ⟨v, Gv, ho, rfl⟩, hpm, hch, hdl, _⟩ := hI.look hka
  dsimp only at ho hpm hch
  obtain rfl : b2 = b := Option.some.inj (hb2.symm.trans (hI.uq.lkH hq))
  have hclm : clM win now (mv k) = if (L.filter (keepT (now - win))).length = 0 ∧ f = false then none else some (L.filter (keepT (now - win)), f) := by rw [hmk]; rfl
  rw [ekM_eq, evP_eq]
  repeat (first | refine Z0 ?_ | (refine ZR ?_; first | refine x1 ?_ | refine x2 ?_ | refine x8 ?_ | refine Z1 ?_ | refine Z2 ?_ | refine x3 fun _ => ?_ | refine x4 fun _ => ?_ | refine x5 fun _ => ?_ | refine Z3 fun _ => ?_ | refine Z4 fun _ => ?_) | refine ZC ?_)
  refine rt_r rfl rfl rfl (rd_entryH (vs := vs) (p := (k, b2, bo)) rfl hm0 hm3 hI.born hq) ?_
  dsimp only
  rw [ekM_eq, evP_eq]
  repeat (first | refine Z0 ?_ | (refine ZR ?_; first | refine x1 ?_ | refine x2 ?_ | refine x8 ?_ | refine Z1 ?_ | refine Z2 ?_ | refine x3 fun _ => ?_ | refine x4 fun _ => ?_ | refine x5 fun _ => ?_ | refine Z3 fun _ => ?_ | refine Z4 fun _ => ?_) | refine ZC ?_)
  obtain ⟨F, hF⟩ : ∃ F, List.filter (keepT (now - win)) L = F := ⟨_, rfl⟩
  have hfl : F.length ≤ 2000 := by rw [← hF]; exact Nat.le_trans (List.length_filter_le _ _) hlL
  rw [hF] at hclm
  refine rt_step rfl rfl rfl (st_call rfl rfl rfl rfl (CallT.perm (forget63_ct (H := [_, _, _, _, _] ++ (CG' ++ (R ++ H))) ho (by omega) (now - win) fun w v' G' o' => ?_) (gb_c hpm)))
  rw [hF] at o'
  have o2 := o'
  obtain ⟨ad2, c2, ev2, _⟩ := o'.own.arrW (C := cx B0 old) enV_len
  subst ev2
  refine RunT.perm ?_ (List.perm_append_comm_assoc ((b2, _) :: G') ([_, _, _, _, _] ++ CG') (R ++ H)).symm
  have hL0 : ∀ H', (((b2, AObj.row [.slice ad2 F.length c2, .bool f] 2 false) :: G') ++ (R ++ H)).Sublist H' → LdT (cx B0 old) 62 H' b2 0 (.slice ad2 F.length c2) := fun H' hs => ld1 (.own _ _ (hs.subset (List.Mem.head _))) rfl (sz rfl) rfl
  have hL1 : ∀ H', (((b2, AObj.row [.slice ad2 F.length c2, .bool f] 2 false) :: G') ++ (R ++ H)).Sublist H' → LdT (cx B0 old) 4 H' b2 1 (.bool f) := fun H' hs => ld1 (.own _ _ (hs.subset (List.Mem.head _))) rfl (sz rfl) rfl
  repeat (first | refine Z0 ?_ | (refine ZR ?_; first | refine x1 ?_ | refine x2 ?_ | refine x8 ?_ | refine Z1 ?_ | refine Z2 ?_ | refine x3 fun _ => ?_ | refine x4 fun _ => ?_ | refine x5 fun _ => ?_ | refine Z3 fun _ => ?_ | refine Z4 fun _ => ?_) | refine ZC ?_)
  have keep : ¬ (F.length = 0 ∧ f = false) → MvG (fun j => if j ∈ k :: vk then clM win now (mv j) else mv j) ms1 mc (((b2, .row [.slice ad2 F.length c2, .bool f] 2 false) :: G') ++ R) := fun h => (hch (F, f) _ ⟨_, G', o2, rfl⟩).congr fun j => by
    by_cases hj : j = k
    · subst hj
      rw [updF_eq, if_pos (List.mem_cons_self ..), hclm, if_neg h]
    · rw [updF_ne _ _ hj]
      have : (j ∈ k :: vk) ↔ (j ∈ vk) := by simp [hj]
      simp only [this]
  by_cases h0 : F.length = 0
  · rw [show ((F.length : Int) == 0) = true by rw [h0]; rfl]
    repeat (first | refine Z0 ?_ | (refine ZR ?_; first | refine x1 ?_ | refine x2 ?_ | refine x8 ?_ | refine Z1 ?_ | refine Z2 ?_ | refine x3 fun _ => ?_ | refine x4 fun _ => ?_ | refine x5 fun _ => ?_ | refine Z3 fun _ => ?_ | refine Z4 fun _ => ?_) | refine ZC ?_)
    cases f
    · repeat (first | refine Z0 ?_ | (refine ZR ?_; first | refine x1 ?_ | refine x2 ?_ | refine x8 ?_ | refine Z1 ?_ | refine Z2 ?_ | refine x3 fun _ => ?_ | refine x4 fun _ => ?_ | refine x5 fun _ => ?_ | refine Z3 fun _ => ?_ | refine Z4 fun _ => ?_) | refine ZC ?_)
      refine ct_draw (masks := [0, 1, 3, 7, 0, 31]) (plan := [0, 1, 2, 3, 4, 5]) (E := []) (by kernel_rfl) (by kernel_rfl) (by kernel_rfl) (by kernel_rfl) ?_
      repeat (first | refine Y0 ?_ | (refine YP ?_; first | refine y1 ?_ | refine y2 ?_ | refine Y1 ?_ | refine Y2 ?_))
      refine pl_S0 rfl rfl rfl rfl rfl (st_delete rfl rfl (delE_K keyMapM ms1 k) sw4 ⟨by exact rec_auto, ?_⟩)
      repeat (first | refine Y0 ?_ | (refine YP ?_; first | refine y1 ?_ | refine y2 ?_ | refine Y1 ?_ | refine Y2 ?_))
      repeat (first | refine Z0 ?_ | (refine ZR ?_; first | refine x1 ?_ | refine x2 ?_ | refine x8 ?_ | refine Z1 ?_ | refine Z2 ?_ | refine x3 fun _ => ?_ | refine x4 fun _ => ?_ | refine x5 fun _ => ?_ | refine Z3 fun _ => ?_ | refine Z4 fun _ => ?_) | refine ZC ?_)
      exact ⟨(k :: vk, vs ++ [bo], delH ms1 k, R), ⟨hdl.congr fun j => by
        by_cases hj : j = k
        · subst hj
          rw [updF_eq, if_pos (List.mem_cons_self ..), hclm, if_pos ⟨h0, rfl⟩]
        · rw [updF_ne _ _ hj]
          have : (j ∈ k :: vk) ↔ (j ∈ vk) := by simp [hj]
          simp only [this], hsn2.sub (del_sub hI.uq k)⟩, hdec, by repeat (first | exact SubL.nil | refine SubL.cons rfl ?_), by exact drop_auto⟩
    · repeat (first | refine Z0 ?_ | (refine ZR ?_; first | refine x1 ?_ | refine x2 ?_ | refine x8 ?_ | refine Z1 ?_ | refine Z2 ?_ | refine x3 fun _ => ?_ | refine x4 fun _ => ?_ | refine x5 fun _ => ?_ | refine Z3 fun _ => ?_ | refine Z4 fun _ => ?_) | refine ZC ?_)
      exact ⟨(k :: vk, vs ++ [bo], ms1, _), ⟨keep (by simp), hsn2⟩, hdec, by repeat (first | exact SubL.nil | refine SubL.cons rfl ?_), (by dsimp only; rw [List.append_assoc]; exact drop_auto)⟩
  · rw [show ((F.length : Int) == 0) = false by (simp only [beq_eq_false_iff_ne, ne_eq]; omega)]
    repeat (first | refine Z0 ?_ | (refine ZR ?_; first | refine x1 ?_ | refine x2 ?_ | refine x8 ?_ | refine Z1 ?_ | refine Z2 ?_ | refine x3 fun _ => ?_ | refine x4 fun _ => ?_ | refine x5 fun _ => ?_ | refine Z3 fun _ => ?_ | refine Z4 fun _ => ?_) | refine ZC ?_)
    exact ⟨(k :: vk, vs ++ [bo], ms1, _), ⟨keep fun h => h0 h.1, hsn2⟩, hdec, by repeat (first | exact SubL.nil | refine SubL.cons rfl ?_), (by dsimp only; rw [List.append_assoc]; exact drop_auto)⟩
end
end Go.Proofs.Ytoimfchhmocgeaa.Abs
