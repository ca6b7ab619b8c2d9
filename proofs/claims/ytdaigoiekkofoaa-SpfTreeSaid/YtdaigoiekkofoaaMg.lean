/- Dijkstra's algorithm, in plain Lean. -/
import Derived.Test.YtdaigoiekkofoaaMf
import Derived.Test.YtdaigoiekkofoaaMa
import Derived.Test.YtdaigoiekkofoaaMe
namespace Go.Proofs.Ytdaigoiekkofoaa.Abs
set_option linter.unusedVariables false
/-- What holds of the distances and of the queue; v, k: of the edges of v only the first k are looked at (all of them if v is N). -/
structure Dj (R : Nat → Nat → Nat → Prop) (N s : Nat) (d : List Int) (I : List It) (P : Nat → Nat → Nat → Prop) : Prop where
  len : d.length = N
  low : ∀ n, -1 ≤ d.getD n (-1)
  ok : ∀ n, 0 ≤ d.getD n (-1) → DistAt R s n (d.getD n (-1))
  items : ∀ x ∈ I, 0 ≤ x.n ∧ x.n < N ∧ 0 ≤ x.l ∧ x.l ≤ 1000 * cnt d ∧ Wk R s x.n.toNat x.l.toNat
  order : ∀ u, 0 ≤ d.getD u (-1) → ∀ x ∈ I, d.getD u (-1) ≤ x.l
  edges : ∀ u w c, R u w c → P u w c → 0 ≤ d.getD u (-1) → 0 ≤ d.getD w (-1) ∨ ∃ x ∈ I, x.n = w ∧ x.l = d.getD u (-1) + c
  src : 0 ≤ d.getD s (-1) ∨ ∃ x ∈ I, x.n = s ∧ x.l = 0
def allE : Nat → Nat → Nat → Prop := fun _ _ _ => True
variable {R : Nat → Nat → Nat → Prop} {N s : Nat} {d : List Int} {I J : List It}
theorem Dj.reach (h : Dj R N s d I allE) {n l : Nat} (hw : Wk R s n l) : (0 ≤ d.getD n (-1) ∧ d.getD n (-1) ≤ l) ∨ ∃ x ∈ I, x.l ≤ l := by
  induction hw with
  | nil =>
    rcases h.src with h0 | ⟨x, hx, _, h0⟩
    · have := (h.ok s h0).le .nil
      exact .inl this
    · exact .inr ⟨x, hx, by omega⟩
  | @snoc u w l c hw hr ih =>
    rcases ih with ⟨h1, h2⟩ | ⟨x, hx, h1⟩
    · rcases h.edges u w c hr trivial h1 with h3 | ⟨x, hx, _, h3⟩
      · have := (h.ok w h3).le (.snoc hw hr)
        exact .inl this
      · exact .inr ⟨x, hx, by omega⟩
    · exact .inr ⟨x, hx, by omega⟩
/-- The queue is empty: the distances are right. -/
theorem Dj.fin (h : Dj R N s d [] allE) : IsDist R N s d := by
  refine ⟨h.len, fun n hn => ?_⟩
  by_cases h0 : 0 ≤ d.getD n (-1)
  · exact h.ok n h0
  · refine .inl ⟨by have := h.low n; omega, fun l hw => ?_⟩
    rcases h.reach hw with ⟨h1, _⟩ | ⟨x, hx, _⟩
    · omega
    · cases hx
/-- An item of a node that is set is dropped. -/
theorem Dj.drop {x0 : It} (h : Dj R N s d I allE) (hp : (x0 :: J).Perm I) (h0 : 0 ≤ d.getD x0.n.toNat (-1)) : Dj R N s d J allE := by
  have hsub : ∀ x ∈ J, x ∈ I := fun x hx => hp.mem_iff.1 (List.mem_cons_of_mem _ hx)
  have hcase : ∀ x ∈ I, x = x0 ∨ x ∈ J := fun x hx => List.mem_cons.1 (hp.mem_iff.2 hx)
  refine ⟨h.len, h.low, h.ok, fun x hx => h.items x (hsub x hx), fun u hu x hx => h.order u hu x (hsub x hx), fun u w c hr hP hu => ?_, ?_⟩
  · rcases h.edges u w c hr hP hu with h1 | ⟨x, hx, e1, e2⟩
    · exact .inl h1
    · rcases hcase x hx with rfl | hx'
      · rw [e1] at h0; exact .inl h0
      · exact .inr ⟨x, hx', e1, e2⟩
  · rcases h.src with h1 | ⟨x, hx, e1, e2⟩
    · exact .inl h1
    · rcases hcase x hx with rfl | hx'
      · rw [e1] at h0; exact .inl h0
      · exact .inr ⟨x, hx', e1, e2⟩
theorem cnt_set {v : Nat} {l : Int} (hv : v < d.length) (h0 : d.getD v (-1) < 0) (hl : 0 ≤ l) : cnt (d.set v l) = cnt d + 1 := by
  have := sum_set (fun x => if 0 ≤ x then 1 else 0) d v l hv
  simp only [if_pos hl, if_neg (show ¬ 0 ≤ d.getD v (-1) by omega)] at this
  unfold cnt
  omega
/-- The least item of a node that is not set: it is set. -/
theorem Dj.take {x0 : It} (h : Dj R N s d I allE) (hp : (x0 :: J).Perm I) (hmin : ∀ x ∈ I, x0.l ≤ x.l) (h0 : d.getD x0.n.toNat (-1) < 0) :
    Dj R N s (d.set x0.n.toNat x0.l) J (fun u _ _ => u ≠ x0.n.toNat) ∧ (∀ u, (d.set x0.n.toNat x0.l).getD u (-1) ≤ x0.l) ∧ x0.l + 1000 ≤ 1000 * cnt (d.set x0.n.toNat x0.l) ∧ cnt (d.set x0.n.toNat x0.l) = cnt d + 1 := by
  have hmem : x0 ∈ I := hp.mem_iff.1 List.mem_cons_self
  have hsub : ∀ x ∈ J, x ∈ I := fun x hx => hp.mem_iff.1 (List.mem_cons_of_mem _ hx)
  have hcase : ∀ x ∈ I, x = x0 ∨ x ∈ J := fun x hx => List.mem_cons.1 (hp.mem_iff.2 hx)
  obtain ⟨g1, g2, g3, g4, g5⟩ := h.items x0 hmem
  have hv : x0.n.toNat < d.length := by rw [h.len]; omega
  have hget : ∀ n, (d.set x0.n.toNat x0.l).getD n (-1) = if n = x0.n.toNat then x0.l else d.getD n (-1) := fun n => getD_setL hv
  have hcnt := cnt_set hv h0 g3
  have hd : DistAt R s x0.n.toNat x0.l := by
    refine .inr ⟨x0.l.toNat, by omega, g5, fun l' hw => ?_⟩
    rcases h.reach hw with ⟨h1, _⟩ | ⟨x, hx, h1⟩
    · omega
    · have := hmin x hx; omega
  refine ⟨⟨by rw [List.length_set, h.len], fun n => ?_, fun n hn => ?_, fun x hx => ?_, fun u hu x hx => ?_, fun u w c hr hP hu => ?_, ?_⟩, fun u => ?_, by rw [hcnt]; omega, hcnt⟩
  · rw [hget]; split
    · omega
    · exact h.low n
  · rw [hget] at hn ⊢
    split at hn
    · rename_i e; rw [if_pos e, e]; exact hd
    · rename_i e; rw [if_neg e]; exact h.ok n hn
  · obtain ⟨k1, k2, k3, k4, k5⟩ := h.items x (hsub x hx)
    exact ⟨k1, k2, k3, by rw [hcnt]; omega, k5⟩
  · rw [hget] at hu ⊢
    split at hu
    · rename_i e; rw [if_pos e]; exact hmin x (hsub x hx)
    · rename_i e; rw [if_neg e]; exact h.order u hu x (hsub x hx)
  · rw [hget] at hu
    rw [if_neg hP] at hu
    rw [hget, hget, if_neg hP]
    by_cases e : w = x0.n.toNat
    · rw [if_pos e]; exact .inl g3
    · rw [if_neg e]
      rcases h.edges u w c hr trivial hu with h1 | ⟨x, hx, e1, e2⟩
      · exact .inl h1
      · rcases hcase x hx with rfl | hx'
        · exact absurd (by omega) e
        · exact .inr ⟨x, hx', e1, e2⟩
  · rw [hget]
    by_cases e : s = x0.n.toNat
    · rw [if_pos e]; exact .inl g3
    · rw [if_neg e]
      rcases h.src with h1 | ⟨x, hx, e1, e2⟩
      · exact .inl h1
      · rcases hcase x hx with rfl | hx'
        · exact absurd (by omega) e
        · exact .inr ⟨x, hx', e1, e2⟩
  · rw [hget]; split
    · omega
    · by_cases hu : 0 ≤ d.getD u (-1)
      · exact h.order u hu x0 hmem
      · omega
theorem Dj.weak {P P' : Nat → Nat → Nat → Prop} (h : Dj R N s d I P) (hP : ∀ u w c, R u w c → P' u w c → P u w c ∨ 0 ≤ d.getD w (-1)) : Dj R N s d I P' :=
  ⟨h.len, h.low, h.ok, h.items, h.order, fun u w c hr hp hu => (hP u w c hr hp).elim (fun hp => h.edges u w c hr hp hu) .inl, h.src⟩
/-- An edge's candidate is pushed. -/
theorem Dj.push {P P' : Nat → Nat → Nat → Prop} {v w : Nat} {l c : Int} (h : Dj R N s d I P) (hp : J.Perm (I ++ [⟨w, l + c⟩])) (hl : d.getD v (-1) = l) (hl0 : 0 ≤ l) (htop : ∀ u, d.getD u (-1) ≤ l) (hb : l + 1000 ≤ 1000 * cnt d) (hr : R v w c.toNat) (hw : w < N) (hc : 1 ≤ c ∧ c ≤ 1000)
    (hP : ∀ u w' c', R u w' c' → P' u w' c' → P u w' c' ∨ (u = v ∧ w' = w ∧ (c' : Int) = c)) : Dj R N s d J P' := by
  have hsub : ∀ x ∈ I, x ∈ J := fun x hx => hp.mem_iff.2 (List.mem_append_left _ hx)
  have hnew : (⟨w, l + c⟩ : It) ∈ J := hp.mem_iff.2 (List.mem_append_right _ (List.mem_singleton.2 rfl))
  have hcase : ∀ x ∈ J, x ∈ I ∨ x = ⟨w, l + c⟩ := fun x hx => (List.mem_append.1 (hp.mem_iff.1 hx)).imp id List.mem_singleton.1
  have hwk : Wk R s v l.toNat := by
    have := h.ok v (by rw [hl]; exact hl0)
    rw [hl] at this
    rcases this with ⟨e, _⟩ | ⟨k, e, h1, _⟩
    · omega
    · rwa [show l.toNat = k by omega]
  refine ⟨h.len, h.low, h.ok, fun x hx => ?_, fun u hu x hx => ?_, fun u w' c' hr' hP' hu => ?_, ?_⟩
  · rcases hcase x hx with hx | rfl
    · exact h.items x hx
    · refine ⟨by dsimp only; omega, by dsimp only; omega, by dsimp only; omega, by dsimp only; omega, ?_⟩
      have := Wk.snoc hwk hr
      dsimp only
      rwa [Int.toNat_natCast, show (l + c).toNat = l.toNat + c.toNat by omega]
  · rcases hcase x hx with hx | rfl
    · exact h.order u hu x hx
    · have := htop u; dsimp only; omega
  · rcases hP u w' c' hr' hP' with hp' | ⟨rfl, rfl, e⟩
    · rcases h.edges u w' c' hr' hp' hu with h1 | ⟨x, hx, e1, e2⟩
      · exact .inl h1
      · exact .inr ⟨x, hsub x hx, e1, e2⟩
    · exact .inr ⟨_, hnew, rfl, by dsimp only; rw [hl, e]⟩
  · rcases h.src with h1 | ⟨x, hx, e1, e2⟩
    · exact .inl h1
    · exact .inr ⟨x, hsub x hx, e1, e2⟩
theorem Dj.init (hs : s < N) : Dj R N s (List.replicate N (-1)) [⟨s, 0⟩] allE := by
  have e : ∀ n, (List.replicate N (-1 : Int)).getD n (-1) = -1 := fun n => by rw [List.getD_eq_getElem?_getD, List.getElem?_replicate]; split <;> rfl
  refine ⟨by simp, fun n => by rw [e]; decide, fun n hn => by rw [e] at hn; omega, fun x hx => ?_, fun u hu => by rw [e] at hu; omega, fun u w c _ _ hu => by rw [e] at hu; omega, .inr ⟨_, List.mem_singleton.2 rfl, rfl, rfl⟩⟩
  rw [List.mem_singleton] at hx
  subst hx
  exact ⟨by dsimp only; omega, by dsimp only; omega, by dsimp only; omega, by dsimp only; omega, by dsimp only; rw [Int.toNat_natCast]; exact .nil⟩
/-- The edges of a node are the links that are up at it. -/
theorem edL_all {L : List Ln} {U : List Bool} {M v w c : Nat} (hok : netOk M L U) (hr : Rn L U v w c) : ∃ e ∈ edL L U v L.length, e.n = w ∧ e.c = c := by
  obtain ⟨i, x, hx, hu, hc, hab⟩ := hr
  have hi : i < L.length := (List.getElem?_eq_some_iff.1 hx).1
  have hg := hok.2.2.2.2 x (List.mem_of_getElem? hx)
  unfold goodL at hg
  have hin : ∀ k, i < k → ∃ e ∈ edL L U v k, e.n = w ∧ e.c = c := by
    intro k
    induction k with
    | zero => intro h; omega
    | succ k ih =>
      intro h
      rw [edL]
      by_cases e : i = k
      · subst e
        have e2 : edOf L U v i = if x.a = v then [⟨i, x.b, x.c⟩] else if x.b = v then [⟨i, x.a, x.c⟩] else [] := by unfold edOf; rw [hx, hu]
        rw [e2]
        rcases hab with ⟨h1, h2⟩ | ⟨h1, h2⟩
        · rw [if_pos h1]
          exact ⟨_, List.mem_append_right _ (List.mem_singleton.2 rfl), h2, hc⟩
        · rw [if_neg (by omega), if_pos h2]
          exact ⟨_, List.mem_append_right _ (List.mem_singleton.2 rfl), h1, hc⟩
      · obtain ⟨e', h1, h2⟩ := ih (by omega)
        exact ⟨e', List.mem_append_left _ h1, h2⟩
  exact hin L.length hi
theorem edL_rn {L : List Ln} {U : List Bool} {M v : Nat} (hok : netOk M L U) : ∀ k, ∀ e ∈ edL L U v k, Rn L U v e.n.toNat e.c.toNat
  | 0, e, h => by cases h
  | k + 1, e, h => by
    rw [edL] at h
    rcases List.mem_append.1 h with h | h
    · exact edL_rn hok k e h
    · unfold edOf at h
      split at h
      · rename_i x hx hu
        have hg := hok.2.2.2.2 x (List.mem_of_getElem? hx)
        unfold goodL at hg
        split at h
        · rename_i h1
          rw [List.mem_singleton] at h; subst h
          exact ⟨k, x, hx, hu, by dsimp only; omega, .inl ⟨h1, by dsimp only; omega⟩⟩
        · split at h
          · rename_i h1 h2
            rw [List.mem_singleton] at h; subst h
            exact ⟨k, x, hx, hu, by dsimp only; omega, .inr ⟨by dsimp only; omega, h2⟩⟩
          · cases h
      · cases h
end Go.Proofs.Ytdaigoiekkofoaa.Abs

/- The program's distances. -/
namespace Go.Proofs.Ytdaigoiekkofoaa.Abs
open Go
set_option linter.unusedVariables false
section
variable {B0 : Nat} {old : Nat → Option (List Value)} {n : Nat} {H : Hp} {Q : Value → Hp → Prop}
set_option maxRecDepth 10000
set_option maxHeartbeats 8000000
def djm (M : Nat) (d : List Int) (I : List It) : Nat := I.length + 129 * (M - cnt d)
theorem distances_ct (M s bo : Nat) (L : List Ln) (U : List Bool) (vs : List Value) (Hs : Hp) (hok : netOk M L U) (hr : Rows encE 3 (edA L U M L.length) vs Hs) (hs : Hs.Sublist H) (hmo : (bo, AObj.row (vs.map vV) 1 false) ∈ H) (hsM : s < M)
    (hQ : ∀ d b, IsDist (Rn L U) M s d → Q (.slice (some ⟨b, 0, none⟩) M M) ((b, .row (d.map vI) 1 false) :: H)) :
    CallT (cx B0 old) (acall (cx B0 old) ansP (n + 4)) 40 [.slice (some ⟨bo, 0, none⟩) M M, .int .i64 s] H Q := by
  have hM : M ≤ 32 := by have := hok.2.1; omega
  have hLl : L.length ≤ 128 := hok.2.2.1
  have hvl : vs.length = M := by rw [hr.length, edA_len]
  refine call_in2 82 rfl Try.func40 rfl rfl ?_
  repeat (first | (first | refine rt_nil ?_ | (refine isRun ?_; first | refine x1 ?_ | refine x2 ?_ | refine x3 fun _ => ?_ | refine x4 fun _ => ?_ | refine x5 fun _ => ?_ | (refine rt_step rfl rfl rfl ?_; first | refine st_buildSlice rfl (zr rfl) rfl rfl rfl rfl rfl rfl fun _ => ?_ | refine st_A rfl rfl (fun _ => rfl) rfl fun _ => ?_) | refine x8 ?_ | refine rt_skip rfl rfl rfl ?_ | refine rt_skip0 rfl rfl ?_)) | (first | refine sq_n ?_ | refine sq_r ?_ | refine sq_e ?_ | refine bk_n ?_ | refine bk_r ?_ | refine bk_e rfl ?_ | refine bk_x rfl ?_ | refine ct_seq ?_ | refine ct_region rfl ?_ | refine ct_skip ?_ | refine ct_label ?_ | refine ct_block ?_ | refine ct_exit ?_ | refine ct_ret ?_ | refine ct_scope ?_ | refine ct_true rfl ?_ | refine ct_false rfl ?_ | refine lt_step ?_))
  refine rt_step rfl rfl rfl (st_makeM vI 0 rfl rfl rfl rfl rfl (Nat.ble_eq_true_of_le (by show 8 * M ≤ _; omega)) (Nat.ble_eq_true_of_le (by omega)) rfl fun b => ?_)
  repeat (first | (first | refine rt_nil ?_ | (refine isRun ?_; first | refine x1 ?_ | refine x2 ?_ | refine x3 fun _ => ?_ | refine x4 fun _ => ?_ | refine x5 fun _ => ?_ | (refine rt_step rfl rfl rfl ?_; first | refine st_buildSlice rfl (zr rfl) rfl rfl rfl rfl rfl rfl fun _ => ?_ | refine st_A rfl rfl (fun _ => rfl) rfl fun _ => ?_) | refine x8 ?_ | refine rt_skip rfl rfl rfl ?_ | refine rt_skip0 rfl rfl ?_)) | (first | refine sq_n ?_ | refine sq_r ?_ | refine sq_e ?_ | refine bk_n ?_ | refine bk_r ?_ | refine bk_e rfl ?_ | refine bk_x rfl ?_ | refine ct_seq ?_ | refine ct_region rfl ?_ | refine ct_skip ?_ | refine ct_label ?_ | refine ct_block ?_ | refine ct_exit ?_ | refine ct_ret ?_ | refine ct_scope ?_ | refine ct_true rfl ?_ | refine ct_false rfl ?_ | refine lt_step ?_))
  refine loop_ind (ι := Nat × List Int) (0, List.replicate M 0) (fun i => M - i.1) (fun i => i.1 ≤ M ∧ i.2.length = M ∧ ∀ j, j < i.1 → i.2[j]? = some (-1))
    (fun i => [(17, .int .i64 (i.1 : Int)), (16, .int .i64 M), (5, .slice (some ⟨b, 0, none⟩) M M), (0, .slice (some ⟨bo, 0, none⟩) M M), (1, .int .i64 s)])
    (fun i => (b, .row (i.2.map vI) 1 false) :: H) ⟨Nat.zero_le _, by simp, fun j hj => absurd hj (by simp)⟩ (by repeat (first | exact SubL.nil | refine SubL.cons rfl ?_)) (by exact drop_auto) ?_
  rintro ⟨i, d⟩ ⟨hi, hd, hall⟩
  simp only at hi hd hall ⊢
  repeat (first | (first | refine rt_nil ?_ | (refine isRun ?_; first | refine x1 ?_ | refine x2 ?_ | refine x3 fun _ => ?_ | refine x4 fun _ => ?_ | refine x5 fun _ => ?_ | (refine rt_step rfl rfl rfl ?_; first | refine st_buildSlice rfl (zr rfl) rfl rfl rfl rfl rfl rfl fun _ => ?_ | refine st_A rfl rfl (fun _ => rfl) rfl fun _ => ?_) | refine x8 ?_ | refine rt_skip rfl rfl rfl ?_ | refine rt_skip0 rfl rfl ?_)) | (first | refine sq_n ?_ | refine sq_r ?_ | refine sq_e ?_ | refine bk_n ?_ | refine bk_r ?_ | refine bk_e rfl ?_ | refine bk_x rfl ?_ | refine ct_seq ?_ | refine ct_region rfl ?_ | refine ct_skip ?_ | refine ct_label ?_ | refine ct_block ?_ | refine ct_exit ?_ | refine ct_ret ?_ | refine ct_scope ?_ | refine ct_true rfl ?_ | refine ct_false rfl ?_ | refine lt_step ?_))
  refine ct_condT te_d rfl (fun hc => ?_) (fun hc => ?_)
  · repeat (first | (first | refine rt_nil ?_ | (refine isRun ?_; first | refine x1 ?_ | refine x2 ?_ | refine x3 fun _ => ?_ | refine x4 fun _ => ?_ | refine x5 fun _ => ?_ | (refine rt_step rfl rfl rfl ?_; first | refine st_buildSlice rfl (zr rfl) rfl rfl rfl rfl rfl rfl fun _ => ?_ | refine st_A rfl rfl (fun _ => rfl) rfl fun _ => ?_) | refine x8 ?_ | refine rt_skip rfl rfl rfl ?_ | refine rt_skip0 rfl rfl ?_)) | (first | refine sq_n ?_ | refine sq_r ?_ | refine sq_e ?_ | refine bk_n ?_ | refine bk_r ?_ | refine bk_e rfl ?_ | refine bk_x rfl ?_ | refine ct_seq ?_ | refine ct_region rfl ?_ | refine ct_skip ?_ | refine ct_label ?_ | refine ct_block ?_ | refine ct_exit ?_ | refine ct_ret ?_ | refine ct_scope ?_ | refine ct_true rfl ?_ | refine ct_false rfl ?_ | refine lt_step ?_))
    refine ⟨(i + 1, d.set i (-1)), ⟨by omega, by simp [hd], fun j hj => ?_⟩, by dsimp only; omega, by repeat (first | exact SubL.nil | refine SubL.cons rfl ?_), by exact drop_auto⟩
    simp only at hj ⊢
    rw [List.getElem?_set]
    by_cases g : i = j
    · rw [if_pos g, if_pos (by omega)]
    · rw [if_neg g]; exact hall j (by omega)
  have hd0 : d = List.replicate M (-1) := List.ext_getElem? fun j => by
    by_cases g : j < M
    · rw [hall j (by omega), List.getElem?_replicate, if_pos g]
    · rw [List.getElem?_eq_none (by omega), List.getElem?_eq_none (by simp; omega)]
  clear hall hc hi
  repeat (first | (first | refine rt_nil ?_ | (refine isRun ?_; first | refine x1 ?_ | refine x2 ?_ | refine x3 fun _ => ?_ | refine x4 fun _ => ?_ | refine x5 fun _ => ?_ | (refine rt_step rfl rfl rfl ?_; first | refine st_buildSlice rfl (zr rfl) rfl rfl rfl rfl rfl rfl fun _ => ?_ | refine st_A rfl rfl (fun _ => rfl) rfl fun _ => ?_) | refine x8 ?_ | refine rt_skip rfl rfl rfl ?_ | refine rt_skip0 rfl rfl ?_)) | (first | refine sq_n ?_ | refine sq_r ?_ | refine sq_e ?_ | refine bk_n ?_ | refine bk_r ?_ | refine bk_e rfl ?_ | refine bk_x rfl ?_ | refine ct_seq ?_ | refine ct_region rfl ?_ | refine ct_skip ?_ | refine ct_label ?_ | refine ct_block ?_ | refine ct_exit ?_ | refine ct_ret ?_ | refine ct_scope ?_ | refine ct_true rfl ?_ | refine ct_false rfl ?_ | refine lt_step ?_))
  rename_i b5 bq
  have hc0 : cnt d = 0 := by
    rw [hd0]; unfold cnt; simp
  refine loop_ind (ι := List Int × List It × Value × Hp) (d, [⟨s, 0⟩], .slice (some ⟨b5, 0, none⟩) 1 1, [(b5, .row [.int .i64 s, .int .i64 0] 2 false)]) (fun i => djm M i.1 i.2.1)
    (fun i => Dj (Rn L U) M s i.1 i.2.1 allE ∧ IsHp i.2.1 i.2.1.length ∧ Qs encIt 2 i.2.1 i.2.2.1 i.2.2.2 ∧ djm M i.1 i.2.1 ≤ 5000)
    (fun i => [(7, .pointer (some ⟨bq, 0, none⟩)), (5, .slice (some ⟨b, 0, none⟩) M M), (0, .slice (some ⟨bo, 0, none⟩) M M)])
    (fun i => QH bq i.2.2.1 i.2.2.2 ((b, .row (i.1.map vI) 1 false) :: H)) ⟨by rw [hd0]; exact Dj.init hsM, fun c c0 cn => absurd cn (by simp; omega), Qs.fx [(⟨s, 0⟩ : It)] b5 2 1 [] (by simp) (by decide) (by simp), by unfold djm; rw [hc0]; simp; omega⟩ (by repeat (first | exact SubL.nil | refine SubL.cons rfl ?_)) (by unfold QH; exact drop_auto) ?_
  clear hd0 hc0 hd
  rintro ⟨d, I, v, Hq⟩ ⟨hdj, hhp, hq, hme⟩
  simp only at hdj hhp hq hme ⊢
  obtain ⟨bv, cv, rfl, hqa⟩ := hq.arr (C := cx B0 old) encIt_len
  have hdl := hdj.len
  unfold QH
  repeat (first | (first | refine rt_nil ?_ | (refine isRun ?_; first | refine x1 ?_ | refine x2 ?_ | refine x3 fun _ => ?_ | refine x4 fun _ => ?_ | refine x5 fun _ => ?_ | (refine rt_step rfl rfl rfl ?_; first | refine st_buildSlice rfl (zr rfl) rfl rfl rfl rfl rfl rfl fun _ => ?_ | refine st_A rfl rfl (fun _ => rfl) rfl fun _ => ?_) | refine x8 ?_ | refine rt_skip rfl rfl rfl ?_ | refine rt_skip0 rfl rfl ?_)) | (first | refine sq_n ?_ | refine sq_r ?_ | refine sq_e ?_ | refine bk_n ?_ | refine bk_r ?_ | refine bk_e rfl ?_ | refine bk_x rfl ?_ | refine ct_seq ?_ | refine ct_region rfl ?_ | refine ct_skip ?_ | refine ct_label ?_ | refine ct_block ?_ | refine ct_exit ?_ | refine ct_ret ?_ | refine ct_scope ?_ | refine ct_true rfl ?_ | refine ct_false rfl ?_ | refine lt_step ?_))
  refine rt_step rfl rfl rfl (st_call rfl rfl rfl rfl (qlen_ct bv cv I.length ?_))
  repeat (first | (first | refine rt_nil ?_ | (refine isRun ?_; first | refine x1 ?_ | refine x2 ?_ | refine x3 fun _ => ?_ | refine x4 fun _ => ?_ | refine x5 fun _ => ?_ | (refine rt_step rfl rfl rfl ?_; first | refine st_buildSlice rfl (zr rfl) rfl rfl rfl rfl rfl rfl fun _ => ?_ | refine st_A rfl rfl (fun _ => rfl) rfl fun _ => ?_) | refine x8 ?_ | refine rt_skip rfl rfl rfl ?_ | refine rt_skip0 rfl rfl ?_)) | (first | refine sq_n ?_ | refine sq_r ?_ | refine sq_e ?_ | refine bk_n ?_ | refine bk_r ?_ | refine bk_e rfl ?_ | refine bk_x rfl ?_ | refine ct_seq ?_ | refine ct_region rfl ?_ | refine ct_skip ?_ | refine ct_label ?_ | refine ct_block ?_ | refine ct_exit ?_ | refine ct_ret ?_ | refine ct_scope ?_ | refine ct_true rfl ?_ | refine ct_false rfl ?_ | refine lt_step ?_))
  refine ct_condT te_d rfl (fun hc => ?_) (fun hc => ?_)
  rotate_left
  · have : I = [] := by
      cases I with
      | nil => rfl
      | cons a r => simp only [List.length_cons] at hc; omega
    subst this
    repeat (first | (first | refine rt_nil ?_ | (refine isRun ?_; first | refine x1 ?_ | refine x2 ?_ | refine x3 fun _ => ?_ | refine x4 fun _ => ?_ | refine x5 fun _ => ?_ | (refine rt_step rfl rfl rfl ?_; first | refine st_buildSlice rfl (zr rfl) rfl rfl rfl rfl rfl rfl fun _ => ?_ | refine st_A rfl rfl (fun _ => rfl) rfl fun _ => ?_) | refine x8 ?_ | refine rt_skip rfl rfl rfl ?_ | refine rt_skip0 rfl rfl ?_)) | (first | refine sq_n ?_ | refine sq_r ?_ | refine sq_e ?_ | refine bk_n ?_ | refine bk_r ?_ | refine bk_e rfl ?_ | refine bk_x rfl ?_ | refine ct_seq ?_ | refine ct_region rfl ?_ | refine ct_skip ?_ | refine ct_label ?_ | refine ct_block ?_ | refine ct_exit ?_ | refine ct_ret ?_ | refine ct_scope ?_ | refine ct_true rfl ?_ | refine ct_false rfl ?_ | refine lt_step ?_))
    exact re_1 rfl rfl (by exact drop_auto) (hQ d b hdj.fin)
  have hI0 : 0 < I.length := by omega
  have hIl : I.length ≤ 5000 := by unfold djm at hme; omega
  repeat (first | (first | refine rt_nil ?_ | (refine isRun ?_; first | refine x1 ?_ | refine x2 ?_ | refine x3 fun _ => ?_ | refine x4 fun _ => ?_ | refine x5 fun _ => ?_ | (refine rt_step rfl rfl rfl ?_; first | refine st_buildSlice rfl (zr rfl) rfl rfl rfl rfl rfl rfl fun _ => ?_ | refine st_A rfl rfl (fun _ => rfl) rfl fun _ => ?_) | refine x8 ?_ | refine rt_skip rfl rfl rfl ?_ | refine rt_skip0 rfl rfl ?_)) | (first | refine sq_n ?_ | refine sq_r ?_ | refine sq_e ?_ | refine bk_n ?_ | refine bk_r ?_ | refine bk_e rfl ?_ | refine bk_x rfl ?_ | refine ct_seq ?_ | refine ct_region rfl ?_ | refine ct_skip ?_ | refine ct_label ?_ | refine ct_block ?_ | refine ct_exit ?_ | refine ct_ret ?_ | refine ct_scope ?_ | refine ct_true rfl ?_ | refine ct_false rfl ?_ | refine lt_step ?_))
  refine rt_step rfl rfl rfl (st_call rfl rfl rfl rfl (hpop_ct hq (by omega) hI0 hhp fun J v2 H2 hp hhp2 hq2 => ?_))
  obtain ⟨x0, hx0⟩ : ∃ x, x = I.getD 0 ⟨0, 0⟩ := ⟨_, rfl⟩
  rw [← hx0] at hp ⊢
  have hmin : ∀ x ∈ I, x0.l ≤ x.l := fun x hx => by
    obtain ⟨k, hk⟩ := List.getElem?_of_mem hx
    have hkl := (List.getElem?_eq_some_iff.1 hk).1
    have := hhp.least k hkl
    unfold kI at this
    rw [← hx0, List.getD_eq_getElem?_getD, hk] at this
    exact this
  obtain ⟨u1, u2, u3, u4, u5⟩ := hdj.items x0 (hp.mem_iff.1 List.mem_cons_self)
  have hJl : J.length + 1 = I.length := by have := hp.length_eq; simpa using this
  have hcd := cnt_le d
  have hA0 := fun H' j => ldM (C := cx B0 old) (f := vI) (L := d) (t := 3) (b := b) (es := 1) (el := false) (-1) rfl (sz rfl) H' j
  unfold QH
  repeat (first | (first | refine rt_nil ?_ | (refine isRun ?_; first | refine x1 ?_ | refine x2 ?_ | refine x3 fun _ => ?_ | refine x4 fun _ => ?_ | refine x5 fun _ => ?_ | (refine rt_step rfl rfl rfl ?_; first | refine st_buildSlice rfl (zr rfl) rfl rfl rfl rfl rfl rfl fun _ => ?_ | refine st_A rfl rfl (fun _ => rfl) rfl fun _ => ?_) | refine x8 ?_ | refine rt_skip rfl rfl rfl ?_ | refine rt_skip0 rfl rfl ?_)) | (first | refine sq_n ?_ | refine sq_r ?_ | refine sq_e ?_ | refine bk_n ?_ | refine bk_r ?_ | refine bk_e rfl ?_ | refine bk_x rfl ?_ | refine ct_seq ?_ | refine ct_region rfl ?_ | refine ct_skip ?_ | refine ct_label ?_ | refine ct_block ?_ | refine ct_exit ?_ | refine ct_ret ?_ | refine ct_scope ?_ | refine ct_true rfl ?_ | refine ct_false rfl ?_ | refine lt_step ?_))
  refine ct_condT te_d rfl (fun hc2 => ?_) (fun hc2 => ?_)
  · repeat (first | (first | refine rt_nil ?_ | (refine isRun ?_; first | refine x1 ?_ | refine x2 ?_ | refine x3 fun _ => ?_ | refine x4 fun _ => ?_ | refine x5 fun _ => ?_ | (refine rt_step rfl rfl rfl ?_; first | refine st_buildSlice rfl (zr rfl) rfl rfl rfl rfl rfl rfl fun _ => ?_ | refine st_A rfl rfl (fun _ => rfl) rfl fun _ => ?_) | refine x8 ?_ | refine rt_skip rfl rfl rfl ?_ | refine rt_skip0 rfl rfl ?_)) | (first | refine sq_n ?_ | refine sq_r ?_ | refine sq_e ?_ | refine bk_n ?_ | refine bk_r ?_ | refine bk_e rfl ?_ | refine bk_x rfl ?_ | refine ct_seq ?_ | refine ct_region rfl ?_ | refine ct_skip ?_ | refine ct_label ?_ | refine ct_block ?_ | refine ct_exit ?_ | refine ct_ret ?_ | refine ct_scope ?_ | refine ct_true rfl ?_ | refine ct_false rfl ?_ | refine lt_step ?_))
    refine ⟨(d, J, v2, H2), ⟨hdj.drop hp hc2, hhp2, hq2, by unfold djm at *; dsimp only; omega⟩, by unfold djm; dsimp only; omega, by repeat (first | exact SubL.nil | refine SubL.cons rfl ?_), by exact drop_auto⟩
  obtain ⟨k1, k2, k3, k4⟩ := hdj.take hp hmin (by omega)
  obtain ⟨d1, hd1⟩ : ∃ w, w = d.set x0.n.toNat x0.l := ⟨_, rfl⟩
  rw [← hd1] at k1 k2 k3 k4
  have hx0d : d1.getD x0.n.toNat (-1) = x0.l := by rw [hd1, getD_setL (by omega), if_pos rfl]
  have hd1l := k1.len
  have hx0M : x0.n.toNat < M := by omega
  obtain ⟨ade, ce, hve, hae⟩ := hr.arr (C := cx B0 old) encE_len hs (edA_get (L := L) (U := U) (i := L.length) hx0M)
  have hL0 : ∀ H', H.Sublist H' → LdT (cx B0 old) 52 H' bo (0 + x0.n.toNat * 1) (.slice ade (edL L U x0.n.toNat L.length).length ce) := fun H' hs' => ld1 (.own _ _ (hs'.subset hmo)) rfl (sz rfl) (by rw [Nat.zero_add, Nat.mul_one, List.getElem?_map, hve]; rfl)
  have hel := edL_len L U x0.n.toNat L.length
  have hrn := edL_rn (v := x0.n.toNat) hok L.length
  have heo := edL_ok hok x0.n.toNat L.length
  have hea0 := fun w c (hr : Rn L U x0.n.toNat w c) => edL_all hok hr
  have hcd1 := cnt_le d1
  obtain ⟨E, hE⟩ : ∃ E, E = edL L U x0.n.toNat L.length := ⟨_, rfl⟩
  rw [← hE] at hae hL0 hel hrn heo
  have hea : ∀ w c, Rn L U x0.n.toNat w c → ∃ e ∈ E, e.n = w ∧ e.c = c := fun w c hr => by rw [hE]; exact hea0 w c hr
  clear hA0 hea0
  repeat (first | (first | refine rt_nil ?_ | (refine isRun ?_; first | refine x1 ?_ | refine x2 ?_ | refine x3 fun _ => ?_ | refine x4 fun _ => ?_ | refine x5 fun _ => ?_ | (refine rt_step rfl rfl rfl ?_; first | refine st_buildSlice rfl (zr rfl) rfl rfl rfl rfl rfl rfl fun _ => ?_ | refine st_A rfl rfl (fun _ => rfl) rfl fun _ => ?_) | refine x8 ?_ | refine rt_skip rfl rfl rfl ?_ | refine rt_skip0 rfl rfl ?_)) | (first | refine sq_n ?_ | refine sq_r ?_ | refine sq_e ?_ | refine bk_n ?_ | refine bk_r ?_ | refine bk_e rfl ?_ | refine bk_x rfl ?_ | refine ct_seq ?_ | refine ct_region rfl ?_ | refine ct_skip ?_ | refine ct_label ?_ | refine ct_block ?_ | refine ct_exit ?_ | refine ct_ret ?_ | refine ct_scope ?_ | refine ct_true rfl ?_ | refine ct_false rfl ?_ | refine lt_step ?_))
  rename_i b8
  rw [← hd1]
  refine loop_ind (ι := Nat × List It × Value × Hp) (0, J, v2, H2) (fun i => E.length - i.1)
    (fun i => i.1 ≤ E.length ∧ Dj (Rn L U) M s d1 i.2.1 (fun u w c => u = x0.n.toNat → ∃ j e, j < i.1 ∧ E[j]? = some e ∧ e.n = w ∧ e.c = c) ∧ IsHp i.2.1 i.2.1.length ∧ Qs encIt 2 i.2.1 i.2.2.1 i.2.2.2 ∧ i.2.1.length ≤ J.length + i.1)
    (fun i => [(58, .int .i64 (i.1 : Int)), (57, .int .i64 E.length), (56, .slice ade E.length ce), (8, .pointer (some ⟨b8, 0, none⟩)), (7, .pointer (some ⟨bq, 0, none⟩)), (5, .slice (some ⟨b, 0, none⟩) M M), (0, .slice (some ⟨bo, 0, none⟩) M M)])
    (fun i => (b8, .row (encIt x0) 2 false) :: (bq, .row [i.2.2.1] 1 false) :: (i.2.2.2 ++ ((b, .row (d1.map vI) 1 false) :: H))) ⟨Nat.zero_le _, k1.weak fun u w c _ hP => .inl fun e => by obtain ⟨j, _, hj, _⟩ := hP e; omega, hhp2, hq2, Nat.le_refl _⟩ (by repeat (first | exact SubL.nil | refine SubL.cons rfl ?_)) (by exact drop_auto) ?_
  clear k1 hhp2 hq2 hL0
  rintro ⟨i, K, v3, H3⟩ ⟨hi, hdj3, hhp3, hq3, hl3⟩
  simp only at hi hdj3 hhp3 hq3 hl3 ⊢
  repeat (first | (first | refine rt_nil ?_ | (refine isRun ?_; first | refine x1 ?_ | refine x2 ?_ | refine x3 fun _ => ?_ | refine x4 fun _ => ?_ | refine x5 fun _ => ?_ | (refine rt_step rfl rfl rfl ?_; first | refine st_buildSlice rfl (zr rfl) rfl rfl rfl rfl rfl rfl fun _ => ?_ | refine st_A rfl rfl (fun _ => rfl) rfl fun _ => ?_) | refine x8 ?_ | refine rt_skip rfl rfl rfl ?_ | refine rt_skip0 rfl rfl ?_)) | (first | refine sq_n ?_ | refine sq_r ?_ | refine sq_e ?_ | refine bk_n ?_ | refine bk_r ?_ | refine bk_e rfl ?_ | refine bk_x rfl ?_ | refine ct_seq ?_ | refine ct_region rfl ?_ | refine ct_skip ?_ | refine ct_label ?_ | refine ct_block ?_ | refine ct_exit ?_ | refine ct_ret ?_ | refine ct_scope ?_ | refine ct_true rfl ?_ | refine ct_false rfl ?_ | refine lt_step ?_))
  refine ct_condT te_d rfl (fun hc3 => ?_) (fun hc3 => ?_)
  rotate_left
  · have hi' : i = E.length := by omega
    subst hi'
    repeat (first | (first | refine rt_nil ?_ | (refine isRun ?_; first | refine x1 ?_ | refine x2 ?_ | refine x3 fun _ => ?_ | refine x4 fun _ => ?_ | refine x5 fun _ => ?_ | (refine rt_step rfl rfl rfl ?_; first | refine st_buildSlice rfl (zr rfl) rfl rfl rfl rfl rfl rfl fun _ => ?_ | refine st_A rfl rfl (fun _ => rfl) rfl fun _ => ?_) | refine x8 ?_ | refine rt_skip rfl rfl rfl ?_ | refine rt_skip0 rfl rfl ?_)) | (first | refine sq_n ?_ | refine sq_r ?_ | refine sq_e ?_ | refine bk_n ?_ | refine bk_r ?_ | refine bk_e rfl ?_ | refine bk_x rfl ?_ | refine ct_seq ?_ | refine ct_region rfl ?_ | refine ct_skip ?_ | refine ct_label ?_ | refine ct_block ?_ | refine ct_exit ?_ | refine ct_ret ?_ | refine ct_scope ?_ | refine ct_true rfl ?_ | refine ct_false rfl ?_ | refine lt_step ?_))
    refine ⟨(d1, K, v3, H3), ⟨hdj3.weak fun u w c hr _ => .inl fun e => ?_, hhp3, hq3, by unfold djm at *; dsimp only; omega⟩, by unfold djm; dsimp only; omega, by repeat (first | exact SubL.nil | refine SubL.cons rfl ?_), by exact drop_auto⟩
    subst e
    obtain ⟨e, he, e1, e2⟩ := hea w c hr
    obtain ⟨j, hj⟩ := List.getElem?_of_mem he
    exact ⟨j, e, (List.getElem?_eq_some_iff.1 hj).1, hj, e1, e2⟩
  have hpm : ∀ (w : Value) (X : Hp), (QH bq w X ((b8, .row (encIt x0) 2 false) :: (b, .row (d1.map vI) 1 false) :: H)).Perm ((b8, .row (encIt x0) 2 false) :: (bq, .row [w] 1 false) :: (X ++ ((b, .row (d1.map vI) 1 false) :: H))) := fun w X => (List.Perm.cons _ List.perm_middle).trans (List.Perm.swap _ _ _)
  obtain ⟨e, he⟩ : ∃ e, E[i]? = some e := ⟨_, List.getElem?_eq_getElem (by omega)⟩
  have hem := List.mem_of_getElem? he
  have heok := heo e hem
  have hern := hrn e hem
  unfold edOk at heok
  obtain ⟨b6, o6, rfl, hL0⟩ := hae.ldW 56 he rfl (sz rfl)
  have hA0 := fun H' j => ldM (C := cx B0 old) (f := vI) (L := d1) (t := 3) (b := b) (es := 1) (el := false) (-1) rfl (sz rfl) H' j
  repeat (first | (first | refine rt_nil ?_ | (refine isRun ?_; first | refine x1 ?_ | refine x2 ?_ | refine x3 fun _ => ?_ | refine x4 fun _ => ?_ | refine x5 fun _ => ?_ | (refine rt_step rfl rfl rfl ?_; first | refine st_buildSlice rfl (zr rfl) rfl rfl rfl rfl rfl rfl fun _ => ?_ | refine st_A rfl rfl (fun _ => rfl) rfl fun _ => ?_) | refine x8 ?_ | refine rt_skip rfl rfl rfl ?_ | refine rt_skip0 rfl rfl ?_)) | (first | refine sq_n ?_ | refine sq_r ?_ | refine sq_e ?_ | refine bk_n ?_ | refine bk_r ?_ | refine bk_e rfl ?_ | refine bk_x rfl ?_ | refine ct_seq ?_ | refine ct_region rfl ?_ | refine ct_skip ?_ | refine ct_label ?_ | refine ct_block ?_ | refine ct_exit ?_ | refine ct_ret ?_ | refine ct_scope ?_ | refine ct_true rfl ?_ | refine ct_false rfl ?_ | refine lt_step ?_))
  refine ct_condT te_d rfl (fun hc4 => ?_) (fun hc4 => ?_)
  · repeat (first | (first | refine rt_nil ?_ | (refine isRun ?_; first | refine x1 ?_ | refine x2 ?_ | refine x3 fun _ => ?_ | refine x4 fun _ => ?_ | refine x5 fun _ => ?_ | (refine rt_step rfl rfl rfl ?_; first | refine st_buildSlice rfl (zr rfl) rfl rfl rfl rfl rfl rfl fun _ => ?_ | refine st_A rfl rfl (fun _ => rfl) rfl fun _ => ?_) | refine x8 ?_ | refine rt_skip rfl rfl rfl ?_ | refine rt_skip0 rfl rfl ?_)) | (first | refine sq_n ?_ | refine sq_r ?_ | refine sq_e ?_ | refine bk_n ?_ | refine bk_r ?_ | refine bk_e rfl ?_ | refine bk_x rfl ?_ | refine ct_seq ?_ | refine ct_region rfl ?_ | refine ct_skip ?_ | refine ct_label ?_ | refine ct_block ?_ | refine ct_exit ?_ | refine ct_ret ?_ | refine ct_scope ?_ | refine ct_true rfl ?_ | refine ct_false rfl ?_ | refine lt_step ?_))
    refine rt_step rfl rfl rfl (st_call rfl rfl rfl rfl (CallT.weak (H' := (b8, .row (encIt x0) 2 false) :: (bq, .row [v3] 1 false) :: (H3 ++ ((b, .row (d1.map vI) 1 false) :: H))) (CallT.perm (hpush_ct (H := (b8, .row (encIt x0) 2 false) :: (b, .row (d1.map vI) 1 false) :: H) ⟨e.n, x0.l + e.c⟩ hq3 (by omega) hhp3 fun w K' v4 H4 hpK hhp4 hq4 => ?_) (hpm v3 H3)) (by exact drop_auto)))
    have hen : ((e.n.toNat : Nat) : Int) = e.n := by omega
    have hw : e.n.toNat < M := by omega
    rw [show (⟨e.n, x0.l + e.c⟩ : It) = ⟨(e.n.toNat : Nat), x0.l + e.c⟩ from by rw [hen]] at hpK
    have hKl := hpK.length_eq
    rw [List.length_append, List.length_singleton] at hKl
    refine RunT.perm ?_ (hpm v4 H4).symm
    repeat (first | (first | refine rt_nil ?_ | (refine isRun ?_; first | refine x1 ?_ | refine x2 ?_ | refine x3 fun _ => ?_ | refine x4 fun _ => ?_ | refine x5 fun _ => ?_ | (refine rt_step rfl rfl rfl ?_; first | refine st_buildSlice rfl (zr rfl) rfl rfl rfl rfl rfl rfl fun _ => ?_ | refine st_A rfl rfl (fun _ => rfl) rfl fun _ => ?_) | refine x8 ?_ | refine rt_skip rfl rfl rfl ?_ | refine rt_skip0 rfl rfl ?_)) | (first | refine sq_n ?_ | refine sq_r ?_ | refine sq_e ?_ | refine bk_n ?_ | refine bk_r ?_ | refine bk_e rfl ?_ | refine bk_x rfl ?_ | refine ct_seq ?_ | refine ct_region rfl ?_ | refine ct_skip ?_ | refine ct_label ?_ | refine ct_block ?_ | refine ct_exit ?_ | refine ct_ret ?_ | refine ct_scope ?_ | refine ct_true rfl ?_ | refine ct_false rfl ?_ | refine lt_step ?_))
    refine ⟨(i + 1, K', v4, H4), ⟨by omega, hdj3.push (w := e.n.toNat) (c := e.c) hpK hx0d u3 k2 k3 hern hw ⟨heok.2.2.1, heok.2.2.2⟩ fun u w' c' _ hP => ?_, hhp4, hq4, by dsimp only; omega⟩, by dsimp only; omega, by repeat (first | exact SubL.nil | refine SubL.cons rfl ?_), by exact drop_auto⟩
    by_cases hu : u = x0.n.toNat
    · obtain ⟨j, e', hj, hj2, e1, e2⟩ := hP hu
      by_cases g : j = i
      · subst g
        rw [he] at hj2
        cases hj2
        exact .inr ⟨hu, by omega, e2.symm⟩
      · exact .inl fun _ => ⟨j, e', by omega, hj2, e1, e2⟩
    · exact .inl fun h => absurd h hu
  · repeat (first | (first | refine rt_nil ?_ | (refine isRun ?_; first | refine x1 ?_ | refine x2 ?_ | refine x3 fun _ => ?_ | refine x4 fun _ => ?_ | refine x5 fun _ => ?_ | (refine rt_step rfl rfl rfl ?_; first | refine st_buildSlice rfl (zr rfl) rfl rfl rfl rfl rfl rfl fun _ => ?_ | refine st_A rfl rfl (fun _ => rfl) rfl fun _ => ?_) | refine x8 ?_ | refine rt_skip rfl rfl rfl ?_ | refine rt_skip0 rfl rfl ?_)) | (first | refine sq_n ?_ | refine sq_r ?_ | refine sq_e ?_ | refine bk_n ?_ | refine bk_r ?_ | refine bk_e rfl ?_ | refine bk_x rfl ?_ | refine ct_seq ?_ | refine ct_region rfl ?_ | refine ct_skip ?_ | refine ct_label ?_ | refine ct_block ?_ | refine ct_exit ?_ | refine ct_ret ?_ | refine ct_scope ?_ | refine ct_true rfl ?_ | refine ct_false rfl ?_ | refine lt_step ?_))
    refine ⟨(i + 1, K, v3, H3), ⟨by omega, hdj3.weak fun u w c _ hP => ?_, hhp3, hq3, by dsimp only; omega⟩, by dsimp only; omega, by repeat (first | exact SubL.nil | refine SubL.cons rfl ?_), by exact drop_auto⟩
    by_cases hw : 0 ≤ d1.getD w (-1)
    · exact .inr hw
    · refine .inl fun hu => ?_
      obtain ⟨j, e', hj, hj2, e1, e2⟩ := hP hu
      by_cases g : j = i
      · subst g
        rw [he] at hj2
        cases hj2
        rw [e1, Int.toNat_natCast] at hc4
        omega
      · exact ⟨j, e', by omega, hj2, e1, e2⟩
end
end Go.Proofs.Ytdaigoiekkofoaa.Abs
