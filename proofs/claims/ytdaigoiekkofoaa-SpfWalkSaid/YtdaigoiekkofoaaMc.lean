/- Chosen paths and numbers of paths, in plain Lean. -/
import Derived.Test.YtdaigoiekkofoaaMb
namespace Go.Proofs.Ytdaigoiekkofoaa.Abs
set_option linter.unusedVariables false
/-- The other end of a link. -/
def oth (L : List Ln) (i : Int) (n : Nat) : Nat := match L[i.toNat]? with
  | some x => if x.a = n then x.b.toNat else x.a.toNat
  | none => 0
theorem nxL_mem {L : List Ln} {U : List Bool} {d : List Int} {f n : Nat} {i : Int} (h : i ∈ nxL L U d f n) : ∃ (j : Nat) (x : Ln), i = (j : Int) ∧ j < n ∧ L[j]? = some x ∧ U[j]? = some true ∧ nxB L U d f j = true := by
  unfold nxL at h
  obtain ⟨j, hj, rfl⟩ := List.mem_map.1 h
  obtain ⟨h1, h2⟩ := List.mem_filter.1 hj
  have h3 := h2
  unfold nxB at h2
  split at h2
  · rename_i x e1 e2
    exact ⟨j, x, rfl, List.mem_range.1 h1, e1, e2, h3⟩
  · cases h2
/-- A link of Next leads to a node that is nearer. -/
theorem nxL_oth {N : Nat} {L : List Ln} {U : List Bool} {d : List Int} {f n : Nat} {i : Int} (hok : netOk N L U) (h : i ∈ nxL L U d f n) :
    ∃ x, L[i.toNat]? = some x ∧ U[i.toNat]? = some true ∧ 0 ≤ i ∧ i < n ∧ (x.a = f ∧ x.b = oth L i f ∨ x.a ≠ f ∧ x.b = f ∧ x.a = oth L i f) ∧ oth L i f < N ∧ 0 ≤ d.getD (oth L i f) (-1) ∧ d.getD (oth L i f) (-1) + x.c = d.getD f (-1) ∧ 1 ≤ x.c ∧ x.c ≤ 1000 := by
  obtain ⟨j, x, rfl, h1, h2, h3, h4⟩ := nxL_mem h
  have hg := hok.2.2.2.2 x (List.mem_of_getElem? h2)
  unfold goodL at hg
  have e : oth L (j : Int) f = if x.a = f then x.b.toNat else x.a.toNat := by
    unfold oth
    rw [Int.toNat_natCast, h2]
  refine ⟨x, by rw [Int.toNat_natCast]; exact h2, by rw [Int.toNat_natCast]; exact h3, by omega, by omega, ?_⟩
  rw [nxB_iff h2 h3] at h4
  rcases h4 with ⟨a1, a2, a3⟩ | ⟨a1, a2, a3, a4⟩
  · rw [e, if_pos a1]
    refine ⟨.inl ⟨a1, by omega⟩, by omega, a2, a3, by omega, by omega⟩
  · rw [e, if_neg a1]
    refine ⟨.inr ⟨a1, a2, by omega⟩, by omega, a3, a4, by omega, by omega⟩
/-- The chosen link by which a node is reached, or -1. -/
def par (L : List Ln) (U : List Bool) (d : List Int) (n : Nat) : Int := (nxL L U d n L.length).headD (-1)
def pars (L : List Ln) (U : List Bool) (d : List Int) (M : Nat) : List Int := (List.range M).map fun (n : Nat) => par L U d n
theorem par_cases (L : List Ln) (U : List Bool) (d : List Int) (n : Nat) : (nxL L U d n L.length = [] ∧ par L U d n = -1) ∨ ∃ r, nxL L U d n L.length = par L U d n :: r ∧ par L U d n ∈ nxL L U d n L.length := by
  unfold par
  cases h : nxL L U d n L.length with
  | nil => exact .inl ⟨rfl, rfl⟩
  | cons a r => exact .inr ⟨r, rfl, List.mem_cons_self⟩
theorem par_nonneg {N : Nat} {L : List Ln} {U : List Bool} {d : List Int} {n : Nat} (hok : netOk N L U) (h : 0 ≤ par L U d n) : par L U d n ∈ nxL L U d n L.length := by
  rcases par_cases L U d n with ⟨_, h2⟩ | ⟨r, _, h2⟩
  · omega
  · exact h2
theorem pars_getD {L : List Ln} {U : List Bool} {d : List Int} {M n : Nat} (h : n < M) : (pars L U d M).getD n (-1) = par L U d n := by
  unfold pars
  rw [List.getD_eq_getElem?_getD, List.getElem?_map, List.getElem?_range h]
  rfl
theorem pars_length (L : List Ln) (U : List Bool) (d : List Int) (M : Nat) : (pars L U d M).length = M := by unfold pars; simp
/-- The chosen path to a node. -/
inductive PathTo (L : List Ln) (U : List Bool) (d : List Int) : Nat → List Int → Prop where
  | stop {n : Nat} (h : par L U d n < 0) : PathTo L U d n []
  | step {n : Nat} {p : List Int} (h : 0 ≤ par L U d n) (hp : PathTo L U d (oth L (par L U d n) n) p) : PathTo L U d n (p ++ [par L U d n])
theorem PathTo.uniq {L : List Ln} {U : List Bool} {d : List Int} {n : Nat} {p q : List Int} (h : PathTo L U d n p) (h' : PathTo L U d n q) : p = q := by
  induction h generalizing q with
  | stop h =>
    cases h' with
    | stop => rfl
    | step g _ => omega
  | step h hp ih =>
    cases h' with
    | stop g => omega
    | step g gp => rw [ih gp]
/-- The number of shortest paths to t, at most 2^30; with fuel. -/
def cntF (L : List Ln) (U : List Bool) (d : List Int) (t : Nat) : Nat → Nat → Int
  | 0, _ => 0
  | k + 1, n => if n = t then 1 else if d.getD n (-1) < 0 then 0 else (nxL L U d n L.length).foldl (fun s i => min 1073741824 (s + cntF L U d t k (oth L i n))) 0
theorem foldl_congr {α β : Type} {f g : β → α → β} : ∀ {l : List α} {b : β}, (∀ b a, a ∈ l → f b a = g b a) → l.foldl f b = l.foldl g b
  | [], _, _ => rfl
  | a :: l, b, h => by
    rw [List.foldl_cons, List.foldl_cons, h b a List.mem_cons_self]
    exact foldl_congr fun b a' ha => h b a' (List.mem_cons_of_mem _ ha)
theorem cntF_stable {N : Nat} {L : List Ln} {U : List Bool} {d : List Int} {t : Nat} (hok : netOk N L U) : ∀ (k k' n : Nat), d.getD n (-1) < k → d.getD n (-1) < k' → 0 < k → 0 < k' → cntF L U d t k n = cntF L U d t k' n := by
  intro k
  induction k with
  | zero => intro k' n h1 h2 h3; omega
  | succ k ih =>
    intro k' n h1 h2 _ h4
    obtain ⟨k', rfl⟩ : ∃ j, k' = j + 1 := ⟨k' - 1, by omega⟩
    unfold cntF
    split
    · rfl
    · split
      · rfl
      · refine foldl_congr fun b i hi => ?_
        obtain ⟨x, _, _, _, _, _, _, g1, g2, g3, _⟩ := nxL_oth hok hi
        rw [ih k' _ (by omega) (by omega) (by omega) (by omega)]
/-- The number of shortest paths from n to t, at most 2^30. -/
def npaths (L : List Ln) (U : List Bool) (d : List Int) (t n : Nat) : Int := cntF L U d t 32000 n
def addP (s c : Int) : Int := min 1073741824 (s + c)
theorem npaths_self (L : List Ln) (U : List Bool) (d : List Int) (t : Nat) : npaths L U d t t = 1 := by
  unfold npaths cntF
  rw [if_pos rfl]
theorem npaths_none {L : List Ln} {U : List Bool} {d : List Int} {t n : Nat} (h : n ≠ t) (h0 : d.getD n (-1) < 0) : npaths L U d t n = 0 := by
  unfold npaths cntF
  rw [if_neg h, if_pos h0]
theorem npaths_eq {N : Nat} {L : List Ln} {U : List Bool} {d : List Int} {t n : Nat} (hok : netOk N L U) (hb : ∀ n, d.getD n (-1) ≤ 31000) (h : n ≠ t) (h0 : 0 ≤ d.getD n (-1)) :
    npaths L U d t n = (nxL L U d n L.length).foldl (fun s i => addP s (npaths L U d t (oth L i n))) 0 := by
  unfold npaths
  rw [cntF, if_neg h, if_neg (by omega)]
  refine foldl_congr fun b i hi => ?_
  unfold addP
  have := hb (oth L i n)
  rw [cntF_stable hok 31999 32000 _ (by omega) (by omega) (by omega) (by omega)]
theorem cntF_range {L : List Ln} {U : List Bool} {d : List Int} {t : Nat} : ∀ (k n : Nat), 0 ≤ cntF L U d t k n ∧ cntF L U d t k n ≤ 1073741824 := by
  intro k
  induction k with
  | zero => intro n; exact ⟨Int.le_refl 0, (by decide : (0 : Int) ≤ 1073741824)⟩
  | succ k ih =>
    intro n
    unfold cntF
    split
    · decide
    · split
      · decide
      · have : ∀ (l : List Int) (s : Int), 0 ≤ s ∧ s ≤ 1073741824 → 0 ≤ l.foldl (fun s i => min 1073741824 (s + cntF L U d t k (oth L i n))) s ∧ l.foldl (fun s i => min 1073741824 (s + cntF L U d t k (oth L i n))) s ≤ 1073741824 := by
          intro l
          induction l with
          | nil => intro s h; exact h
          | cons a l ih2 =>
            intro s h
            rw [List.foldl_cons]
            refine ih2 _ ?_
            have := ih (oth L a n)
            omega
        exact this _ 0 (by decide)
theorem npaths_range (L : List Ln) (U : List Bool) (d : List Int) (t n : Nat) : 0 ≤ npaths L U d t n ∧ npaths L U d t n ≤ 1073741824 := cntF_range _ _
end Go.Proofs.Ytdaigoiekkofoaa.Abs

/- The reference's Parents and Path. -/
namespace Go.Proofs.Ytdaigoiekkofoaa.Abs
open Go
set_option linter.unusedVariables false
theorem pars_succ (L : List Ln) (U : List Bool) (d : List Int) (n : Nat) : pars L U d (n + 1) = pars L U d n ++ [par L U d n] := by
  unfold pars
  rw [List.range_succ, List.map_append]
  rfl
theorem nxL_len (L : List Ln) (U : List Bool) (d : List Int) (f n : Nat) : (nxL L U d f n).length ≤ n := by
  unfold nxL
  rw [List.length_map]
  have := List.length_filter_le (nxB L U d f) (List.range n)
  rwa [List.length_range] at this
section
variable {B0 : Nat} {old : Nat → Option (List Value)} {n : Nat} {H : Hp} {Q : Value → Hp → Prop}
set_option maxRecDepth 10000
set_option maxHeartbeats 4000000
theorem rparents_ct (N k : Int) (ad ad2 : Option Addr) (c c2 : Nat) (L : List Ln) (U : List Bool) (h1 : Arr (cx B0 old) H ad 3 encLn L) (h2 : Arr (cx B0 old) H ad2 1 (fun b => [.bool b]) U) (hl : L.length ≤ 9223372036854775807)
    (hgood : ∀ (M s : Nat) d v Hs, N = M → k = s → netOk N L U → s < M → IsDist (Rn L U) M s d → Own encI 1 (pars L U d M) v Hs → Q v (Hs ++ H)) (hbad : ¬ (netOk N L U ∧ 0 ≤ k ∧ k < N) → Q (.slice none 0 0) H) :
    CallT (cx B0 old) (acall (cx B0 old) ansP (n + 5)) 25 [.int .i64 N, .slice ad L.length c, .slice ad2 U.length c2, .int .i64 k] H Q := by
  refine call_in4 43 rfl Try.func25 rfl rfl ?_
  repeat (first | (first | refine rt_nil ?_ | (refine isRun ?_; first | refine x1 ?_ | refine x2 ?_ | refine x3 fun _ => ?_ | refine x4 fun _ => ?_ | refine x5 fun _ => ?_ | (refine rt_step rfl rfl rfl ?_; first | refine st_buildSlice rfl (zr rfl) rfl rfl rfl rfl rfl rfl fun _ => ?_ | refine st_A rfl rfl (fun _ => rfl) rfl fun _ => ?_) | refine x8 ?_ | refine rt_skip rfl rfl rfl ?_ | refine rt_skip0 rfl rfl ?_)) | (first | refine sq_n ?_ | refine sq_r ?_ | refine sq_e ?_ | refine bk_n ?_ | refine bk_r ?_ | refine bk_e rfl ?_ | refine bk_x rfl ?_ | refine ct_seq ?_ | refine ct_region rfl ?_ | refine ct_skip ?_ | refine ct_label ?_ | refine ct_block ?_ | refine ct_exit ?_ | refine ct_ret ?_ | refine ct_scope ?_ | refine ct_true rfl ?_ | refine ct_false rfl ?_ | refine lt_step ?_))
  refine rt_step rfl rfl rfl (st_call rfl rfl rfl rfl (rdist_ct N k ad ad2 c c2 L U h1 h2 hl (fun M s d b e1 e2 hok hs hd => ?_) (fun hno => ?_)))
  rotate_left
  · repeat (first | (first | refine rt_nil ?_ | (refine isRun ?_; first | refine x1 ?_ | refine x2 ?_ | refine x3 fun _ => ?_ | refine x4 fun _ => ?_ | refine x5 fun _ => ?_ | (refine rt_step rfl rfl rfl ?_; first | refine st_buildSlice rfl (zr rfl) rfl rfl rfl rfl rfl rfl fun _ => ?_ | refine st_A rfl rfl (fun _ => rfl) rfl fun _ => ?_) | refine x8 ?_ | refine rt_skip rfl rfl rfl ?_ | refine rt_skip0 rfl rfl ?_)) | (first | refine sq_n ?_ | refine sq_r ?_ | refine sq_e ?_ | refine bk_n ?_ | refine bk_r ?_ | refine bk_e rfl ?_ | refine bk_x rfl ?_ | refine ct_seq ?_ | refine ct_region rfl ?_ | refine ct_skip ?_ | refine ct_label ?_ | refine ct_block ?_ | refine ct_exit ?_ | refine ct_ret ?_ | refine ct_scope ?_ | refine ct_true rfl ?_ | refine ct_false rfl ?_ | refine lt_step ?_))
    refine loop_ind (ι := Unit) () (fun _ => 0) (fun _ => True) (fun _ => [(11, .int .i64 0), (10, .slice none 0 0), (9, .slice none 0 0)]) (fun _ => H) trivial (by repeat (first | exact SubL.nil | refine SubL.cons rfl ?_)) (by exact drop_auto) ?_
    intro _ _
    repeat (first | (first | refine rt_nil ?_ | (refine isRun ?_; first | refine x1 ?_ | refine x2 ?_ | refine x3 fun _ => ?_ | refine x4 fun _ => ?_ | refine x5 fun _ => ?_ | (refine rt_step rfl rfl rfl ?_; first | refine st_buildSlice rfl (zr rfl) rfl rfl rfl rfl rfl rfl fun _ => ?_ | refine st_A rfl rfl (fun _ => rfl) rfl fun _ => ?_) | refine x8 ?_ | refine rt_skip rfl rfl rfl ?_ | refine rt_skip0 rfl rfl ?_)) | (first | refine sq_n ?_ | refine sq_r ?_ | refine sq_e ?_ | refine bk_n ?_ | refine bk_r ?_ | refine bk_e rfl ?_ | refine bk_x rfl ?_ | refine ct_seq ?_ | refine ct_region rfl ?_ | refine ct_skip ?_ | refine ct_label ?_ | refine ct_block ?_ | refine ct_exit ?_ | refine ct_ret ?_ | refine ct_scope ?_ | refine ct_true rfl ?_ | refine ct_false rfl ?_ | refine lt_step ?_))
    exact re_1 rfl rfl (by exact drop_auto) (hbad hno)
  subst e1 e2
  have hM : M ≤ 32 := by have := hok.2.1; omega
  have hdl := hd.1
  have hLl : L.length ≤ 128 := hok.2.2.1
  clear hbad
  repeat (first | (first | refine rt_nil ?_ | (refine isRun ?_; first | refine x1 ?_ | refine x2 ?_ | refine x3 fun _ => ?_ | refine x4 fun _ => ?_ | refine x5 fun _ => ?_ | (refine rt_step rfl rfl rfl ?_; first | refine st_buildSlice rfl (zr rfl) rfl rfl rfl rfl rfl rfl fun _ => ?_ | refine st_A rfl rfl (fun _ => rfl) rfl fun _ => ?_) | refine x8 ?_ | refine rt_skip rfl rfl rfl ?_ | refine rt_skip0 rfl rfl ?_)) | (first | refine sq_n ?_ | refine sq_r ?_ | refine sq_e ?_ | refine bk_n ?_ | refine bk_r ?_ | refine bk_e rfl ?_ | refine bk_x rfl ?_ | refine ct_seq ?_ | refine ct_region rfl ?_ | refine ct_skip ?_ | refine ct_label ?_ | refine ct_block ?_ | refine ct_exit ?_ | refine ct_ret ?_ | refine ct_scope ?_ | refine ct_true rfl ?_ | refine ct_false rfl ?_ | refine lt_step ?_))
  refine loop_ind (ι := Nat × Value × Hp) (0, .slice none 0 0, []) (fun i => M - i.1) (fun i => i.1 ≤ M ∧ Own encI 1 (pars L U d i.1) i.2.1 i.2.2)
    (fun i => [(11, .int .i64 (i.1 : Int)), (10, i.2.1), (9, .slice (some ⟨b, 0, none⟩) M M), (0, .int .i64 M), (1, .slice ad L.length c), (2, .slice ad2 U.length c2), (3, .int .i64 s)])
    (fun i => i.2.2 ++ ((b, .row (d.map vI) 1 false) :: H)) ⟨Nat.zero_le _, (Own.nil : Own encI 1 [] _ _)⟩ (by repeat (first | exact SubL.nil | refine SubL.cons rfl ?_)) (by exact drop_auto) ?_
  rintro ⟨i, v, Ho⟩ ⟨hi, ho⟩
  simp only at hi ho ⊢
  repeat (first | (first | refine rt_nil ?_ | (refine isRun ?_; first | refine x1 ?_ | refine x2 ?_ | refine x3 fun _ => ?_ | refine x4 fun _ => ?_ | refine x5 fun _ => ?_ | (refine rt_step rfl rfl rfl ?_; first | refine st_buildSlice rfl (zr rfl) rfl rfl rfl rfl rfl rfl fun _ => ?_ | refine st_A rfl rfl (fun _ => rfl) rfl fun _ => ?_) | refine x8 ?_ | refine rt_skip rfl rfl rfl ?_ | refine rt_skip0 rfl rfl ?_)) | (first | refine sq_n ?_ | refine sq_r ?_ | refine sq_e ?_ | refine bk_n ?_ | refine bk_r ?_ | refine bk_e rfl ?_ | refine bk_x rfl ?_ | refine ct_seq ?_ | refine ct_region rfl ?_ | refine ct_skip ?_ | refine ct_label ?_ | refine ct_block ?_ | refine ct_exit ?_ | refine ct_ret ?_ | refine ct_scope ?_ | refine ct_true rfl ?_ | refine ct_false rfl ?_ | refine lt_step ?_))
  refine ct_condT te_d rfl (fun hc => ?_) (fun hc => ?_)
  rotate_left
  · have hc : i = M := by omega
    subst hc
    repeat (first | (first | refine rt_nil ?_ | (refine isRun ?_; first | refine x1 ?_ | refine x2 ?_ | refine x3 fun _ => ?_ | refine x4 fun _ => ?_ | refine x5 fun _ => ?_ | (refine rt_step rfl rfl rfl ?_; first | refine st_buildSlice rfl (zr rfl) rfl rfl rfl rfl rfl rfl fun _ => ?_ | refine st_A rfl rfl (fun _ => rfl) rfl fun _ => ?_) | refine x8 ?_ | refine rt_skip rfl rfl rfl ?_ | refine rt_skip0 rfl rfl ?_)) | (first | refine sq_n ?_ | refine sq_r ?_ | refine sq_e ?_ | refine bk_n ?_ | refine bk_r ?_ | refine bk_e rfl ?_ | refine bk_x rfl ?_ | refine ct_seq ?_ | refine ct_region rfl ?_ | refine ct_skip ?_ | refine ct_label ?_ | refine ct_block ?_ | refine ct_exit ?_ | refine ct_ret ?_ | refine ct_scope ?_ | refine ct_true rfl ?_ | refine ct_false rfl ?_ | refine lt_step ?_))
    exact re_1 rfl rfl (H' := Ho ++ H) (by exact drop_auto) (hgood i s d v Ho rfl rfl hok hs hd ho)
  have hc' : i < M := by omega
  repeat (first | (first | refine rt_nil ?_ | (refine isRun ?_; first | refine x1 ?_ | refine x2 ?_ | refine x3 fun _ => ?_ | refine x4 fun _ => ?_ | refine x5 fun _ => ?_ | (refine rt_step rfl rfl rfl ?_; first | refine st_buildSlice rfl (zr rfl) rfl rfl rfl rfl rfl rfl fun _ => ?_ | refine st_A rfl rfl (fun _ => rfl) rfl fun _ => ?_) | refine x8 ?_ | refine rt_skip rfl rfl rfl ?_ | refine rt_skip0 rfl rfl ?_)) | (first | refine sq_n ?_ | refine sq_r ?_ | refine sq_e ?_ | refine bk_n ?_ | refine bk_r ?_ | refine bk_e rfl ?_ | refine bk_x rfl ?_ | refine ct_seq ?_ | refine ct_region rfl ?_ | refine ct_skip ?_ | refine ct_label ?_ | refine ct_block ?_ | refine ct_exit ?_ | refine ct_ret ?_ | refine ct_scope ?_ | refine ct_true rfl ?_ | refine ct_false rfl ?_ | refine lt_step ?_))
  refine rt_step rfl rfl rfl (st_call rfl rfl rfl rfl (rnext_ct M i s ad ad2 c c2 L U (h1.weak (by exact drop_auto)) (h2.weak (by exact drop_auto)) hl (fun M' f t d' v' Hs' e1 e2 e3 _ hf ht hd' ho' => ?_) (fun hno => absurd (show netOk (M : Int) L U ∧ _ from ⟨hok, by omega, by omega, by omega, by omega⟩) hno)))
  obtain rfl : M = M' := by omega
  obtain rfl : i = f := by omega
  obtain rfl : s = t := by omega
  obtain rfl : d' = d := hd'.uniq hd
  have hlen := nxL_len L U d' i L.length
  have hps := pars_succ L U d' i
  have hpl := pars_length L U d' i
  obtain ⟨ad3, c3, rfl, ha3⟩ := ho'.arrW (C := cx B0 old) encI_len
  repeat (first | (first | refine rt_nil ?_ | (refine isRun ?_; first | refine x1 ?_ | refine x2 ?_ | refine x3 fun _ => ?_ | refine x4 fun _ => ?_ | refine x5 fun _ => ?_ | (refine rt_step rfl rfl rfl ?_; first | refine st_buildSlice rfl (zr rfl) rfl rfl rfl rfl rfl rfl fun _ => ?_ | refine st_A rfl rfl (fun _ => rfl) rfl fun _ => ?_) | refine x8 ?_ | refine rt_skip rfl rfl rfl ?_ | refine rt_skip0 rfl rfl ?_)) | (first | refine sq_n ?_ | refine sq_r ?_ | refine sq_e ?_ | refine bk_n ?_ | refine bk_r ?_ | refine bk_e rfl ?_ | refine bk_x rfl ?_ | refine ct_seq ?_ | refine ct_region rfl ?_ | refine ct_skip ?_ | refine ct_label ?_ | refine ct_block ?_ | refine ct_exit ?_ | refine ct_ret ?_ | refine ct_scope ?_ | refine ct_true rfl ?_ | refine ct_false rfl ?_ | refine lt_step ?_))
  refine ct_condT te_e rfl (fun hz => ?_) (fun hz => ?_)
  · have hp : par L U d' i = -1 := by
      rcases par_cases L U d' i with ⟨_, h⟩ | ⟨r, h, _⟩
      · exact h
      · rw [h] at hz; simp at hz; omega
    rw [hp] at hps
    repeat (first | (first | refine rt_nil ?_ | (refine isRun ?_; first | refine x1 ?_ | refine x2 ?_ | refine x3 fun _ => ?_ | refine x4 fun _ => ?_ | refine x5 fun _ => ?_ | (refine rt_step rfl rfl rfl ?_; first | refine st_buildSlice rfl (zr rfl) rfl rfl rfl rfl rfl rfl fun _ => ?_ | refine st_A rfl rfl (fun _ => rfl) rfl fun _ => ?_) | refine x8 ?_ | refine rt_skip rfl rfl rfl ?_ | refine rt_skip0 rfl rfl ?_)) | (first | refine sq_n ?_ | refine sq_r ?_ | refine sq_e ?_ | refine bk_n ?_ | refine bk_r ?_ | refine bk_e rfl ?_ | refine bk_x rfl ?_ | refine ct_seq ?_ | refine ct_region rfl ?_ | refine ct_skip ?_ | refine ct_label ?_ | refine ct_block ?_ | refine ct_exit ?_ | refine ct_ret ?_ | refine ct_scope ?_ | refine ct_true rfl ?_ | refine ct_false rfl ?_ | refine lt_step ?_))
    refine rt_step rfl rfl rfl (st_appP (M := [(-1 : Int)]) (c := 1) (pre := _ :: Hs') ho encI_len encI_one rfl rfl (ap rfl) (arrW_one encI_len hm0) (by show _ * (8 + 1) ≤ _; simp only [List.length_singleton]; omega) fun v2 Ho2 ho2 => ?_)
    repeat (first | (first | refine rt_nil ?_ | (refine isRun ?_; first | refine x1 ?_ | refine x2 ?_ | refine x3 fun _ => ?_ | refine x4 fun _ => ?_ | refine x5 fun _ => ?_ | (refine rt_step rfl rfl rfl ?_; first | refine st_buildSlice rfl (zr rfl) rfl rfl rfl rfl rfl rfl fun _ => ?_ | refine st_A rfl rfl (fun _ => rfl) rfl fun _ => ?_) | refine x8 ?_ | refine rt_skip rfl rfl rfl ?_ | refine rt_skip0 rfl rfl ?_)) | (first | refine sq_n ?_ | refine sq_r ?_ | refine sq_e ?_ | refine bk_n ?_ | refine bk_r ?_ | refine bk_e rfl ?_ | refine bk_x rfl ?_ | refine ct_seq ?_ | refine ct_region rfl ?_ | refine ct_skip ?_ | refine ct_label ?_ | refine ct_block ?_ | refine ct_exit ?_ | refine ct_ret ?_ | refine ct_scope ?_ | refine ct_true rfl ?_ | refine ct_false rfl ?_ | refine lt_step ?_))
    exact ⟨(i + 1, v2, Ho2), ⟨hc', by rw [hps]; exact ho2⟩, by show M - (i + 1) < M - i; omega, by repeat (first | exact SubL.nil | refine SubL.cons rfl ?_), by exact drop_auto⟩
  · obtain ⟨r, hr, hmem⟩ : ∃ r, nxL L U d' i L.length = par L U d' i :: r ∧ par L U d' i ∈ nxL L U d' i L.length := by
      rcases par_cases L U d' i with ⟨h, _⟩ | h
      · rw [h] at hz; exact absurd rfl hz
      · exact h
    obtain ⟨b3, o3, rfl, hL0⟩ := (((ha3 [] (Ho ++ ((b, .row (d'.map vI) 1 false) :: H))).arr encI_len)).ld1 3 (i := 0) (by rw [hr]; rfl) rfl rfl (sz rfl)
    repeat (first | (first | refine rt_nil ?_ | (refine isRun ?_; first | refine x1 ?_ | refine x2 ?_ | refine x3 fun _ => ?_ | refine x4 fun _ => ?_ | refine x5 fun _ => ?_ | (refine rt_step rfl rfl rfl ?_; first | refine st_buildSlice rfl (zr rfl) rfl rfl rfl rfl rfl rfl fun _ => ?_ | refine st_A rfl rfl (fun _ => rfl) rfl fun _ => ?_) | refine x8 ?_ | refine rt_skip rfl rfl rfl ?_ | refine rt_skip0 rfl rfl ?_)) | (first | refine sq_n ?_ | refine sq_r ?_ | refine sq_e ?_ | refine bk_n ?_ | refine bk_r ?_ | refine bk_e rfl ?_ | refine bk_x rfl ?_ | refine ct_seq ?_ | refine ct_region rfl ?_ | refine ct_skip ?_ | refine ct_label ?_ | refine ct_block ?_ | refine ct_exit ?_ | refine ct_ret ?_ | refine ct_scope ?_ | refine ct_true rfl ?_ | refine ct_false rfl ?_ | refine lt_step ?_))
    refine rt_step rfl rfl rfl (st_appP (M := [par L U d' i]) (c := 1) (pre := _ :: Hs') ho encI_len encI_one rfl rfl (ap rfl) (arrW_one encI_len hm0) (by show _ * (8 + 1) ≤ _; simp only [List.length_singleton]; omega) fun v2 Ho2 ho2 => ?_)
    repeat (first | (first | refine rt_nil ?_ | (refine isRun ?_; first | refine x1 ?_ | refine x2 ?_ | refine x3 fun _ => ?_ | refine x4 fun _ => ?_ | refine x5 fun _ => ?_ | (refine rt_step rfl rfl rfl ?_; first | refine st_buildSlice rfl (zr rfl) rfl rfl rfl rfl rfl rfl fun _ => ?_ | refine st_A rfl rfl (fun _ => rfl) rfl fun _ => ?_) | refine x8 ?_ | refine rt_skip rfl rfl rfl ?_ | refine rt_skip0 rfl rfl ?_)) | (first | refine sq_n ?_ | refine sq_r ?_ | refine sq_e ?_ | refine bk_n ?_ | refine bk_r ?_ | refine bk_e rfl ?_ | refine bk_x rfl ?_ | refine ct_seq ?_ | refine ct_region rfl ?_ | refine ct_skip ?_ | refine ct_label ?_ | refine ct_block ?_ | refine ct_exit ?_ | refine ct_ret ?_ | refine ct_scope ?_ | refine ct_true rfl ?_ | refine ct_false rfl ?_ | refine lt_step ?_))
    exact ⟨(i + 1, v2, Ho2), ⟨hc', by rw [hps]; exact ho2⟩, by show M - (i + 1) < M - i; omega, by repeat (first | exact SubL.nil | refine SubL.cons rfl ?_), by exact drop_auto⟩
theorem rpath_ct (N k k2 : Int) (ad ad2 : Option Addr) (c c2 : Nat) (L : List Ln) (U : List Bool) (h1 : Arr (cx B0 old) H ad 3 encLn L) (h2 : Arr (cx B0 old) H ad2 1 (fun b => [.bool b]) U) (hl : L.length ≤ 9223372036854775807)
    (hgood : ∀ (M s t : Nat) d p v Hs, N = M → k = s → k2 = t → netOk N L U → s < M → t < M → IsDist (Rn L U) M s d → PathTo L U d t p → Own encI 1 p v Hs → Q v (Hs ++ H)) (hbad : ¬ (netOk N L U ∧ 0 ≤ k ∧ k < N ∧ 0 ≤ k2 ∧ k2 < N) → Q (.slice none 0 0) H) :
    CallT (cx B0 old) (acall (cx B0 old) ansP (n + 6)) 27 [.int .i64 N, .slice ad L.length c, .slice ad2 U.length c2, .int .i64 k, .int .i64 k2] H Q := by
  refine call_in 56 rfl Try.func27 rfl rfl ?_
  repeat (first | (first | refine rt_nil ?_ | (refine isRun ?_; first | refine x1 ?_ | refine x2 ?_ | refine x3 fun _ => ?_ | refine x4 fun _ => ?_ | refine x5 fun _ => ?_ | (refine rt_step rfl rfl rfl ?_; first | refine st_buildSlice rfl (zr rfl) rfl rfl rfl rfl rfl rfl fun _ => ?_ | refine st_A rfl rfl (fun _ => rfl) rfl fun _ => ?_) | refine x8 ?_ | refine rt_skip rfl rfl rfl ?_ | refine rt_skip0 rfl rfl ?_)) | (first | refine sq_n ?_ | refine sq_r ?_ | refine sq_e ?_ | refine bk_n ?_ | refine bk_r ?_ | refine bk_e rfl ?_ | refine bk_x rfl ?_ | refine ct_seq ?_ | refine ct_region rfl ?_ | refine ct_skip ?_ | refine ct_label ?_ | refine ct_block ?_ | refine ct_exit ?_ | refine ct_ret ?_ | refine ct_scope ?_ | refine ct_true rfl ?_ | refine ct_false rfl ?_ | refine lt_step ?_))
  refine rt_step rfl rfl rfl (st_call rfl rfl rfl rfl (rvalid_ct N k2 ad ad2 c c2 L U h1 hl (fun hok k0 kN => ?_) (fun hno => ?_)))
  rotate_left
  · repeat (first | (first | refine rt_nil ?_ | (refine isRun ?_; first | refine x1 ?_ | refine x2 ?_ | refine x3 fun _ => ?_ | refine x4 fun _ => ?_ | refine x5 fun _ => ?_ | (refine rt_step rfl rfl rfl ?_; first | refine st_buildSlice rfl (zr rfl) rfl rfl rfl rfl rfl rfl fun _ => ?_ | refine st_A rfl rfl (fun _ => rfl) rfl fun _ => ?_) | refine x8 ?_ | refine rt_skip rfl rfl rfl ?_ | refine rt_skip0 rfl rfl ?_)) | (first | refine sq_n ?_ | refine sq_r ?_ | refine sq_e ?_ | refine bk_n ?_ | refine bk_r ?_ | refine bk_e rfl ?_ | refine bk_x rfl ?_ | refine ct_seq ?_ | refine ct_region rfl ?_ | refine ct_skip ?_ | refine ct_label ?_ | refine ct_block ?_ | refine ct_exit ?_ | refine ct_ret ?_ | refine ct_scope ?_ | refine ct_true rfl ?_ | refine ct_false rfl ?_ | refine lt_step ?_))
    exact re_1 rfl rfl (by exact drop_auto) (hbad fun h => hno ⟨h.1, h.2.2.2.1, h.2.2.2.2⟩)
  repeat (first | (first | refine rt_nil ?_ | (refine isRun ?_; first | refine x1 ?_ | refine x2 ?_ | refine x3 fun _ => ?_ | refine x4 fun _ => ?_ | refine x5 fun _ => ?_ | (refine rt_step rfl rfl rfl ?_; first | refine st_buildSlice rfl (zr rfl) rfl rfl rfl rfl rfl rfl fun _ => ?_ | refine st_A rfl rfl (fun _ => rfl) rfl fun _ => ?_) | refine x8 ?_ | refine rt_skip rfl rfl rfl ?_ | refine rt_skip0 rfl rfl ?_)) | (first | refine sq_n ?_ | refine sq_r ?_ | refine sq_e ?_ | refine bk_n ?_ | refine bk_r ?_ | refine bk_e rfl ?_ | refine bk_x rfl ?_ | refine ct_seq ?_ | refine ct_region rfl ?_ | refine ct_skip ?_ | refine ct_label ?_ | refine ct_block ?_ | refine ct_exit ?_ | refine ct_ret ?_ | refine ct_scope ?_ | refine ct_true rfl ?_ | refine ct_false rfl ?_ | refine lt_step ?_))
  refine rt_step rfl rfl rfl (st_call rfl rfl rfl rfl (rparents_ct N k ad ad2 c c2 L U h1 h2 hl (fun M s d pv HP e1 e2 hok' hs hd hop => ?_) (fun hno => ?_)))
  rotate_left
  · repeat (first | (first | refine rt_nil ?_ | (refine isRun ?_; first | refine x1 ?_ | refine x2 ?_ | refine x3 fun _ => ?_ | refine x4 fun _ => ?_ | refine x5 fun _ => ?_ | (refine rt_step rfl rfl rfl ?_; first | refine st_buildSlice rfl (zr rfl) rfl rfl rfl rfl rfl rfl fun _ => ?_ | refine st_A rfl rfl (fun _ => rfl) rfl fun _ => ?_) | refine x8 ?_ | refine rt_skip rfl rfl rfl ?_ | refine rt_skip0 rfl rfl ?_)) | (first | refine sq_n ?_ | refine sq_r ?_ | refine sq_e ?_ | refine bk_n ?_ | refine bk_r ?_ | refine bk_e rfl ?_ | refine bk_x rfl ?_ | refine ct_seq ?_ | refine ct_region rfl ?_ | refine ct_skip ?_ | refine ct_label ?_ | refine ct_block ?_ | refine ct_exit ?_ | refine ct_ret ?_ | refine ct_scope ?_ | refine ct_true rfl ?_ | refine ct_false rfl ?_ | refine lt_step ?_))
    refine loop_ind (ι := Unit) () (fun _ => 0) (fun _ => True) (fun _ => [(13, .int .i64 k2), (12, .slice none 0 0), (11, .slice none 0 0)]) (fun _ => H) trivial (by repeat (first | exact SubL.nil | refine SubL.cons rfl ?_)) (by exact drop_auto) ?_
    intro _ _
    repeat (first | (first | refine rt_nil ?_ | (refine isRun ?_; first | refine x1 ?_ | refine x2 ?_ | refine x3 fun _ => ?_ | refine x4 fun _ => ?_ | refine x5 fun _ => ?_ | (refine rt_step rfl rfl rfl ?_; first | refine st_buildSlice rfl (zr rfl) rfl rfl rfl rfl rfl rfl fun _ => ?_ | refine st_A rfl rfl (fun _ => rfl) rfl fun _ => ?_) | refine x8 ?_ | refine rt_skip rfl rfl rfl ?_ | refine rt_skip0 rfl rfl ?_)) | (first | refine sq_n ?_ | refine sq_r ?_ | refine sq_e ?_ | refine bk_n ?_ | refine bk_r ?_ | refine bk_e rfl ?_ | refine bk_x rfl ?_ | refine ct_seq ?_ | refine ct_region rfl ?_ | refine ct_skip ?_ | refine ct_label ?_ | refine ct_block ?_ | refine ct_exit ?_ | refine ct_ret ?_ | refine ct_scope ?_ | refine ct_true rfl ?_ | refine ct_false rfl ?_ | refine lt_step ?_))
    exact re_1 rfl rfl (by exact drop_auto) (hbad fun h => hno ⟨h.1, h.2.1, h.2.2.1⟩)
  subst e1 e2
  obtain ⟨t, rfl⟩ := Int.eq_ofNat_of_zero_le k0
  have ht : t < M := by omega
  have hM : M ≤ 32 := by have := hok.2.1; omega
  have hdl := hd.1
  have hbd := hd.bound (fun u v c hr => hr.all hok) hM
  have hlow := fun n => hd.low (n := n)
  have hLl : L.length ≤ 128 := hok.2.2.1
  have hpl := pars_length L U d M
  obtain ⟨adp, cp, ep, hap⟩ := hop.arrW (C := cx B0 old) encI_len
  rw [hpl] at ep
  subst ep
  clear hbad k0 kN
  repeat (first | (first | refine rt_nil ?_ | (refine isRun ?_; first | refine x1 ?_ | refine x2 ?_ | refine x3 fun _ => ?_ | refine x4 fun _ => ?_ | refine x5 fun _ => ?_ | (refine rt_step rfl rfl rfl ?_; first | refine st_buildSlice rfl (zr rfl) rfl rfl rfl rfl rfl rfl fun _ => ?_ | refine st_A rfl rfl (fun _ => rfl) rfl fun _ => ?_) | refine x8 ?_ | refine rt_skip rfl rfl rfl ?_ | refine rt_skip0 rfl rfl ?_)) | (first | refine sq_n ?_ | refine sq_r ?_ | refine sq_e ?_ | refine bk_n ?_ | refine bk_r ?_ | refine bk_e rfl ?_ | refine bk_x rfl ?_ | refine ct_seq ?_ | refine ct_region rfl ?_ | refine ct_skip ?_ | refine ct_label ?_ | refine ct_block ?_ | refine ct_exit ?_ | refine ct_ret ?_ | refine ct_scope ?_ | refine ct_true rfl ?_ | refine ct_false rfl ?_ | refine lt_step ?_))
  refine loop_ind (ι := Nat × List Int × Value × Hp) (t, [], .slice none 0 0, []) (fun i => (d.getD i.1 (-1) + 1).toNat)
    (fun i => i.1 < M ∧ (i.2.1.length : Int) + d.getD i.1 (-1) ≤ 31000 ∧ (∀ q, PathTo L U d i.1 q → PathTo L U d t (q ++ i.2.1)) ∧ Own encI 1 i.2.1 i.2.2.1 i.2.2.2)
    (fun i => [(13, .int .i64 (i.1 : Int)), (12, i.2.2.1), (11, .slice adp M cp), (0, .int .i64 M), (1, .slice ad L.length c), (2, .slice ad2 U.length c2), (3, .int .i64 s)])
    (fun i => i.2.2.2 ++ (HP ++ H)) ⟨ht, by have := hbd t; dsimp only [List.length_nil]; omega, fun q h => by simpa using h, Own.nil⟩ (by repeat (first | exact SubL.nil | refine SubL.cons rfl ?_)) (by exact drop_auto) ?_
  rintro ⟨m, out, v, Ho⟩ ⟨hm, hlen, hpath, ho⟩
  simp only at hm hlen hpath ho ⊢
  have hlm := hlow m
  have hget : (pars L U d M)[m]? = some (par L U d m) := by
    have := pars_getD (L := L) (U := U) (d := d) hm
    rw [List.getD_eq_getElem?_getD, List.getElem?_eq_getElem (by omega)] at this
    rw [List.getElem?_eq_getElem (by omega)]
    exact congrArg some this
  obtain ⟨b3, o3, rfl, hL0⟩ := ((hap [] H).arr encI_len).ld1 3 hget rfl rfl (sz rfl)
  repeat (first | (first | refine rt_nil ?_ | (refine isRun ?_; first | refine x1 ?_ | refine x2 ?_ | refine x3 fun _ => ?_ | refine x4 fun _ => ?_ | refine x5 fun _ => ?_ | (refine rt_step rfl rfl rfl ?_; first | refine st_buildSlice rfl (zr rfl) rfl rfl rfl rfl rfl rfl fun _ => ?_ | refine st_A rfl rfl (fun _ => rfl) rfl fun _ => ?_) | refine x8 ?_ | refine rt_skip rfl rfl rfl ?_ | refine rt_skip0 rfl rfl ?_)) | (first | refine sq_n ?_ | refine sq_r ?_ | refine sq_e ?_ | refine bk_n ?_ | refine bk_r ?_ | refine bk_e rfl ?_ | refine bk_x rfl ?_ | refine ct_seq ?_ | refine ct_region rfl ?_ | refine ct_skip ?_ | refine ct_label ?_ | refine ct_block ?_ | refine ct_exit ?_ | refine ct_ret ?_ | refine ct_scope ?_ | refine ct_true rfl ?_ | refine ct_false rfl ?_ | refine lt_step ?_))
  refine rt_guardT te_d rfl rfl rfl rfl (fun hc => ?_) (fun hc => absurd hc (by omega))
  repeat (first | (first | refine rt_nil ?_ | (refine isRun ?_; first | refine x1 ?_ | refine x2 ?_ | refine x3 fun _ => ?_ | refine x4 fun _ => ?_ | refine x5 fun _ => ?_ | (refine rt_step rfl rfl rfl ?_; first | refine st_buildSlice rfl (zr rfl) rfl rfl rfl rfl rfl rfl fun _ => ?_ | refine st_A rfl rfl (fun _ => rfl) rfl fun _ => ?_) | refine x8 ?_ | refine rt_skip rfl rfl rfl ?_ | refine rt_skip0 rfl rfl ?_)) | (first | refine sq_n ?_ | refine sq_r ?_ | refine sq_e ?_ | refine bk_n ?_ | refine bk_r ?_ | refine bk_e rfl ?_ | refine bk_x rfl ?_ | refine ct_seq ?_ | refine ct_region rfl ?_ | refine ct_skip ?_ | refine ct_label ?_ | refine ct_block ?_ | refine ct_exit ?_ | refine ct_ret ?_ | refine ct_scope ?_ | refine ct_true rfl ?_ | refine ct_false rfl ?_ | refine lt_step ?_))
  refine ct_condT te_d rfl (fun hc => ?_) (fun hc => ?_)
  rotate_left
  · repeat (first | (first | refine rt_nil ?_ | (refine isRun ?_; first | refine x1 ?_ | refine x2 ?_ | refine x3 fun _ => ?_ | refine x4 fun _ => ?_ | refine x5 fun _ => ?_ | (refine rt_step rfl rfl rfl ?_; first | refine st_buildSlice rfl (zr rfl) rfl rfl rfl rfl rfl rfl fun _ => ?_ | refine st_A rfl rfl (fun _ => rfl) rfl fun _ => ?_) | refine x8 ?_ | refine rt_skip rfl rfl rfl ?_ | refine rt_skip0 rfl rfl ?_)) | (first | refine sq_n ?_ | refine sq_r ?_ | refine sq_e ?_ | refine bk_n ?_ | refine bk_r ?_ | refine bk_e rfl ?_ | refine bk_x rfl ?_ | refine ct_seq ?_ | refine ct_region rfl ?_ | refine ct_skip ?_ | refine ct_label ?_ | refine ct_block ?_ | refine ct_exit ?_ | refine ct_ret ?_ | refine ct_scope ?_ | refine ct_true rfl ?_ | refine ct_false rfl ?_ | refine lt_step ?_))
    exact re_1 rfl rfl (H' := Ho ++ H) (by exact drop_auto) (hgood M s t d out v Ho rfl rfl rfl hok hs ht hd (by simpa using hpath [] (.stop (by omega))) ho)
  have hmem := par_nonneg (d := d) (n := m) hok hc
  obtain ⟨x, hx, hu, hi0, hi1, hab, g1, g2, g3, g4, g5⟩ := nxL_oth hok hmem
  obtain ⟨b4, o4, rfl, hL1⟩ := h1.ldW 27 hx rfl (sz rfl)
  have hpt : (par L U d m).toNat < L.length := by omega
  repeat (first | (first | refine rt_nil ?_ | (refine isRun ?_; first | refine x1 ?_ | refine x2 ?_ | refine x3 fun _ => ?_ | refine x4 fun _ => ?_ | refine x5 fun _ => ?_ | (refine rt_step rfl rfl rfl ?_; first | refine st_buildSlice rfl (zr rfl) rfl rfl rfl rfl rfl rfl fun _ => ?_ | refine st_A rfl rfl (fun _ => rfl) rfl fun _ => ?_) | refine x8 ?_ | refine rt_skip rfl rfl rfl ?_ | refine rt_skip0 rfl rfl ?_)) | (first | refine sq_n ?_ | refine sq_r ?_ | refine sq_e ?_ | refine bk_n ?_ | refine bk_r ?_ | refine bk_e rfl ?_ | refine bk_x rfl ?_ | refine ct_seq ?_ | refine ct_region rfl ?_ | refine ct_skip ?_ | refine ct_label ?_ | refine ct_block ?_ | refine ct_exit ?_ | refine ct_ret ?_ | refine ct_scope ?_ | refine ct_true rfl ?_ | refine ct_false rfl ?_ | refine lt_step ?_))
  obtain ⟨ad5, c5, rfl, ha5⟩ := ho.arrW (C := cx B0 old) encI_len
  refine rt_step rfl rfl rfl (st_appO (L := [par L U d m]) (M := out) (pre := []) (H0 := Ho ++ (HP ++ H)) (Own.fix _ _ 1 (by unfold EL; simp)) encI_len encI_one rfl rfl (ap rfl) ((ha5 [] (HP ++ H)).weak (by exact drop_auto)) (by show _ * (8 + 1) ≤ _; simp only [List.length_singleton]; omega) fun v2 Ho2 ho2 => ?_)
  repeat (first | (first | refine rt_nil ?_ | (refine isRun ?_; first | refine x1 ?_ | refine x2 ?_ | refine x3 fun _ => ?_ | refine x4 fun _ => ?_ | refine x5 fun _ => ?_ | (refine rt_step rfl rfl rfl ?_; first | refine st_buildSlice rfl (zr rfl) rfl rfl rfl rfl rfl rfl fun _ => ?_ | refine st_A rfl rfl (fun _ => rfl) rfl fun _ => ?_) | refine x8 ?_ | refine rt_skip rfl rfl rfl ?_ | refine rt_skip0 rfl rfl ?_)) | (first | refine sq_n ?_ | refine sq_r ?_ | refine sq_e ?_ | refine bk_n ?_ | refine bk_r ?_ | refine bk_e rfl ?_ | refine bk_x rfl ?_ | refine ct_seq ?_ | refine ct_region rfl ?_ | refine ct_skip ?_ | refine ct_label ?_ | refine ct_block ?_ | refine ct_exit ?_ | refine ct_ret ?_ | refine ct_scope ?_ | refine ct_true rfl ?_ | refine ct_false rfl ?_ | refine lt_step ?_))
  refine rt_step rfl rfl rfl (st_call rfl rfl rfl rfl (other_ct x m (fun g => ?_) (fun g g' => ?_) (fun g g' => absurd hab (by omega))))
  · repeat (first | (first | refine rt_nil ?_ | (refine isRun ?_; first | refine x1 ?_ | refine x2 ?_ | refine x3 fun _ => ?_ | refine x4 fun _ => ?_ | refine x5 fun _ => ?_ | (refine rt_step rfl rfl rfl ?_; first | refine st_buildSlice rfl (zr rfl) rfl rfl rfl rfl rfl rfl fun _ => ?_ | refine st_A rfl rfl (fun _ => rfl) rfl fun _ => ?_) | refine x8 ?_ | refine rt_skip rfl rfl rfl ?_ | refine rt_skip0 rfl rfl ?_)) | (first | refine sq_n ?_ | refine sq_r ?_ | refine sq_e ?_ | refine bk_n ?_ | refine bk_r ?_ | refine bk_e rfl ?_ | refine bk_x rfl ?_ | refine ct_seq ?_ | refine ct_region rfl ?_ | refine ct_skip ?_ | refine ct_label ?_ | refine ct_block ?_ | refine ct_exit ?_ | refine ct_ret ?_ | refine ct_scope ?_ | refine ct_true rfl ?_ | refine ct_false rfl ?_ | refine lt_step ?_))
    have e : ((oth L (par L U d m) m : Nat) : Int) = x.b := by omega
    refine ⟨(oth L (par L U d m) m, par L U d m :: out, v2, Ho2), ⟨g1, by dsimp only [List.length_cons]; omega, fun q hq => by have := hpath _ (.step hc hq); rwa [List.append_assoc] at this, ho2⟩, by dsimp only; omega, ?_, by exact drop_auto⟩
    rw [← e]
    repeat (first | exact SubL.nil | refine SubL.cons rfl ?_)
  · repeat (first | (first | refine rt_nil ?_ | (refine isRun ?_; first | refine x1 ?_ | refine x2 ?_ | refine x3 fun _ => ?_ | refine x4 fun _ => ?_ | refine x5 fun _ => ?_ | (refine rt_step rfl rfl rfl ?_; first | refine st_buildSlice rfl (zr rfl) rfl rfl rfl rfl rfl rfl fun _ => ?_ | refine st_A rfl rfl (fun _ => rfl) rfl fun _ => ?_) | refine x8 ?_ | refine rt_skip rfl rfl rfl ?_ | refine rt_skip0 rfl rfl ?_)) | (first | refine sq_n ?_ | refine sq_r ?_ | refine sq_e ?_ | refine bk_n ?_ | refine bk_r ?_ | refine bk_e rfl ?_ | refine bk_x rfl ?_ | refine ct_seq ?_ | refine ct_region rfl ?_ | refine ct_skip ?_ | refine ct_label ?_ | refine ct_block ?_ | refine ct_exit ?_ | refine ct_ret ?_ | refine ct_scope ?_ | refine ct_true rfl ?_ | refine ct_false rfl ?_ | refine lt_step ?_))
    have e : ((oth L (par L U d m) m : Nat) : Int) = x.a := by omega
    refine ⟨(oth L (par L U d m) m, par L U d m :: out, v2, Ho2), ⟨g1, by dsimp only [List.length_cons]; omega, fun q hq => by have := hpath _ (.step hc hq); rwa [List.append_assoc] at this, ho2⟩, by dsimp only; omega, ?_, by exact drop_auto⟩
    rw [← e]
    repeat (first | exact SubL.nil | refine SubL.cons rfl ?_)
end
end Go.Proofs.Ytdaigoiekkofoaa.Abs

/- The reference's Paths. -/
namespace Go.Proofs.Ytdaigoiekkofoaa.Abs
open Go
set_option linter.unusedVariables false
/-- The test by which the reference picks the next node. -/
def selB (dn : List Bool) (d : List Int) (i : Nat) (n : Int) : Bool := !dn.getD i false && (decide (0 ≤ d.getD i (-1)) && (decide (n < 0) || decide (d.getD i (-1) < d.getD n.toNat (-1))))
theorem selB_iff {dn : List Bool} {d : List Int} {i : Nat} {n : Int} : selB dn d i n = true ↔ dn.getD i false = false ∧ 0 ≤ d.getD i (-1) ∧ (n < 0 ∨ d.getD i (-1) < d.getD n.toNat (-1)) := by
  unfold selB
  simp
/-- The node that is picked among the first i: the nearest one that is not done. -/
def Sel (dn : List Bool) (d : List Int) (i : Nat) (n : Int) : Prop :=
  (n = -1 ∧ ∀ j, j < i → dn.getD j false = false → d.getD j (-1) < 0) ∨ (∃ m : Nat, n = m ∧ m < i ∧ dn.getD m false = false ∧ 0 ≤ d.getD m (-1) ∧ ∀ j, j < i → dn.getD j false = false → 0 ≤ d.getD j (-1) → d.getD m (-1) ≤ d.getD j (-1))
theorem Sel.zero {dn : List Bool} {d : List Int} : Sel dn d 0 (-1) := .inl ⟨rfl, fun j hj => absurd hj (by omega)⟩
theorem Sel.take {dn : List Bool} {d : List Int} {i : Nat} {n : Int} (h : Sel dn d i n) (hs : selB dn d i n = true) : Sel dn d (i + 1) i := by
  obtain ⟨h1, h2, h3⟩ := selB_iff.1 hs
  refine .inr ⟨i, rfl, by omega, h1, h2, fun j hj g1 g2 => ?_⟩
  by_cases e : j = i
  · subst e; exact Int.le_refl _
  · rcases h with ⟨rfl, h⟩ | ⟨m, rfl, _, _, _, h⟩
    · have := h j (by omega) g1; omega
    · have := h j (by omega) g1 g2
      rw [Int.toNat_natCast] at h3
      omega
theorem Sel.pass {dn : List Bool} {d : List Int} {i : Nat} {n : Int} (h : Sel dn d i n) (hs : selB dn d i n = false) : Sel dn d (i + 1) n := by
  have hs : ¬ (dn.getD i false = false ∧ 0 ≤ d.getD i (-1) ∧ (n < 0 ∨ d.getD i (-1) < d.getD n.toNat (-1))) := fun h => by
    have := selB_iff.2 h
    rw [hs] at this
    cases this
  rcases h with ⟨rfl, h⟩ | ⟨m, rfl, h1, h2, h3, h⟩
  · refine .inl ⟨rfl, fun j hj g => ?_⟩
    by_cases e : j = i
    · subst e
      refine Int.not_le.1 fun g2 => hs ⟨g, g2, .inl (by decide)⟩
    · exact h j (by omega) g
  · refine .inr ⟨m, rfl, by omega, h2, h3, fun j hj g1 g2 => ?_⟩
    by_cases e : j = i
    · subst e
      rw [Int.toNat_natCast] at hs
      refine Int.not_lt.1 fun g3 => hs ⟨g1, g2, .inr g3⟩
    · exact h j (by omega) g1 g2
/-- What holds before a round: k nodes are done; they are the nearest ones; their numbers are right. -/
structure Cnt (L : List Ln) (U : List Bool) (d : List Int) (t M k : Nat) (many : List Int) (dn : List Bool) : Prop where
  lm : many.length = M
  ld : dn.length = M
  num : dn.countP id = k
  ok : ∀ j, j < M → dn.getD j false = true → 0 ≤ d.getD j (-1) ∧ many.getD j 0 = npaths L U d t j
  no : ∀ j, j < M → dn.getD j false = false → many.getD j 0 = if j = t then 1 else 0
  near : ∀ i j, i < M → j < M → dn.getD i false = true → dn.getD j false = false → 0 ≤ d.getD j (-1) → d.getD i (-1) ≤ d.getD j (-1)
theorem getD_setL {α : Type} {l : List α} {i j : Nat} {a e : α} (h : i < l.length) : (l.set i a).getD j e = if j = i then a else l.getD j e := by
  rw [List.getD_eq_getElem?_getD, List.getElem?_set, List.getD_eq_getElem?_getD]
  by_cases g : i = j
  · subst g; simp [h]
  · rw [if_neg g, if_neg (Ne.symm g)]
theorem countP_set {l : List Bool} : ∀ {i : Nat}, i < l.length → l.getD i false = false → (l.set i true).countP id = l.countP id + 1 := by
  induction l with
  | nil => intro i h; simp at h
  | cons a l ih =>
    intro i h g
    cases i with
    | zero =>
      simp only [List.getD_cons_zero] at g
      subst g
      simp
    | succ i =>
      simp only [List.getD_cons_succ] at g
      have := ih (by simpa using h) g
      simp only [List.set_cons_succ, List.countP_cons, this]
      omega
theorem countP_all {l : List Bool} (h : l.countP id = l.length) {i : Nat} (hi : i < l.length) : l.getD i false = true := by
  have := List.countP_eq_length.1 h _ (List.getElem_mem hi)
  rw [List.getD_eq_getElem?_getD, List.getElem?_eq_getElem hi]
  exact this
/-- One node more is done. -/
theorem Cnt.step {N : Nat} {L : List Ln} {U : List Bool} {d : List Int} {t M k n : Nat} {many : List Int} {dn : List Bool} (hok : netOk N L U) (hN : N = M) (ht : t < M) (ht0 : d.getD t (-1) = 0) (hb : ∀ n, d.getD n (-1) ≤ 31000) (h : Cnt L U d t M k many dn) (hsel : Sel dn d M n) :
    Cnt L U d t M (k + 1) (many.set n ((nxL L U d n L.length).foldl (fun s i => addP s (many.getD (oth L i n) 0)) (many.getD n 0))) (dn.set n true) := by
  rcases hsel with ⟨e, _⟩ | ⟨m, e, h1, h2, h3, h4⟩
  · omega
  obtain rfl : n = m := by omega
  have hnl : n < many.length := by rw [h.lm]; exact h1
  have hnd : n < dn.length := by rw [h.ld]; exact h1
  have hval : (nxL L U d n L.length).foldl (fun s i => addP s (many.getD (oth L i n) 0)) (many.getD n 0) = npaths L U d t n := by
    have e2 : ∀ b i, i ∈ nxL L U d n L.length → addP b (many.getD (oth L i n) 0) = addP b (npaths L U d t (oth L i n)) := fun b i hi => by
      obtain ⟨x, _, _, _, _, _, g1, g2, g3, g4, _⟩ := nxL_oth hok hi
      have g1 : oth L i n < M := by omega
      have hdone : dn.getD (oth L i n) false = true := by
        cases hd : dn.getD (oth L i n) false with
        | true => rfl
        | false => have := h4 _ g1 hd g2; omega
      rw [(h.ok _ g1 hdone).2]
    rw [foldl_congr e2, h.no n h1 h2]
    by_cases e : n = t
    · subst e
      rw [if_pos rfl]
      have hnil : nxL L U d n L.length = [] := by
        cases hx : nxL L U d n L.length with
        | nil => rfl
        | cons a r =>
          obtain ⟨x, _, _, _, _, _, g1, g2, g3, g4, _⟩ := nxL_oth hok (show a ∈ nxL L U d n L.length by rw [hx]; exact List.mem_cons_self)
          omega
      rw [hnil, npaths_self]
      rfl
    · rw [if_neg e, npaths_eq hok hb e h3]
  rw [hval]
  refine ⟨by rw [List.length_set, h.lm], by rw [List.length_set, h.ld], by rw [countP_set hnd h2, h.num], fun j hj g => ?_, fun j hj g => ?_, fun i j hi hj g1 g2 g3 => ?_⟩
  · rw [getD_setL hnd] at g
    rw [getD_setL hnl]
    by_cases e : j = n
    · subst e; rw [if_pos rfl]; exact ⟨h3, rfl⟩
    · rw [if_neg e] at g ⊢; exact h.ok j hj g
  · rw [getD_setL hnd] at g
    rw [getD_setL hnl]
    by_cases e : j = n
    · rw [if_pos e] at g; cases g
    · rw [if_neg e] at g ⊢; exact h.no j hj g
  · rw [getD_setL hnd] at g1 g2
    by_cases e : j = n
    · rw [if_pos e] at g2; cases g2
    · rw [if_neg e] at g2
      by_cases e2 : i = n
      · subst e2; exact h4 j hj g2 g3
      · rw [if_neg e2] at g1; exact h.near i j hi hj g1 g2 g3
theorem Cnt.range {L : List Ln} {U : List Bool} {d : List Int} {t M k : Nat} {many : List Int} {dn : List Bool} (h : Cnt L U d t M k many dn) (j : Nat) : 0 ≤ many.getD j 0 ∧ many.getD j 0 ≤ 1073741824 := by
  by_cases hj : j < M
  · cases g : dn.getD j false with
    | true => rw [(h.ok j hj g).2]; exact npaths_range _ _ _ _ _
    | false => rw [h.no j hj g]; split <;> decide
  · rw [List.getD_eq_getElem?_getD, List.getElem?_eq_none (by rw [h.lm]; omega)]; decide
/-- All are done that can be. -/
theorem Cnt.fin {L : List Ln} {U : List Bool} {d : List Int} {t M k f : Nat} {many : List Int} {dn : List Bool} (ht0 : d.getD t (-1) = 0) (h : Cnt L U d t M k many dn) (hf : f < M) (hall : dn.getD f false = false → d.getD f (-1) < 0) : many.getD f 0 = npaths L U d t f := by
  cases g : dn.getD f false with
  | true => exact (h.ok f hf g).2
  | false =>
    have h0 := hall g
    have e : f ≠ t := by rintro rfl; omega
    rw [h.no f hf g, if_neg e, npaths_none e h0]
end Go.Proofs.Ytdaigoiekkofoaa.Abs

/- The reference's Paths: its walk. -/
namespace Go.Proofs.Ytdaigoiekkofoaa.Abs
open Go
set_option linter.unusedVariables false
section
variable {B0 : Nat} {old : Nat → Option (List Value)} {n : Nat} {H : Hp} {Q : Value → Hp → Prop}
set_option maxRecDepth 10000
set_option maxHeartbeats 4000000
theorem foldl_range {f : Int → Int} (hf : ∀ i, 0 ≤ f i ∧ f i ≤ 1073741824) : ∀ (l : List Int) (s : Int), 0 ≤ s ∧ s ≤ 1073741824 → 0 ≤ l.foldl (fun s i => addP s (f i)) s ∧ l.foldl (fun s i => addP s (f i)) s ≤ 1073741824
  | [], s, h => h
  | a :: l, s, h => by
    rw [List.foldl_cons]
    refine foldl_range hf l _ ?_
    have := hf a
    unfold addP
    omega
theorem rpaths_ct (N k k2 : Int) (ad ad2 : Option Addr) (c c2 : Nat) (L : List Ln) (U : List Bool) (h1 : Arr (cx B0 old) H ad 3 encLn L) (h2 : Arr (cx B0 old) H ad2 1 (fun b => [.bool b]) U) (hl : L.length ≤ 9223372036854775807)
    (hgood : ∀ (M f t : Nat) d, N = M → k = f → k2 = t → netOk N L U → f < M → t < M → IsDist (Rn L U) M t d → Q (.int .i64 (npaths L U d t f)) H) (hbad : ¬ (netOk N L U ∧ 0 ≤ k ∧ k < N ∧ 0 ≤ k2 ∧ k2 < N) → Q (.int .i64 0) H) :
    CallT (cx B0 old) (acall (cx B0 old) ansP (n + 6)) 19 [.int .i64 N, .slice ad L.length c, .slice ad2 U.length c2, .int .i64 k, .int .i64 k2] H Q := by
  refine call_in 131 rfl Try.func19 rfl rfl ?_
  repeat (first | (first | refine rt_nil ?_ | (refine isRun ?_; first | refine x1 ?_ | refine x2 ?_ | refine x3 fun _ => ?_ | refine x4 fun _ => ?_ | refine x5 fun _ => ?_ | (refine rt_step rfl rfl rfl ?_; first | refine st_buildSlice rfl (zr rfl) rfl rfl rfl rfl rfl rfl fun _ => ?_ | refine st_A rfl rfl (fun _ => rfl) rfl fun _ => ?_) | refine x8 ?_ | refine rt_skip rfl rfl rfl ?_ | refine rt_skip0 rfl rfl ?_)) | (first | refine sq_n ?_ | refine sq_r ?_ | refine sq_e ?_ | refine bk_n ?_ | refine bk_r ?_ | refine bk_e rfl ?_ | refine bk_x rfl ?_ | refine ct_seq ?_ | refine ct_region rfl ?_ | refine ct_skip ?_ | refine ct_label ?_ | refine ct_block ?_ | refine ct_exit ?_ | refine ct_ret ?_ | refine ct_scope ?_ | refine ct_true rfl ?_ | refine ct_false rfl ?_ | refine lt_step ?_))
  refine rt_step rfl rfl rfl (st_call rfl rfl rfl rfl (rvalid_ct N k ad ad2 c c2 L U h1 hl (fun hok k0 kN => ?_) (fun hno => ?_)))
  rotate_left
  · repeat (first | (first | refine rt_nil ?_ | (refine isRun ?_; first | refine x1 ?_ | refine x2 ?_ | refine x3 fun _ => ?_ | refine x4 fun _ => ?_ | refine x5 fun _ => ?_ | (refine rt_step rfl rfl rfl ?_; first | refine st_buildSlice rfl (zr rfl) rfl rfl rfl rfl rfl rfl fun _ => ?_ | refine st_A rfl rfl (fun _ => rfl) rfl fun _ => ?_) | refine x8 ?_ | refine rt_skip rfl rfl rfl ?_ | refine rt_skip0 rfl rfl ?_)) | (first | refine sq_n ?_ | refine sq_r ?_ | refine sq_e ?_ | refine bk_n ?_ | refine bk_r ?_ | refine bk_e rfl ?_ | refine bk_x rfl ?_ | refine ct_seq ?_ | refine ct_region rfl ?_ | refine ct_skip ?_ | refine ct_label ?_ | refine ct_block ?_ | refine ct_exit ?_ | refine ct_ret ?_ | refine ct_scope ?_ | refine ct_true rfl ?_ | refine ct_false rfl ?_ | refine lt_step ?_))
    exact re_1 rfl rfl (by exact drop_auto) (hbad fun h => hno ⟨h.1, h.2.1, h.2.2.1⟩)
  repeat (first | (first | refine rt_nil ?_ | (refine isRun ?_; first | refine x1 ?_ | refine x2 ?_ | refine x3 fun _ => ?_ | refine x4 fun _ => ?_ | refine x5 fun _ => ?_ | (refine rt_step rfl rfl rfl ?_; first | refine st_buildSlice rfl (zr rfl) rfl rfl rfl rfl rfl rfl fun _ => ?_ | refine st_A rfl rfl (fun _ => rfl) rfl fun _ => ?_) | refine x8 ?_ | refine rt_skip rfl rfl rfl ?_ | refine rt_skip0 rfl rfl ?_)) | (first | refine sq_n ?_ | refine sq_r ?_ | refine sq_e ?_ | refine bk_n ?_ | refine bk_r ?_ | refine bk_e rfl ?_ | refine bk_x rfl ?_ | refine ct_seq ?_ | refine ct_region rfl ?_ | refine ct_skip ?_ | refine ct_label ?_ | refine ct_block ?_ | refine ct_exit ?_ | refine ct_ret ?_ | refine ct_scope ?_ | refine ct_true rfl ?_ | refine ct_false rfl ?_ | refine lt_step ?_))
  refine rt_step rfl rfl rfl (st_call rfl rfl rfl rfl (rvalid_ct N k2 ad ad2 c c2 L U h1 hl (fun _ k20 k2N => ?_) (fun hno => ?_)))
  rotate_left
  · repeat (first | (first | refine rt_nil ?_ | (refine isRun ?_; first | refine x1 ?_ | refine x2 ?_ | refine x3 fun _ => ?_ | refine x4 fun _ => ?_ | refine x5 fun _ => ?_ | (refine rt_step rfl rfl rfl ?_; first | refine st_buildSlice rfl (zr rfl) rfl rfl rfl rfl rfl rfl fun _ => ?_ | refine st_A rfl rfl (fun _ => rfl) rfl fun _ => ?_) | refine x8 ?_ | refine rt_skip rfl rfl rfl ?_ | refine rt_skip0 rfl rfl ?_)) | (first | refine sq_n ?_ | refine sq_r ?_ | refine sq_e ?_ | refine bk_n ?_ | refine bk_r ?_ | refine bk_e rfl ?_ | refine bk_x rfl ?_ | refine ct_seq ?_ | refine ct_region rfl ?_ | refine ct_skip ?_ | refine ct_label ?_ | refine ct_block ?_ | refine ct_exit ?_ | refine ct_ret ?_ | refine ct_scope ?_ | refine ct_true rfl ?_ | refine ct_false rfl ?_ | refine lt_step ?_))
    exact re_1 rfl rfl (by exact drop_auto) (hbad fun h => hno ⟨h.1, h.2.2.2.1, h.2.2.2.2⟩)
  clear hbad
  repeat (first | (first | refine rt_nil ?_ | (refine isRun ?_; first | refine x1 ?_ | refine x2 ?_ | refine x3 fun _ => ?_ | refine x4 fun _ => ?_ | refine x5 fun _ => ?_ | (refine rt_step rfl rfl rfl ?_; first | refine st_buildSlice rfl (zr rfl) rfl rfl rfl rfl rfl rfl fun _ => ?_ | refine st_A rfl rfl (fun _ => rfl) rfl fun _ => ?_) | refine x8 ?_ | refine rt_skip rfl rfl rfl ?_ | refine rt_skip0 rfl rfl ?_)) | (first | refine sq_n ?_ | refine sq_r ?_ | refine sq_e ?_ | refine bk_n ?_ | refine bk_r ?_ | refine bk_e rfl ?_ | refine bk_x rfl ?_ | refine ct_seq ?_ | refine ct_region rfl ?_ | refine ct_skip ?_ | refine ct_label ?_ | refine ct_block ?_ | refine ct_exit ?_ | refine ct_ret ?_ | refine ct_scope ?_ | refine ct_true rfl ?_ | refine ct_false rfl ?_ | refine lt_step ?_))
  refine rt_step rfl rfl rfl (st_call rfl rfl rfl rfl (rdist_ct N k2 ad ad2 c c2 L U h1 h2 hl (fun M t d b e1 e2 _ ht hd => ?_) (fun hno => absurd (show netOk N L U ∧ _ from ⟨hok, by omega, by omega⟩) hno)))
  subst e1 e2
  obtain ⟨f, rfl⟩ := Int.eq_ofNat_of_zero_le k0
  have hf : f < M := by omega
  have hM : M ≤ 32 := by have := hok.2.1; omega
  have hdl := hd.1
  have hbd := hd.bound (fun u v c hr => hr.all hok) hM
  have ht0 := hd.src ht
  have hLl : L.length ≤ 128 := hok.2.2.1
  clear k0 kN k20 k2N
  repeat (first | (first | refine rt_nil ?_ | (refine isRun ?_; first | refine x1 ?_ | refine x2 ?_ | refine x3 fun _ => ?_ | refine x4 fun _ => ?_ | refine x5 fun _ => ?_ | (refine rt_step rfl rfl rfl ?_; first | refine st_buildSlice rfl (zr rfl) rfl rfl rfl rfl rfl rfl fun _ => ?_ | refine st_A rfl rfl (fun _ => rfl) rfl fun _ => ?_) | refine x8 ?_ | refine rt_skip rfl rfl rfl ?_ | refine rt_skip0 rfl rfl ?_)) | (first | refine sq_n ?_ | refine sq_r ?_ | refine sq_e ?_ | refine bk_n ?_ | refine bk_r ?_ | refine bk_e rfl ?_ | refine bk_x rfl ?_ | refine ct_seq ?_ | refine ct_region rfl ?_ | refine ct_skip ?_ | refine ct_label ?_ | refine ct_block ?_ | refine ct_exit ?_ | refine ct_ret ?_ | refine ct_scope ?_ | refine ct_true rfl ?_ | refine ct_false rfl ?_ | refine lt_step ?_))
  refine rt_step rfl rfl rfl (st_makeM vI 0 rfl rfl rfl rfl rfl (Nat.ble_eq_true_of_le (by show 8 * M ≤ _; omega)) (Nat.ble_eq_true_of_le (by omega)) rfl fun bm => ?_)
  obtain ⟨many0, hm0'⟩ : ∃ m, m = List.replicate M (0 : Int) := ⟨_, rfl⟩
  rw [← hm0']
  have hml : many0.length = M := by rw [hm0']; simp
  repeat (first | (first | refine rt_nil ?_ | (refine isRun ?_; first | refine x1 ?_ | refine x2 ?_ | refine x3 fun _ => ?_ | refine x4 fun _ => ?_ | refine x5 fun _ => ?_ | (refine rt_step rfl rfl rfl ?_; first | refine st_buildSlice rfl (zr rfl) rfl rfl rfl rfl rfl rfl fun _ => ?_ | refine st_A rfl rfl (fun _ => rfl) rfl fun _ => ?_) | refine x8 ?_ | refine rt_skip rfl rfl rfl ?_ | refine rt_skip0 rfl rfl ?_)) | (first | refine sq_n ?_ | refine sq_r ?_ | refine sq_e ?_ | refine bk_n ?_ | refine bk_r ?_ | refine bk_e rfl ?_ | refine bk_x rfl ?_ | refine ct_seq ?_ | refine ct_region rfl ?_ | refine ct_skip ?_ | refine ct_label ?_ | refine ct_block ?_ | refine ct_exit ?_ | refine ct_ret ?_ | refine ct_scope ?_ | refine ct_true rfl ?_ | refine ct_false rfl ?_ | refine lt_step ?_))
  refine rt_step rfl rfl rfl (st_makeM vB false rfl rfl rfl rfl rfl (Nat.ble_eq_true_of_le (by show 1 * M ≤ _; omega)) (Nat.ble_eq_true_of_le (by omega)) rfl fun bo => ?_)
  repeat (first | (first | refine rt_nil ?_ | (refine isRun ?_; first | refine x1 ?_ | refine x2 ?_ | refine x3 fun _ => ?_ | refine x4 fun _ => ?_ | refine x5 fun _ => ?_ | (refine rt_step rfl rfl rfl ?_; first | refine st_buildSlice rfl (zr rfl) rfl rfl rfl rfl rfl rfl fun _ => ?_ | refine st_A rfl rfl (fun _ => rfl) rfl fun _ => ?_) | refine x8 ?_ | refine rt_skip rfl rfl rfl ?_ | refine rt_skip0 rfl rfl ?_)) | (first | refine sq_n ?_ | refine sq_r ?_ | refine sq_e ?_ | refine bk_n ?_ | refine bk_r ?_ | refine bk_e rfl ?_ | refine bk_x rfl ?_ | refine ct_seq ?_ | refine ct_region rfl ?_ | refine ct_skip ?_ | refine ct_label ?_ | refine ct_block ?_ | refine ct_exit ?_ | refine ct_ret ?_ | refine ct_scope ?_ | refine ct_true rfl ?_ | refine ct_false rfl ?_ | refine lt_step ?_))
  have hinit : Cnt L U d t M 0 (many0.set t 1) (List.replicate M false) := by
    have e : ∀ j, (List.replicate M false).getD j false = false := fun j => by rw [List.getD_eq_getElem?_getD, List.getElem?_replicate]; split <;> rfl
    refine ⟨by rw [List.length_set, hml], by simp, by simp, fun j hj g => ?_, fun j hj g => ?_, fun i j hi hj g1 => ?_⟩
    · rw [e] at g; cases g
    · rw [getD_setL (by omega), hm0']
      split
      · rfl
      · rw [List.getD_eq_getElem?_getD, List.getElem?_replicate]; split <;> rfl
    · rw [e] at g1; cases g1
  refine loop_ind (ι := Nat × List Int × List Bool) (0, many0.set t 1, List.replicate M false) (fun i => M - i.1) (fun i => i.1 ≤ M ∧ Cnt L U d t M i.1 i.2.1 i.2.2)
    (fun i => [(14, .int .i64 (i.1 : Int)), (13, .slice (some ⟨bo, 0, none⟩) M M), (12, .slice (some ⟨bm, 0, none⟩) M M), (11, .slice (some ⟨b, 0, none⟩) M M), (0, .int .i64 M), (1, .slice ad L.length c), (2, .slice ad2 U.length c2), (3, .int .i64 f), (4, .int .i64 t)])
    (fun i => (bo, .row (i.2.2.map vB) 1 false) :: (bm, .row (i.2.1.map vI) 1 false) :: (b, .row (d.map vI) 1 false) :: H) ⟨Nat.zero_le _, hinit⟩ (by repeat (first | exact SubL.nil | refine SubL.cons rfl ?_)) (by exact drop_auto) ?_
  rintro ⟨kk, many, dn⟩ ⟨hkk, hcn⟩
  simp only at hkk hcn ⊢
  have hlm := hcn.lm
  have hld := hcn.ld
  have hA0 := fun H' j => ldM (C := cx B0 old) (f := vI) (L := d) (t := 3) (b := b) (es := 1) (el := false) (-1) rfl (sz rfl) H' j
  have hA1 := fun H' j => ldM (C := cx B0 old) (f := vI) (L := many) (t := 3) (b := bm) (es := 1) (el := false) 0 rfl (sz rfl) H' j
  have hA2 := fun H' j => ldM (C := cx B0 old) (f := vB) (L := dn) (t := 4) (b := bo) (es := 1) (el := false) false rfl (sz rfl) H' j
  repeat (first | (first | refine rt_nil ?_ | (refine isRun ?_; first | refine x1 ?_ | refine x2 ?_ | refine x3 fun _ => ?_ | refine x4 fun _ => ?_ | refine x5 fun _ => ?_ | (refine rt_step rfl rfl rfl ?_; first | refine st_buildSlice rfl (zr rfl) rfl rfl rfl rfl rfl rfl fun _ => ?_ | refine st_A rfl rfl (fun _ => rfl) rfl fun _ => ?_) | refine x8 ?_ | refine rt_skip rfl rfl rfl ?_ | refine rt_skip0 rfl rfl ?_)) | (first | refine sq_n ?_ | refine sq_r ?_ | refine sq_e ?_ | refine bk_n ?_ | refine bk_r ?_ | refine bk_e rfl ?_ | refine bk_x rfl ?_ | refine ct_seq ?_ | refine ct_region rfl ?_ | refine ct_skip ?_ | refine ct_label ?_ | refine ct_block ?_ | refine ct_exit ?_ | refine ct_ret ?_ | refine ct_scope ?_ | refine ct_true rfl ?_ | refine ct_false rfl ?_ | refine lt_step ?_))
  refine ct_condT te_d rfl (fun hc => ?_) (fun hc => ?_)
  rotate_left
  · have hc : kk = M := by omega
    subst hc
    repeat (first | (first | refine rt_nil ?_ | (refine isRun ?_; first | refine x1 ?_ | refine x2 ?_ | refine x3 fun _ => ?_ | refine x4 fun _ => ?_ | refine x5 fun _ => ?_ | (refine rt_step rfl rfl rfl ?_; first | refine st_buildSlice rfl (zr rfl) rfl rfl rfl rfl rfl rfl fun _ => ?_ | refine st_A rfl rfl (fun _ => rfl) rfl fun _ => ?_) | refine x8 ?_ | refine rt_skip rfl rfl rfl ?_ | refine rt_skip0 rfl rfl ?_)) | (first | refine sq_n ?_ | refine sq_r ?_ | refine sq_e ?_ | refine bk_n ?_ | refine bk_r ?_ | refine bk_e rfl ?_ | refine bk_x rfl ?_ | refine ct_seq ?_ | refine ct_region rfl ?_ | refine ct_skip ?_ | refine ct_label ?_ | refine ct_block ?_ | refine ct_exit ?_ | refine ct_ret ?_ | refine ct_scope ?_ | refine ct_true rfl ?_ | refine ct_false rfl ?_ | refine lt_step ?_))
    have e := hcn.fin ht0 hf (fun g => by rw [countP_all (by rw [hcn.num, hld]) (by omega)] at g; cases g)
    rw [show ((f : Int)).toNat = f from rfl, e]
    exact re_1 rfl rfl (by exact drop_auto) (hgood kk f t d rfl rfl rfl hok hf ht hd)
  repeat (first | (first | refine rt_nil ?_ | (refine isRun ?_; first | refine x1 ?_ | refine x2 ?_ | refine x3 fun _ => ?_ | refine x4 fun _ => ?_ | refine x5 fun _ => ?_ | (refine rt_step rfl rfl rfl ?_; first | refine st_buildSlice rfl (zr rfl) rfl rfl rfl rfl rfl rfl fun _ => ?_ | refine st_A rfl rfl (fun _ => rfl) rfl fun _ => ?_) | refine x8 ?_ | refine rt_skip rfl rfl rfl ?_ | refine rt_skip0 rfl rfl ?_)) | (first | refine sq_n ?_ | refine sq_r ?_ | refine sq_e ?_ | refine bk_n ?_ | refine bk_r ?_ | refine bk_e rfl ?_ | refine bk_x rfl ?_ | refine ct_seq ?_ | refine ct_region rfl ?_ | refine ct_skip ?_ | refine ct_label ?_ | refine ct_block ?_ | refine ct_exit ?_ | refine ct_ret ?_ | refine ct_scope ?_ | refine ct_true rfl ?_ | refine ct_false rfl ?_ | refine lt_step ?_))
  refine loop_ind (ι := Nat × Int) (0, -1) (fun i => M - i.1) (fun i => i.1 ≤ M ∧ Sel dn d i.1 i.2)
    (fun i => [(16, .int .i64 (i.1 : Int)), (15, .int .i64 i.2), (14, .int .i64 (kk : Int)), (13, .slice (some ⟨bo, 0, none⟩) M M), (12, .slice (some ⟨bm, 0, none⟩) M M), (11, .slice (some ⟨b, 0, none⟩) M M), (0, .int .i64 M), (1, .slice ad L.length c), (2, .slice ad2 U.length c2), (3, .int .i64 f), (4, .int .i64 t)])
    (fun i => (bo, .row (dn.map vB) 1 false) :: (bm, .row (many.map vI) 1 false) :: (b, .row (d.map vI) 1 false) :: H) ⟨Nat.zero_le _, Sel.zero⟩ (by repeat (first | exact SubL.nil | refine SubL.cons rfl ?_)) (by exact drop_auto) ?_
  rintro ⟨i, s⟩ ⟨hi, hs⟩
  simp only at hi hs ⊢
  have hsr : s = -1 ∨ (0 ≤ s ∧ s < i) := by
    rcases hs with ⟨h, _⟩ | ⟨m, h, _⟩
    · exact .inl h
    · exact .inr (by omega)
  repeat (first | (first | refine rt_nil ?_ | (refine isRun ?_; first | refine x1 ?_ | refine x2 ?_ | refine x3 fun _ => ?_ | refine x4 fun _ => ?_ | refine x5 fun _ => ?_ | (refine rt_step rfl rfl rfl ?_; first | refine st_buildSlice rfl (zr rfl) rfl rfl rfl rfl rfl rfl fun _ => ?_ | refine st_A rfl rfl (fun _ => rfl) rfl fun _ => ?_) | refine x8 ?_ | refine rt_skip rfl rfl rfl ?_ | refine rt_skip0 rfl rfl ?_)) | (first | refine sq_n ?_ | refine sq_r ?_ | refine sq_e ?_ | refine bk_n ?_ | refine bk_r ?_ | refine bk_e rfl ?_ | refine bk_x rfl ?_ | refine ct_seq ?_ | refine ct_region rfl ?_ | refine ct_skip ?_ | refine ct_label ?_ | refine ct_block ?_ | refine ct_exit ?_ | refine ct_ret ?_ | refine ct_scope ?_ | refine ct_true rfl ?_ | refine ct_false rfl ?_ | refine lt_step ?_))
  refine ct_condT te_d rfl (fun hc => ?_) (fun hc => ?_)
  · repeat (first | (first | refine rt_nil ?_ | (refine isRun ?_; first | refine x1 ?_ | refine x2 ?_ | refine x3 fun _ => ?_ | refine x4 fun _ => ?_ | refine x5 fun _ => ?_ | (refine rt_step rfl rfl rfl ?_; first | refine st_buildSlice rfl (zr rfl) rfl rfl rfl rfl rfl rfl fun _ => ?_ | refine st_A rfl rfl (fun _ => rfl) rfl fun _ => ?_) | refine x8 ?_ | refine rt_skip rfl rfl rfl ?_ | refine rt_skip0 rfl rfl ?_)) | (first | refine sq_n ?_ | refine sq_r ?_ | refine sq_e ?_ | refine bk_n ?_ | refine bk_r ?_ | refine bk_e rfl ?_ | refine bk_x rfl ?_ | refine ct_seq ?_ | refine ct_region rfl ?_ | refine ct_skip ?_ | refine ct_label ?_ | refine ct_block ?_ | refine ct_exit ?_ | refine ct_ret ?_ | refine ct_scope ?_ | refine ct_true rfl ?_ | refine ct_false rfl ?_ | refine lt_step ?_))
    refine ct_draw (masks := [0, 0, 3, 7, 15, 31, 63, 63, 255, 511, 1023, 2047, 4095, 8191, 16383, 32767, 65535, 65535, 262143, 524287, 65535, 65535, 3211263, 7405567, 16777215, 33554431, 67108863]) (plan := [0, 1, 2, 3, 4, 5, 6, 7, 8, 9, 10, 11, 12, 13, 14, 15, 16, 17, 18, 19, 20, 21, 22, 23, 24, 25, 26]) (E := []) (by kernel_rfl) (by kernel_rfl) (by kernel_rfl) (by kernel_rfl) ?_
    refine pl_mid ([(83, .bool (selB dn d i s)), (16, .int .i64 (i : Int)), (15, .int .i64 s), (14, .int .i64 (kk : Int)), (13, .slice (some ⟨bo, 0, none⟩) M M), (12, .slice (some ⟨bm, 0, none⟩) M M), (11, .slice (some ⟨b, 0, none⟩) M M), (0, .int .i64 M), (1, .slice ad L.length c), (2, .slice ad2 U.length c2), (3, .int .i64 f), (4, .int .i64 t)]) ((bo, .row (dn.map vB) 1 false) :: (bm, .row (many.map vI) 1 false) :: (b, .row (d.map vI) 1 false) :: H) ?_ ?_
    · repeat' (first | (first | refine rt_nil ?_ | (refine isRun ?_; first | refine x1 ?_ | refine x2 ?_ | refine x3 fun _ => ?_ | refine x4 fun _ => ?_ | refine x5 fun _ => ?_ | (refine rt_step rfl rfl rfl ?_; first | refine st_buildSlice rfl (zr rfl) rfl rfl rfl rfl rfl rfl fun _ => ?_ | refine st_A rfl rfl (fun _ => rfl) rfl fun _ => ?_) | refine x8 ?_ | refine rt_skip rfl rfl rfl ?_ | refine rt_skip0 rfl rfl ?_)) | (first | refine sq_n ?_ | refine sq_r ?_ | refine sq_e ?_ | refine bk_n ?_ | refine bk_r ?_ | refine bk_e rfl ?_ | refine bk_x rfl ?_ | refine ct_seq ?_ | refine ct_region rfl ?_ | refine ct_skip ?_ | refine ct_label ?_ | refine ct_block ?_ | refine ct_exit ?_ | refine ct_ret ?_ | refine ct_scope ?_ | refine ct_true rfl ?_ | refine ct_false rfl ?_ | refine lt_step ?_) | (first | refine pl_nil ?_ | (refine isPlan ?_; first | refine y1 ?_ | refine y2 ?_ | refine pl_skip rfl rfl rfl rfl rfl ?_ | refine pl_skip0 rfl rfl rfl rfl ?_)) | (refine isPlan ?_; refine y3 ?_) | (first | (refine isRun ?_; refine z1 (fun hc => ?_) (fun hc => ?_)) | refine z2 (fun hc => ?_) (fun hc => ?_) | (refine isPlan ?_; refine z3 (fun hc => ?_) (fun hc => ?_))))
      all_goals refine ⟨SubL.consB rfl ?_ (by repeat (first | exact SubL.nil | refine SubL.cons rfl ?_)), by exact drop_auto⟩
      all_goals try simp only [Int.toNat_natCast] at *
      · exact selB_iff.2 ⟨by assumption, by omega, .inl (by omega)⟩
      · rw [Bool.eq_iff_iff, selB_iff, decide_eq_true_iff]
        have h1 : dn.getD i false = false := by assumption
        constructor
        · intro h; omega
        · intro h; exact ⟨h1, by omega, .inr h⟩
      · rw [Bool.eq_false_iff, ne_eq, selB_iff]; omega
      · rw [Bool.eq_false_iff, ne_eq, selB_iff]
        intro h
        have h1 : dn.getD i false = true := by assumption
        rw [h.1] at h1
        cases h1
    repeat (first | (first | refine rt_nil ?_ | (refine isRun ?_; first | refine x1 ?_ | refine x2 ?_ | refine x3 fun _ => ?_ | refine x4 fun _ => ?_ | refine x5 fun _ => ?_ | (refine rt_step rfl rfl rfl ?_; first | refine st_buildSlice rfl (zr rfl) rfl rfl rfl rfl rfl rfl fun _ => ?_ | refine st_A rfl rfl (fun _ => rfl) rfl fun _ => ?_) | refine x8 ?_ | refine rt_skip rfl rfl rfl ?_ | refine rt_skip0 rfl rfl ?_)) | (first | refine sq_n ?_ | refine sq_r ?_ | refine sq_e ?_ | refine bk_n ?_ | refine bk_r ?_ | refine bk_e rfl ?_ | refine bk_x rfl ?_ | refine ct_seq ?_ | refine ct_region rfl ?_ | refine ct_skip ?_ | refine ct_label ?_ | refine ct_block ?_ | refine ct_exit ?_ | refine ct_ret ?_ | refine ct_scope ?_ | refine ct_true rfl ?_ | refine ct_false rfl ?_ | refine lt_step ?_))
    refine ct_condT te_b rfl (fun hb => ?_) (fun hb => ?_)
    · repeat (first | (first | refine rt_nil ?_ | (refine isRun ?_; first | refine x1 ?_ | refine x2 ?_ | refine x3 fun _ => ?_ | refine x4 fun _ => ?_ | refine x5 fun _ => ?_ | (refine rt_step rfl rfl rfl ?_; first | refine st_buildSlice rfl (zr rfl) rfl rfl rfl rfl rfl rfl fun _ => ?_ | refine st_A rfl rfl (fun _ => rfl) rfl fun _ => ?_) | refine x8 ?_ | refine rt_skip rfl rfl rfl ?_ | refine rt_skip0 rfl rfl ?_)) | (first | refine sq_n ?_ | refine sq_r ?_ | refine sq_e ?_ | refine bk_n ?_ | refine bk_r ?_ | refine bk_e rfl ?_ | refine bk_x rfl ?_ | refine ct_seq ?_ | refine ct_region rfl ?_ | refine ct_skip ?_ | refine ct_label ?_ | refine ct_block ?_ | refine ct_exit ?_ | refine ct_ret ?_ | refine ct_scope ?_ | refine ct_true rfl ?_ | refine ct_false rfl ?_ | refine lt_step ?_))
      exact ⟨(i + 1, (i : Int)), ⟨by omega, hs.take hb⟩, by dsimp only; omega, by repeat (first | exact SubL.nil | refine SubL.cons rfl ?_), by exact drop_auto⟩
    · repeat (first | (first | refine rt_nil ?_ | (refine isRun ?_; first | refine x1 ?_ | refine x2 ?_ | refine x3 fun _ => ?_ | refine x4 fun _ => ?_ | refine x5 fun _ => ?_ | (refine rt_step rfl rfl rfl ?_; first | refine st_buildSlice rfl (zr rfl) rfl rfl rfl rfl rfl rfl fun _ => ?_ | refine st_A rfl rfl (fun _ => rfl) rfl fun _ => ?_) | refine x8 ?_ | refine rt_skip rfl rfl rfl ?_ | refine rt_skip0 rfl rfl ?_)) | (first | refine sq_n ?_ | refine sq_r ?_ | refine sq_e ?_ | refine bk_n ?_ | refine bk_r ?_ | refine bk_e rfl ?_ | refine bk_x rfl ?_ | refine ct_seq ?_ | refine ct_region rfl ?_ | refine ct_skip ?_ | refine ct_label ?_ | refine ct_block ?_ | refine ct_exit ?_ | refine ct_ret ?_ | refine ct_scope ?_ | refine ct_true rfl ?_ | refine ct_false rfl ?_ | refine lt_step ?_))
      exact ⟨(i + 1, s), ⟨by omega, hs.pass hb⟩, by dsimp only; omega, by repeat (first | exact SubL.nil | refine SubL.cons rfl ?_), by exact drop_auto⟩
  · have hc : i = M := by omega
    subst hc
    repeat (first | (first | refine rt_nil ?_ | (refine isRun ?_; first | refine x1 ?_ | refine x2 ?_ | refine x3 fun _ => ?_ | refine x4 fun _ => ?_ | refine x5 fun _ => ?_ | (refine rt_step rfl rfl rfl ?_; first | refine st_buildSlice rfl (zr rfl) rfl rfl rfl rfl rfl rfl fun _ => ?_ | refine st_A rfl rfl (fun _ => rfl) rfl fun _ => ?_) | refine x8 ?_ | refine rt_skip rfl rfl rfl ?_ | refine rt_skip0 rfl rfl ?_)) | (first | refine sq_n ?_ | refine sq_r ?_ | refine sq_e ?_ | refine bk_n ?_ | refine bk_r ?_ | refine bk_e rfl ?_ | refine bk_x rfl ?_ | refine ct_seq ?_ | refine ct_region rfl ?_ | refine ct_skip ?_ | refine ct_label ?_ | refine ct_block ?_ | refine ct_exit ?_ | refine ct_ret ?_ | refine ct_scope ?_ | refine ct_true rfl ?_ | refine ct_false rfl ?_ | refine lt_step ?_))
    refine ct_condT te_d rfl (fun hc => ?_) (fun hc => ?_)
    · repeat (first | (first | refine rt_nil ?_ | (refine isRun ?_; first | refine x1 ?_ | refine x2 ?_ | refine x3 fun _ => ?_ | refine x4 fun _ => ?_ | refine x5 fun _ => ?_ | (refine rt_step rfl rfl rfl ?_; first | refine st_buildSlice rfl (zr rfl) rfl rfl rfl rfl rfl rfl fun _ => ?_ | refine st_A rfl rfl (fun _ => rfl) rfl fun _ => ?_) | refine x8 ?_ | refine rt_skip rfl rfl rfl ?_ | refine rt_skip0 rfl rfl ?_)) | (first | refine sq_n ?_ | refine sq_r ?_ | refine sq_e ?_ | refine bk_n ?_ | refine bk_r ?_ | refine bk_e rfl ?_ | refine bk_x rfl ?_ | refine ct_seq ?_ | refine ct_region rfl ?_ | refine ct_skip ?_ | refine ct_label ?_ | refine ct_block ?_ | refine ct_exit ?_ | refine ct_ret ?_ | refine ct_scope ?_ | refine ct_true rfl ?_ | refine ct_false rfl ?_ | refine lt_step ?_))
      have e := hcn.fin ht0 hf (fun g => by
        rcases hs with ⟨_, h⟩ | ⟨m, h, _⟩
        · exact h f hf g
        · omega)
      rw [show ((f : Int)).toNat = f from rfl, e]
      exact re_1 rfl rfl (by exact drop_auto) (hgood i f t d rfl rfl rfl hok hf ht hd)
    · repeat (first | (first | refine rt_nil ?_ | (refine isRun ?_; first | refine x1 ?_ | refine x2 ?_ | refine x3 fun _ => ?_ | refine x4 fun _ => ?_ | refine x5 fun _ => ?_ | (refine rt_step rfl rfl rfl ?_; first | refine st_buildSlice rfl (zr rfl) rfl rfl rfl rfl rfl rfl fun _ => ?_ | refine st_A rfl rfl (fun _ => rfl) rfl fun _ => ?_) | refine x8 ?_ | refine rt_skip rfl rfl rfl ?_ | refine rt_skip0 rfl rfl ?_)) | (first | refine sq_n ?_ | refine sq_r ?_ | refine sq_e ?_ | refine bk_n ?_ | refine bk_r ?_ | refine bk_e rfl ?_ | refine bk_x rfl ?_ | refine ct_seq ?_ | refine ct_region rfl ?_ | refine ct_skip ?_ | refine ct_label ?_ | refine ct_block ?_ | refine ct_exit ?_ | refine ct_ret ?_ | refine ct_scope ?_ | refine ct_true rfl ?_ | refine ct_false rfl ?_ | refine lt_step ?_))
      obtain ⟨nn, rfl⟩ := Int.eq_ofNat_of_zero_le (show 0 ≤ s by omega)
      have hnn : nn < i := by omega
      refine rt_step rfl rfl rfl (st_call rfl rfl rfl rfl (rnext_ct i nn t ad ad2 c c2 L U (h1.weak (by exact drop_auto)) (h2.weak (by exact drop_auto)) hl (fun M' f' t' d' v' Hs' e1 e2 e3 _ hf' ht' hd' ho' => ?_) (fun hno => absurd (show netOk (i : Int) L U ∧ _ from ⟨hok, by omega, by omega, by omega, by omega⟩) hno)))
      obtain rfl : i = M' := by omega
      obtain rfl : nn = f' := by omega
      obtain rfl : t = t' := by omega
      obtain rfl : d' = d := hd'.uniq hd
      clear hA0 hA1 hA2
      have hlen := nxL_len L U d' nn L.length
      obtain ⟨ad3, c3, rfl, ha3⟩ := ho'.arrW (C := cx B0 old) encI_len
      have hmr := hcn.range
      repeat (first | (first | refine rt_nil ?_ | (refine isRun ?_; first | refine x1 ?_ | refine x2 ?_ | refine x3 fun _ => ?_ | refine x4 fun _ => ?_ | refine x5 fun _ => ?_ | (refine rt_step rfl rfl rfl ?_; first | refine st_buildSlice rfl (zr rfl) rfl rfl rfl rfl rfl rfl fun _ => ?_ | refine st_A rfl rfl (fun _ => rfl) rfl fun _ => ?_) | refine x8 ?_ | refine rt_skip rfl rfl rfl ?_ | refine rt_skip0 rfl rfl ?_)) | (first | refine sq_n ?_ | refine sq_r ?_ | refine sq_e ?_ | refine bk_n ?_ | refine bk_r ?_ | refine bk_e rfl ?_ | refine bk_x rfl ?_ | refine ct_seq ?_ | refine ct_region rfl ?_ | refine ct_skip ?_ | refine ct_label ?_ | refine ct_block ?_ | refine ct_exit ?_ | refine ct_ret ?_ | refine ct_scope ?_ | refine ct_true rfl ?_ | refine ct_false rfl ?_ | refine lt_step ?_))
      refine loop_ind (ι := Nat) 0 (fun j => (nxL L U d' nn L.length).length - j) (fun j => j ≤ (nxL L U d' nn L.length).length)
        (fun j => [(18, .int .i64 (j : Int)), (17, .slice ad3 (nxL L U d' nn L.length).length c3), (15, .int .i64 (nn : Int)), (14, .int .i64 (kk : Int)), (13, .slice (some ⟨bo, 0, none⟩) i i), (12, .slice (some ⟨bm, 0, none⟩) i i), (11, .slice (some ⟨b, 0, none⟩) i i), (0, .int .i64 i), (1, .slice ad L.length c), (2, .slice ad2 U.length c2), (3, .int .i64 f), (4, .int .i64 t)])
        (fun j => Hs' ++ ((bo, .row ((dn.set nn true).map vB) 1 false) :: (bm, .row ((many.set nn (((nxL L U d' nn L.length).take j).foldl (fun s i => addP s (many.getD (oth L i nn) 0)) (many.getD nn 0))).map vI) 1 false) :: (b, .row (d'.map vI) 1 false) :: H))
        (Nat.zero_le _) (by repeat (first | exact SubL.nil | refine SubL.cons rfl ?_)) (by
          rw [List.take_zero, List.foldl_nil, show many.set nn (many.getD nn 0) = many from List.ext_getElem? fun j => by
            rw [List.getElem?_set]
            split
            · rename_i g; subst g; rw [if_pos (by omega), List.getD_eq_getElem?_getD, List.getElem?_eq_getElem (by omega)]; rfl
            · rfl]
          exact drop_auto) ?_
      intro j hj
      repeat (first | (first | refine rt_nil ?_ | (refine isRun ?_; first | refine x1 ?_ | refine x2 ?_ | refine x3 fun _ => ?_ | refine x4 fun _ => ?_ | refine x5 fun _ => ?_ | (refine rt_step rfl rfl rfl ?_; first | refine st_buildSlice rfl (zr rfl) rfl rfl rfl rfl rfl rfl fun _ => ?_ | refine st_A rfl rfl (fun _ => rfl) rfl fun _ => ?_) | refine x8 ?_ | refine rt_skip rfl rfl rfl ?_ | refine rt_skip0 rfl rfl ?_)) | (first | refine sq_n ?_ | refine sq_r ?_ | refine sq_e ?_ | refine bk_n ?_ | refine bk_r ?_ | refine bk_e rfl ?_ | refine bk_x rfl ?_ | refine ct_seq ?_ | refine ct_region rfl ?_ | refine ct_skip ?_ | refine ct_label ?_ | refine ct_block ?_ | refine ct_exit ?_ | refine ct_ret ?_ | refine ct_scope ?_ | refine ct_true rfl ?_ | refine ct_false rfl ?_ | refine lt_step ?_))
      refine ct_condT te_d rfl (fun hc => ?_) (fun hc => ?_)
      rotate_left
      · have hc : j = (nxL L U d' nn L.length).length := by omega
        subst hc
        rw [List.take_length]
        repeat (first | (first | refine rt_nil ?_ | (refine isRun ?_; first | refine x1 ?_ | refine x2 ?_ | refine x3 fun _ => ?_ | refine x4 fun _ => ?_ | refine x5 fun _ => ?_ | (refine rt_step rfl rfl rfl ?_; first | refine st_buildSlice rfl (zr rfl) rfl rfl rfl rfl rfl rfl fun _ => ?_ | refine st_A rfl rfl (fun _ => rfl) rfl fun _ => ?_) | refine x8 ?_ | refine rt_skip rfl rfl rfl ?_ | refine rt_skip0 rfl rfl ?_)) | (first | refine sq_n ?_ | refine sq_r ?_ | refine sq_e ?_ | refine bk_n ?_ | refine bk_r ?_ | refine bk_e rfl ?_ | refine bk_x rfl ?_ | refine ct_seq ?_ | refine ct_region rfl ?_ | refine ct_skip ?_ | refine ct_label ?_ | refine ct_block ?_ | refine ct_exit ?_ | refine ct_ret ?_ | refine ct_scope ?_ | refine ct_true rfl ?_ | refine ct_false rfl ?_ | refine lt_step ?_))
        exact ⟨(kk + 1, _, _), ⟨by omega, hcn.step hok rfl ht ht0 hbd hs⟩, by dsimp only; omega, by repeat (first | exact SubL.nil | refine SubL.cons rfl ?_), by exact drop_auto⟩
      have hc : j < (nxL L U d' nn L.length).length := by omega
      obtain ⟨y, hy⟩ : ∃ y, (nxL L U d' nn L.length)[j]? = some y := ⟨_, List.getElem?_eq_getElem hc⟩
      obtain ⟨x, hx, hu, hi0, hi1, hab, g1, g2, g3, g4, g5⟩ := nxL_oth hok (List.mem_of_getElem? hy)
      obtain ⟨b3, o3, rfl, hL0⟩ := ((ha3 [] ((bo, .row ((dn.set nn true).map vB) 1 false) :: (bm, .row ((many.set nn (((nxL L U d' nn L.length).take j).foldl (fun s i => addP s (many.getD (oth L i nn) 0)) (many.getD nn 0))).map vI) 1 false) :: (b, .row (d'.map vI) 1 false) :: H)).arr encI_len).ld1 3 hy rfl rfl (sz rfl)
      obtain ⟨b4, o4, rfl, hL1⟩ := h1.ldW 27 hx rfl (sz rfl)
      have hyt : y.toNat < L.length := by omega
      have hacc : 0 ≤ ((nxL L U d' nn L.length).take j).foldl (fun s i => addP s (many.getD (oth L i nn) 0)) (many.getD nn 0) ∧ ((nxL L U d' nn L.length).take j).foldl (fun s i => addP s (many.getD (oth L i nn) 0)) (many.getD nn 0) ≤ 1073741824 :=
        foldl_range (fun i => hmr _) _ _ (hmr nn)
      have hnext : ((nxL L U d' nn L.length).take (j + 1)).foldl (fun s i => addP s (many.getD (oth L i nn) 0)) (many.getD nn 0) = addP (((nxL L U d' nn L.length).take j).foldl (fun s i => addP s (many.getD (oth L i nn) 0)) (many.getD nn 0)) (many.getD (oth L y nn) 0) := by
        rw [List.take_add_one, hy, List.foldl_append]
        rfl
      have hne : oth L y nn ≠ nn := by intro e; rw [e] at g3; omega
      obtain ⟨acc, hac⟩ : ∃ a, a = ((nxL L U d' nn L.length).take j).foldl (fun s i => addP s (many.getD (oth L i nn) 0)) (many.getD nn 0) := ⟨_, rfl⟩
      rw [← hac] at hacc hL0 ⊢
      obtain ⟨many', hm'⟩ : ∃ m, m = many.set nn acc := ⟨_, rfl⟩
      rw [← hm'] at hL0 ⊢
      have hml' : many'.length = i := by rw [hm', List.length_set, hlm]
      have hgn : many'.getD nn 0 = acc := by rw [hm', getD_setL (by omega), if_pos rfl]
      have hgm : many'.getD (oth L y nn) 0 = many.getD (oth L y nn) 0 := by rw [hm', getD_setL (by omega), if_neg hne]
      have hmo := hmr (oth L y nn)
      have hgn2 : many'.getD ((nn : Int)).toNat 0 = acc := hgn
      have hgm2 : many'.getD ((oth L y nn : Nat) : Int).toNat 0 = many.getD (oth L y nn) 0 := hgm
      have hA1 := fun H' j => ldM (C := cx B0 old) (f := vI) (L := many') (t := 3) (b := bm) (es := 1) (el := false) 0 rfl (sz rfl) H' j
      have hfin : many.set nn (addP acc (many.getD (oth L y nn) 0)) = many'.set nn (if many'.getD nn 0 + many'.getD (oth L y nn) 0 < 1073741824 then many'.getD nn 0 + many'.getD (oth L y nn) 0 else 1073741824) := by
        rw [hm', List.set_set, ← hm', hgn, hgm]
        congr 1
        unfold addP
        split <;> omega
      rw [← hac] at hnext
      rw [← hnext] at hfin
      clear hnext hac
      repeat (first | (first | refine rt_nil ?_ | (refine isRun ?_; first | refine x1 ?_ | refine x2 ?_ | refine x3 fun _ => ?_ | refine x4 fun _ => ?_ | refine x5 fun _ => ?_ | (refine rt_step rfl rfl rfl ?_; first | refine st_buildSlice rfl (zr rfl) rfl rfl rfl rfl rfl rfl fun _ => ?_ | refine st_A rfl rfl (fun _ => rfl) rfl fun _ => ?_) | refine x8 ?_ | refine rt_skip rfl rfl rfl ?_ | refine rt_skip0 rfl rfl ?_)) | (first | refine sq_n ?_ | refine sq_r ?_ | refine sq_e ?_ | refine bk_n ?_ | refine bk_r ?_ | refine bk_e rfl ?_ | refine bk_x rfl ?_ | refine ct_seq ?_ | refine ct_region rfl ?_ | refine ct_skip ?_ | refine ct_label ?_ | refine ct_block ?_ | refine ct_exit ?_ | refine ct_ret ?_ | refine ct_scope ?_ | refine ct_true rfl ?_ | refine ct_false rfl ?_ | refine lt_step ?_))
      refine rt_midE (fun _ : Unit => True) (fun _ => [(19, .int .i64 (oth L y nn : Int)), (18, .int .i64 (j : Int)), (17, .slice (some ⟨b3, o3, none⟩) (nxL L U d' nn L.length).length c3), (15, .int .i64 (nn : Int)), (14, .int .i64 (kk : Int)), (13, .slice (some ⟨bo, 0, none⟩) i i), (12, .slice (some ⟨bm, 0, none⟩) i i), (11, .slice (some ⟨b, 0, none⟩) i i), (0, .int .i64 i), (1, .slice (some ⟨b4, o4, none⟩) L.length c), (2, .slice ad2 U.length c2), (3, .int .i64 f), (4, .int .i64 t)])
        (fun _ => Hs' ++ ((bo, .row ((dn.set nn true).map vB) 1 false) :: (bm, .row (many'.map vI) 1 false) :: (b, .row (d'.map vI) 1 false) :: H)) ?_ ?_
      · refine rt_step rfl rfl rfl (st_call rfl rfl rfl rfl (other_ct x nn (fun g => ?_) (fun g g' => ?_) (fun g g' => absurd hab (by omega))))
        · repeat (first | (first | refine rt_nil ?_ | (refine isRun ?_; first | refine x1 ?_ | refine x2 ?_ | refine x3 fun _ => ?_ | refine x4 fun _ => ?_ | refine x5 fun _ => ?_ | (refine rt_step rfl rfl rfl ?_; first | refine st_buildSlice rfl (zr rfl) rfl rfl rfl rfl rfl rfl fun _ => ?_ | refine st_A rfl rfl (fun _ => rfl) rfl fun _ => ?_) | refine x8 ?_ | refine rt_skip rfl rfl rfl ?_ | refine rt_skip0 rfl rfl ?_)) | (first | refine sq_n ?_ | refine sq_r ?_ | refine sq_e ?_ | refine bk_n ?_ | refine bk_r ?_ | refine bk_e rfl ?_ | refine bk_x rfl ?_ | refine ct_seq ?_ | refine ct_region rfl ?_ | refine ct_skip ?_ | refine ct_label ?_ | refine ct_block ?_ | refine ct_exit ?_ | refine ct_ret ?_ | refine ct_scope ?_ | refine ct_true rfl ?_ | refine ct_false rfl ?_ | refine lt_step ?_))
          refine ⟨(), trivial, SubL.consI rfl (by omega) (by repeat (first | exact SubL.nil | refine SubL.cons rfl ?_)), by exact drop_auto⟩
        · repeat (first | (first | refine rt_nil ?_ | (refine isRun ?_; first | refine x1 ?_ | refine x2 ?_ | refine x3 fun _ => ?_ | refine x4 fun _ => ?_ | refine x5 fun _ => ?_ | (refine rt_step rfl rfl rfl ?_; first | refine st_buildSlice rfl (zr rfl) rfl rfl rfl rfl rfl rfl fun _ => ?_ | refine st_A rfl rfl (fun _ => rfl) rfl fun _ => ?_) | refine x8 ?_ | refine rt_skip rfl rfl rfl ?_ | refine rt_skip0 rfl rfl ?_)) | (first | refine sq_n ?_ | refine sq_r ?_ | refine sq_e ?_ | refine bk_n ?_ | refine bk_r ?_ | refine bk_e rfl ?_ | refine bk_x rfl ?_ | refine ct_seq ?_ | refine ct_region rfl ?_ | refine ct_skip ?_ | refine ct_label ?_ | refine ct_block ?_ | refine ct_exit ?_ | refine ct_ret ?_ | refine ct_scope ?_ | refine ct_true rfl ?_ | refine ct_false rfl ?_ | refine lt_step ?_))
          refine ⟨(), trivial, SubL.consI rfl (by omega) (by repeat (first | exact SubL.nil | refine SubL.cons rfl ?_)), by exact drop_auto⟩
      intro _ _
      repeat' (first | (first | refine rt_nil ?_ | (refine isRun ?_; first | refine x1 ?_ | refine x2 ?_ | refine x3 fun _ => ?_ | refine x4 fun _ => ?_ | refine x5 fun _ => ?_ | (refine rt_step rfl rfl rfl ?_; first | refine st_buildSlice rfl (zr rfl) rfl rfl rfl rfl rfl rfl fun _ => ?_ | refine st_A rfl rfl (fun _ => rfl) rfl fun _ => ?_) | refine x8 ?_ | refine rt_skip rfl rfl rfl ?_ | refine rt_skip0 rfl rfl ?_)) | (first | refine sq_n ?_ | refine sq_r ?_ | refine sq_e ?_ | refine bk_n ?_ | refine bk_r ?_ | refine bk_e rfl ?_ | refine bk_x rfl ?_ | refine ct_seq ?_ | refine ct_region rfl ?_ | refine ct_skip ?_ | refine ct_label ?_ | refine ct_block ?_ | refine ct_exit ?_ | refine ct_ret ?_ | refine ct_scope ?_ | refine ct_true rfl ?_ | refine ct_false rfl ?_ | refine lt_step ?_) | (first | refine pl_nil ?_ | (refine isPlan ?_; first | refine y1 ?_ | refine y2 ?_ | refine pl_skip rfl rfl rfl rfl rfl ?_ | refine pl_skip0 rfl rfl rfl rfl ?_)) | (refine isPlan ?_; refine y3 ?_) | (first | (refine isRun ?_; refine z1 (fun hc => ?_) (fun hc => ?_)) | refine z2 (fun hc => ?_) (fun hc => ?_) | (refine isPlan ?_; refine z3 (fun hc => ?_) (fun hc => ?_))) | (first | refine ct_draw (id := 14) (masks := [0, 0, 3, 7, 15, 31, 63, 63, 255, 511, 1023, 2047, 4095, 8191, 16383, 32767, 65535, 65535, 262143, 524287, 65535, 65535, 3211263, 7405567, 16777215, 33554431, 67108863]) (plan := [0, 1, 2, 3, 4, 5, 6, 7, 8, 9, 10, 11, 12, 13, 14, 15, 16, 17, 18, 19, 20, 21, 22, 23, 24, 25, 26]) (E := []) (by kernel_rfl) (by kernel_rfl) (by kernel_rfl) (by kernel_rfl) ?_ | refine ct_draw (id := 23) (masks := [0, 0, 0, 0, 12, 28, 0, 0, 192, 448, 1020, 2044, 4095, 8191]) (plan := [0, 1, 2, 3, 4, 5, 6, 7, 8, 9, 10, 11, 12, 13]) (E := []) (by kernel_rfl) (by kernel_rfl) (by kernel_rfl) (by kernel_rfl) ?_))
      refine ⟨j + 1, by omega, by omega, by repeat (first | exact SubL.nil | refine SubL.cons rfl ?_), ?_⟩
      rw [hfin]
      exact drop_auto
end
end Go.Proofs.Ytdaigoiekkofoaa.Abs
