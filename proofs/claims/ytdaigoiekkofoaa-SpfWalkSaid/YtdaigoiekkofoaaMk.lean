/- Distances by certificates, in plain Lean. -/
import Derived.Test.YtdaigoiekkofoaaMc
import Derived.Test.YtdaigoiekkofoaaMn
import Derived.Test.YtdaigoiekkofoaaMt
namespace Go.Proofs.Ytdaigoiekkofoaa.Abs
set_option linter.unusedVariables false
/-- Node n is reached over link x. -/
def viaL (d : List Int) (n : Nat) (x : Ln) : Prop := (x.b = n ∧ 0 ≤ d.getD x.a.toNat (-1) ∧ d.getD n (-1) = d.getD x.a.toNat (-1) + x.c) ∨ (x.a = n ∧ 0 ≤ d.getD x.b.toNat (-1) ∧ d.getD n (-1) = d.getD x.b.toNat (-1) + x.c)
instance (d : List Int) (n : Nat) (x : Ln) : Decidable (viaL d n x) := by unfold viaL; infer_instance
/-- The way of a link that is up does not lower a distance. -/
def fixL (d : List Int) (x : Ln) : Prop := (0 ≤ d.getD x.a.toNat (-1) → 0 ≤ d.getD x.b.toNat (-1) ∧ d.getD x.b.toNat (-1) ≤ d.getD x.a.toNat (-1) + x.c) ∧ (0 ≤ d.getD x.b.toNat (-1) → 0 ≤ d.getD x.a.toNat (-1) ∧ d.getD x.a.toNat (-1) ≤ d.getD x.b.toNat (-1) + x.c)
instance (d : List Int) (x : Ln) : Decidable (fixL d x) := by unfold fixL; infer_instance
def upL (L : List Ln) (U : List Bool) : List Ln := (L.zip U).filterMap fun p => if p.2 then some p.1 else none
theorem mem_upL {L : List Ln} {U : List Bool} {x : Ln} : x ∈ upL L U ↔ ∃ i : Nat, L[i]? = some x ∧ U[i]? = some true := by
  unfold upL
  rw [List.mem_filterMap]
  constructor
  · rintro ⟨⟨y, u⟩, h1, h2⟩
    obtain ⟨i, hi⟩ := List.getElem?_of_mem h1
    rw [List.getElem?_zip_eq_some] at hi
    cases u with
    | false => cases h2
    | true => cases h2; exact ⟨i, hi.1, hi.2⟩
  · rintro ⟨i, h1, h2⟩
    exact ⟨(x, true), List.mem_of_getElem? (i := i) (List.getElem?_zip_eq_some.2 ⟨h1, h2⟩), rfl⟩
structure Cert (N s : Nat) (L : List Ln) (U : List Bool) (d : List Int) : Prop where
  len : d.length = N
  src : d.getD s (-1) = 0
  low : ∀ n, n < N → -1 ≤ d.getD n (-1)
  via : ∀ n, n < N → 0 ≤ d.getD n (-1) → n = s ∨ ∃ x ∈ upL L U, viaL d n x
  fix : ∀ x ∈ upL L U, fixL d x
def certB (N s : Nat) (L : List Ln) (U : List Bool) (d : List Int) : Bool :=
  decide (d.length = N) && decide (d.getD s (-1) = 0) && (List.range N).all (fun n => decide (-1 ≤ d.getD n (-1))) && (List.range N).all (fun n => !decide (0 ≤ d.getD n (-1)) || decide (n = s) || (upL L U).any fun x => decide (viaL d n x)) && (upL L U).all fun x => decide (fixL d x)
theorem certB_ok {N s : Nat} {L : List Ln} {U : List Bool} {d : List Int} (h : certB N s L U d = true) : Cert N s L U d := by
  unfold certB at h
  simp only [Bool.and_eq_true, decide_eq_true_eq, List.all_eq_true, List.mem_range, Bool.or_eq_true, Bool.not_eq_true', decide_eq_false_iff_not, List.any_eq_true] at h
  obtain ⟨⟨⟨⟨h1, h2⟩, h3⟩, h4⟩, h5⟩ := h
  refine ⟨h1, h2, h3, fun n hn h0 => ?_, h5⟩
  rcases h4 n hn with (h | h) | h
  · exact absurd h0 h
  · exact .inl h
  · exact .inr h
theorem Cert.dist {N s : Nat} {L : List Ln} {U : List Bool} {d : List Int} (h : Cert N s L U d) (hok : netOk N L U) (hs : s < N) : IsDist (Rn L U) N s d := by
  have key : ∀ (l n : Nat), n < N → d.getD n (-1) = l → Wk (Rn L U) s n l := by
    intro l
    induction l using Nat.strongRecOn with
    | _ l ih =>
      intro n hn hl
      rcases h.via n hn (by omega) with rfl | ⟨x, hx, hv⟩
      · have := h.src
        have : l = 0 := by omega
        subst this
        exact .nil
      · obtain ⟨i, g1, g2⟩ := mem_upL.1 hx
        have hg := hok.2.2.2.2 x (List.mem_of_getElem? g1)
        unfold goodL at hg
        rcases hv with ⟨v1, v2, v3⟩ | ⟨v1, v2, v3⟩
        · obtain ⟨k, hk⟩ := Int.eq_ofNat_of_zero_le v2
          have hw := Wk.snoc (ih k (by omega) x.a.toNat (by omega) hk) (show Rn L U x.a.toNat n x.c.toNat from ⟨i, x, g1, g2, by omega, .inl ⟨by omega, v1⟩⟩)
          rwa [show l = k + x.c.toNat by omega]
        · obtain ⟨k, hk⟩ := Int.eq_ofNat_of_zero_le v2
          have hw := Wk.snoc (ih k (by omega) x.b.toNat (by omega) hk) (show Rn L U x.b.toNat n x.c.toNat from ⟨i, x, g1, g2, by omega, .inr ⟨v1, by omega⟩⟩)
          rwa [show l = k + x.c.toNat by omega]
  exact fixed_dist hok hs ⟨h.len, h.src, h.low, fun n l hn hl => key l n hn hl⟩ fun j x _ h1 h2 => h.fix x (mem_upL.2 ⟨j, h1, h2⟩)
theorem IsDist.fixL {N s : Nat} {L : List Ln} {U : List Bool} {d : List Int} (h : IsDist (Rn L U) N s d) (hok : netOk N L U) {x : Ln} {i : Nat} (h1 : L[i]? = some x) (h2 : U[i]? = some true) : fixL d x := by
  have hg := hok.2.2.2.2 x (List.mem_of_getElem? h1)
  unfold goodL at hg
  constructor
  · intro h0
    have := h.le (u := x.a.toNat) (v := x.b.toNat) (c := x.c.toNat) (by omega) (by omega) ⟨i, x, h1, h2, by omega, .inl ⟨by omega, by omega⟩⟩ h0
    omega
  · intro h0
    have := h.le (u := x.b.toNat) (v := x.a.toNat) (c := x.c.toNat) (by omega) (by omega) ⟨i, x, h1, h2, by omega, .inr ⟨by omega, by omega⟩⟩ h0
    omega
theorem IsDist.viaL {N s n : Nat} {L : List Ln} {U : List Bool} {d : List Int} (h : IsDist (Rn L U) N s d) (hok : netOk N L U) (hs : s < N) (hn : n < N) (hns : n ≠ s) (h0 : 0 ≤ d.getD n (-1)) : ∃ (i : Nat) (x : Ln), L[i]? = some x ∧ U[i]? = some true ∧ viaL d n x := by
  obtain ⟨l, hl, hw⟩ := h.wk hn h0
  cases hw with
  | nil => exact absurd rfl hns
  | @snoc u _ l' c hw hr =>
    obtain ⟨i, x, h1, h2, h3, h4⟩ := id hr
    obtain ⟨hu, _⟩ := hr.lt hok
    have hdu : 0 ≤ d.getD u (-1) ∧ d.getD u (-1) ≤ l' := by
      rcases h.2 u hu with ⟨_, g2⟩ | ⟨m, g1, g2, g3⟩
      · exact absurd hw (g2 l')
      · have := g3 l' hw; omega
    have hle := h.le hu hn hr hdu.1
    refine ⟨i, x, h1, h2, ?_⟩
    rcases h4 with ⟨a, b⟩ | ⟨a, b⟩
    · left; rw [show x.a.toNat = u by omega]; exact ⟨b, hdu.1, by omega⟩
    · right; rw [show x.b.toNat = u by omega]; exact ⟨a, hdu.1, by omega⟩
end Go.Proofs.Ytdaigoiekkofoaa.Abs

/- The chapter's network: Has, five. -/
namespace Go.Proofs.Ytdaigoiekkofoaa.Abs
open Go
set_option linter.unusedVariables false
def fiveL : List Ln := [⟨0, 2, 1⟩, ⟨0, 3, 1⟩, ⟨1, 2, 2⟩, ⟨1, 3, 2⟩, ⟨1, 3, 2⟩, ⟨0, 1, 9⟩]
/-- The flags of the first i links: those that are not in D. -/
def flg (D : List Int) (i : Nat) : List Bool := (List.range i).map fun (j : Nat) => !decide ((j : Int) ∈ D)
theorem flg_succ (D : List Int) (i : Nat) : flg D (i + 1) = flg D i ++ [!decide ((i : Int) ∈ D)] := by
  unfold flg
  rw [List.range_succ, List.map_append]
  rfl
theorem flg_len (D : List Int) (i : Nat) : (flg D i).length = i := by unfold flg; simp
section
variable {B0 : Nat} {old : Nat → Option (List Value)} {n : Nat} {H : Hp} {Q : Value → Hp → Prop}
set_option maxRecDepth 10000
set_option maxHeartbeats 4000000
theorem has_ct (D : List Int) (ad : Option Addr) (c : Nat) (k : Int) (h1 : Arr (cx B0 old) H ad 1 encI D) (hl : D.length ≤ 100) (hQ : Q (.bool (decide (k ∈ D))) H) :
    CallT (cx B0 old) (acall (cx B0 old) ansP (n + 1)) 46 [.slice ad D.length c, .int .i64 k] H Q := by
  refine call_in2 18 rfl Try.func46 rfl rfl ?_
  repeat (first | (first | refine rt_nil ?_ | (refine isRun ?_; first | refine x1 ?_ | refine x2 ?_ | refine x3 fun _ => ?_ | refine x4 fun _ => ?_ | refine x5 fun _ => ?_ | (refine rt_step rfl rfl rfl ?_; first | refine st_buildSlice rfl (zr rfl) rfl rfl rfl rfl rfl rfl fun _ => ?_ | refine st_A rfl rfl (fun _ => rfl) rfl fun _ => ?_) | refine x8 ?_ | refine rt_skip rfl rfl rfl ?_ | refine rt_skip0 rfl rfl ?_)) | (first | refine sq_n ?_ | refine sq_r ?_ | refine sq_e ?_ | refine bk_n ?_ | refine bk_r ?_ | refine bk_e rfl ?_ | refine bk_x rfl ?_ | refine ct_seq ?_ | refine ct_region rfl ?_ | refine ct_skip ?_ | refine ct_label ?_ | refine ct_block ?_ | refine ct_exit ?_ | refine ct_ret ?_ | refine ct_scope ?_ | refine ct_true rfl ?_ | refine ct_false rfl ?_ | refine lt_step ?_))
  refine loop_ind (ι := Nat) 0 (fun i => D.length - i) (fun i => i ≤ D.length ∧ k ∉ D.take i) (fun i => [(5, .int .i64 (i : Int)), (0, .slice ad D.length c), (1, .int .i64 k)]) (fun _ => H) ⟨Nat.zero_le _, by simp⟩ (by repeat (first | exact SubL.nil | refine SubL.cons rfl ?_)) (by exact drop_auto) ?_
  rintro i ⟨hi, hno⟩
  repeat (first | (first | refine rt_nil ?_ | (refine isRun ?_; first | refine x1 ?_ | refine x2 ?_ | refine x3 fun _ => ?_ | refine x4 fun _ => ?_ | refine x5 fun _ => ?_ | (refine rt_step rfl rfl rfl ?_; first | refine st_buildSlice rfl (zr rfl) rfl rfl rfl rfl rfl rfl fun _ => ?_ | refine st_A rfl rfl (fun _ => rfl) rfl fun _ => ?_) | refine x8 ?_ | refine rt_skip rfl rfl rfl ?_ | refine rt_skip0 rfl rfl ?_)) | (first | refine sq_n ?_ | refine sq_r ?_ | refine sq_e ?_ | refine bk_n ?_ | refine bk_r ?_ | refine bk_e rfl ?_ | refine bk_x rfl ?_ | refine ct_seq ?_ | refine ct_region rfl ?_ | refine ct_skip ?_ | refine ct_label ?_ | refine ct_block ?_ | refine ct_exit ?_ | refine ct_ret ?_ | refine ct_scope ?_ | refine ct_true rfl ?_ | refine ct_false rfl ?_ | refine lt_step ?_))
  refine ct_condT te_d rfl (fun hc => ?_) (fun hc => ?_)
  · obtain ⟨x, hx⟩ : ∃ x, D[i]? = some x := ⟨_, List.getElem?_eq_getElem (by omega)⟩
    obtain ⟨b1, o1, rfl, hL0⟩ := h1.ld1 3 hx rfl rfl (sz rfl)
    repeat (first | (first | refine rt_nil ?_ | (refine isRun ?_; first | refine x1 ?_ | refine x2 ?_ | refine x3 fun _ => ?_ | refine x4 fun _ => ?_ | refine x5 fun _ => ?_ | (refine rt_step rfl rfl rfl ?_; first | refine st_buildSlice rfl (zr rfl) rfl rfl rfl rfl rfl rfl fun _ => ?_ | refine st_A rfl rfl (fun _ => rfl) rfl fun _ => ?_) | refine x8 ?_ | refine rt_skip rfl rfl rfl ?_ | refine rt_skip0 rfl rfl ?_)) | (first | refine sq_n ?_ | refine sq_r ?_ | refine sq_e ?_ | refine bk_n ?_ | refine bk_r ?_ | refine bk_e rfl ?_ | refine bk_x rfl ?_ | refine ct_seq ?_ | refine ct_region rfl ?_ | refine ct_skip ?_ | refine ct_label ?_ | refine ct_block ?_ | refine ct_exit ?_ | refine ct_ret ?_ | refine ct_scope ?_ | refine ct_true rfl ?_ | refine ct_false rfl ?_ | refine lt_step ?_))
    refine ct_condT te_e rfl (fun hc => ?_) (fun hc => ?_)
    · subst hc
      rw [show decide (x ∈ D) = true from decide_eq_true (List.mem_of_getElem? hx)] at hQ
      repeat (first | (first | refine rt_nil ?_ | (refine isRun ?_; first | refine x1 ?_ | refine x2 ?_ | refine x3 fun _ => ?_ | refine x4 fun _ => ?_ | refine x5 fun _ => ?_ | (refine rt_step rfl rfl rfl ?_; first | refine st_buildSlice rfl (zr rfl) rfl rfl rfl rfl rfl rfl fun _ => ?_ | refine st_A rfl rfl (fun _ => rfl) rfl fun _ => ?_) | refine x8 ?_ | refine rt_skip rfl rfl rfl ?_ | refine rt_skip0 rfl rfl ?_)) | (first | refine sq_n ?_ | refine sq_r ?_ | refine sq_e ?_ | refine bk_n ?_ | refine bk_r ?_ | refine bk_e rfl ?_ | refine bk_x rfl ?_ | refine ct_seq ?_ | refine ct_region rfl ?_ | refine ct_skip ?_ | refine ct_label ?_ | refine ct_block ?_ | refine ct_exit ?_ | refine ct_ret ?_ | refine ct_scope ?_ | refine ct_true rfl ?_ | refine ct_false rfl ?_ | refine lt_step ?_))
      exact re_1 rfl rfl (by exact drop_auto) hQ
    · repeat (first | (first | refine rt_nil ?_ | (refine isRun ?_; first | refine x1 ?_ | refine x2 ?_ | refine x3 fun _ => ?_ | refine x4 fun _ => ?_ | refine x5 fun _ => ?_ | (refine rt_step rfl rfl rfl ?_; first | refine st_buildSlice rfl (zr rfl) rfl rfl rfl rfl rfl rfl fun _ => ?_ | refine st_A rfl rfl (fun _ => rfl) rfl fun _ => ?_) | refine x8 ?_ | refine rt_skip rfl rfl rfl ?_ | refine rt_skip0 rfl rfl ?_)) | (first | refine sq_n ?_ | refine sq_r ?_ | refine sq_e ?_ | refine bk_n ?_ | refine bk_r ?_ | refine bk_e rfl ?_ | refine bk_x rfl ?_ | refine ct_seq ?_ | refine ct_region rfl ?_ | refine ct_skip ?_ | refine ct_label ?_ | refine ct_block ?_ | refine ct_exit ?_ | refine ct_ret ?_ | refine ct_scope ?_ | refine ct_true rfl ?_ | refine ct_false rfl ?_ | refine lt_step ?_))
      refine ⟨i + 1, ⟨by omega, fun h => ?_⟩, by omega, by repeat (first | exact SubL.nil | refine SubL.cons rfl ?_), by exact drop_auto⟩
      rw [List.take_add_one, hx] at h
      rcases List.mem_append.1 h with h | h
      · exact hno h
      · exact hc (List.mem_singleton.1 h).symm
  · have : i = D.length := by omega
    subst this
    rw [List.take_length] at hno
    rw [show decide (k ∈ D) = false from decide_eq_false hno] at hQ
    repeat (first | (first | refine rt_nil ?_ | (refine isRun ?_; first | refine x1 ?_ | refine x2 ?_ | refine x3 fun _ => ?_ | refine x4 fun _ => ?_ | refine x5 fun _ => ?_ | (refine rt_step rfl rfl rfl ?_; first | refine st_buildSlice rfl (zr rfl) rfl rfl rfl rfl rfl rfl fun _ => ?_ | refine st_A rfl rfl (fun _ => rfl) rfl fun _ => ?_) | refine x8 ?_ | refine rt_skip rfl rfl rfl ?_ | refine rt_skip0 rfl rfl ?_)) | (first | refine sq_n ?_ | refine sq_r ?_ | refine sq_e ?_ | refine bk_n ?_ | refine bk_r ?_ | refine bk_e rfl ?_ | refine bk_x rfl ?_ | refine ct_seq ?_ | refine ct_region rfl ?_ | refine ct_skip ?_ | refine ct_label ?_ | refine ct_block ?_ | refine ct_exit ?_ | refine ct_ret ?_ | refine ct_scope ?_ | refine ct_true rfl ?_ | refine ct_false rfl ?_ | refine lt_step ?_))
    exact re_1 rfl rfl (by exact drop_auto) hQ
theorem five_ct (D : List Int) (ad : Option Addr) (c : Nat) (h1 : Arr (cx B0 old) H ad 1 encI D) (hl : D.length ≤ 100)
    (hQ : ∀ bl vu Hs, Own encBo 1 (flg D 6) vu Hs → Q (.agg ⟨[.int .i64 5, .slice (some ⟨bl, 0, none⟩) 6 6, vu]⟩) ((bl, .row (fiveL.flatMap encLn) 3 false) :: (Hs ++ H))) :
    CallT (cx B0 old) (acall (cx B0 old) ansP (n + 2)) 28 [.slice ad D.length c] H Q := by
  refine call_in1 30 rfl Try.func28 rfl rfl ?_
  repeat (first | (first | refine rt_nil ?_ | (refine isRun ?_; first | refine x1 ?_ | refine x2 ?_ | refine x3 fun _ => ?_ | refine x4 fun _ => ?_ | refine x5 fun _ => ?_ | (refine rt_step rfl rfl rfl ?_; first | refine st_buildSlice rfl (zr rfl) rfl rfl rfl rfl rfl rfl fun _ => ?_ | refine st_A rfl rfl (fun _ => rfl) rfl fun _ => ?_) | refine x8 ?_ | refine rt_skip rfl rfl rfl ?_ | refine rt_skip0 rfl rfl ?_)) | (first | refine sq_n ?_ | refine sq_r ?_ | refine sq_e ?_ | refine bk_n ?_ | refine bk_r ?_ | refine bk_e rfl ?_ | refine bk_x rfl ?_ | refine ct_seq ?_ | refine ct_region rfl ?_ | refine ct_skip ?_ | refine ct_label ?_ | refine ct_block ?_ | refine ct_exit ?_ | refine ct_ret ?_ | refine ct_scope ?_ | refine ct_true rfl ?_ | refine ct_false rfl ?_ | refine lt_step ?_))
  rename_i b2 bl b3
  refine loop_ind (ι := Nat × Value × Hp) (0, .slice none 0 0, []) (fun i => 6 - i.1) (fun i => i.1 ≤ 6 ∧ Own encBo 1 (flg D i.1) i.2.1 i.2.2)
    (fun i => [(4, .int .i64 (i.1 : Int)), (3, .pointer (some ⟨b3, 0, none⟩)), (2, .pointer (some ⟨b2, 0, none⟩)), (0, .slice ad D.length c)])
    (fun i => (b3, .row [.int .i64 5, .slice (some ⟨bl, 0, none⟩) 6 6, i.2.1] 3 false) :: (bl, .row (fiveL.flatMap encLn) 3 false) :: (b2, .row [.int .i64 0, .slice none 0 0, .slice none 0 0] 3 false) :: (i.2.2 ++ H)) ⟨Nat.zero_le _, Own.nil⟩ (by repeat (first | exact SubL.nil | refine SubL.cons rfl ?_)) (by exact drop_auto) ?_
  rintro ⟨i, v, Hs⟩ ⟨hi, ho⟩
  simp only at hi ho ⊢
  obtain ⟨av, cv, rfl, _⟩ := ho.arrW (C := cx B0 old) (fun _ => rfl)
  repeat (first | (first | refine rt_nil ?_ | (refine isRun ?_; first | refine x1 ?_ | refine x2 ?_ | refine x3 fun _ => ?_ | refine x4 fun _ => ?_ | refine x5 fun _ => ?_ | (refine rt_step rfl rfl rfl ?_; first | refine st_buildSlice rfl (zr rfl) rfl rfl rfl rfl rfl rfl fun _ => ?_ | refine st_A rfl rfl (fun _ => rfl) rfl fun _ => ?_) | refine x8 ?_ | refine rt_skip rfl rfl rfl ?_ | refine rt_skip0 rfl rfl ?_)) | (first | refine sq_n ?_ | refine sq_r ?_ | refine sq_e ?_ | refine bk_n ?_ | refine bk_r ?_ | refine bk_e rfl ?_ | refine bk_x rfl ?_ | refine ct_seq ?_ | refine ct_region rfl ?_ | refine ct_skip ?_ | refine ct_label ?_ | refine ct_block ?_ | refine ct_exit ?_ | refine ct_ret ?_ | refine ct_scope ?_ | refine ct_true rfl ?_ | refine ct_false rfl ?_ | refine lt_step ?_))
  refine ct_condT te_d rfl (fun hc => ?_) (fun hc => ?_)
  rotate_left
  · have : i = 6 := by omega
    subst this
    repeat (first | (first | refine rt_nil ?_ | (refine isRun ?_; first | refine x1 ?_ | refine x2 ?_ | refine x3 fun _ => ?_ | refine x4 fun _ => ?_ | refine x5 fun _ => ?_ | (refine rt_step rfl rfl rfl ?_; first | refine st_buildSlice rfl (zr rfl) rfl rfl rfl rfl rfl rfl fun _ => ?_ | refine st_A rfl rfl (fun _ => rfl) rfl fun _ => ?_) | refine x8 ?_ | refine rt_skip rfl rfl rfl ?_ | refine rt_skip0 rfl rfl ?_)) | (first | refine sq_n ?_ | refine sq_r ?_ | refine sq_e ?_ | refine bk_n ?_ | refine bk_r ?_ | refine bk_e rfl ?_ | refine bk_x rfl ?_ | refine ct_seq ?_ | refine ct_region rfl ?_ | refine ct_skip ?_ | refine ct_label ?_ | refine ct_block ?_ | refine ct_exit ?_ | refine ct_ret ?_ | refine ct_scope ?_ | refine ct_true rfl ?_ | refine ct_false rfl ?_ | refine lt_step ?_))
    exact re_c1 rfl rfl (.own _ _ (List.Mem.tail _ (List.Mem.tail _ (List.Mem.head _)))) rfl (sz rfl) rfl (H' := (bl, .row (fiveL.flatMap encLn) 3 false) :: (Hs ++ H)) (by exact drop_auto) (hQ bl _ Hs ho)
  have hfl := flg_len D i
  repeat (first | (first | refine rt_nil ?_ | (refine isRun ?_; first | refine x1 ?_ | refine x2 ?_ | refine x3 fun _ => ?_ | refine x4 fun _ => ?_ | refine x5 fun _ => ?_ | (refine rt_step rfl rfl rfl ?_; first | refine st_buildSlice rfl (zr rfl) rfl rfl rfl rfl rfl rfl fun _ => ?_ | refine st_A rfl rfl (fun _ => rfl) rfl fun _ => ?_) | refine x8 ?_ | refine rt_skip rfl rfl rfl ?_ | refine rt_skip0 rfl rfl ?_)) | (first | refine sq_n ?_ | refine sq_r ?_ | refine sq_e ?_ | refine bk_n ?_ | refine bk_r ?_ | refine bk_e rfl ?_ | refine bk_x rfl ?_ | refine ct_seq ?_ | refine ct_region rfl ?_ | refine ct_skip ?_ | refine ct_label ?_ | refine ct_block ?_ | refine ct_exit ?_ | refine ct_ret ?_ | refine ct_scope ?_ | refine ct_true rfl ?_ | refine ct_false rfl ?_ | refine lt_step ?_))
  refine ct_draw (masks := [0, 1, 0, 0, 12, 28, 60, 127, 255, 511]) (plan := [0, 1, 2, 3, 4, 5, 6, 7, 8, 9]) (E := []) (by kernel_rfl) (by kernel_rfl) (by kernel_rfl) (by kernel_rfl) ?_
  repeat (first | refine pl_nil ?_ | (refine isPlan ?_; first | refine y1 ?_ | refine y2 ?_ | refine pl_skip rfl rfl rfl rfl rfl ?_ | refine pl_skip0 rfl rfl rfl rfl ?_))
  refine pl_S rfl rfl rfl rfl rfl rfl (st_call rfl rfl rfl rfl (has_ct D ad c i (h1.weak (by exact drop_auto)) hl ⟨by exact rec_auto, ?_⟩))
  repeat (first | refine pl_nil ?_ | (refine isPlan ?_; first | refine y1 ?_ | refine y2 ?_ | refine pl_skip rfl rfl rfl rfl rfl ?_ | refine pl_skip0 rfl rfl rfl rfl ?_))
  refine pl_S rfl rfl rfl rfl rfl rfl (st_buildSlice rfl (zr rfl) rfl rfl rfl rfl rfl rfl fun b6 => ⟨by exact rec_auto, ?_⟩)
  repeat (first | refine pl_nil ?_ | (refine isPlan ?_; first | refine y1 ?_ | refine y2 ?_ | refine pl_skip rfl rfl rfl rfl rfl ?_ | refine pl_skip0 rfl rfl rfl rfl ?_))
  refine pl_S rfl rfl rfl rfl rfl rfl (st_appP (M := [!decide ((i : Int) ∈ D)]) (c := 1) (pre := [_, _, _, _]) ho (fun _ => rfl) (fun _ => rfl) rfl rfl (ap rfl) (arrW_one (fun _ => rfl) (List.Mem.head _)) (by show _ * (1 + 1) ≤ _; rw [hfl]; simp only [List.length_singleton]; omega) fun v2 Hs2 ho2 => ⟨by exact rec_auto, ?_⟩)
  rw [← flg_succ] at ho2

  obtain ⟨a2, c2, rfl, _⟩ := id (ho2.arrW (C := cx B0 old) encBo_len)
  repeat (first | refine pl_nil ?_ | (refine isPlan ?_; first | refine y1 ?_ | refine y2 ?_ | refine pl_skip rfl rfl rfl rfl rfl ?_ | refine pl_skip0 rfl rfl rfl rfl ?_))
  refine y3 ?_
  repeat (first | refine pl_nil ?_ | (refine isPlan ?_; first | refine y1 ?_ | refine y2 ?_ | refine pl_skip rfl rfl rfl rfl rfl ?_ | refine pl_skip0 rfl rfl rfl rfl ?_))
  repeat (first | (first | refine rt_nil ?_ | (refine isRun ?_; first | refine x1 ?_ | refine x2 ?_ | refine x3 fun _ => ?_ | refine x4 fun _ => ?_ | refine x5 fun _ => ?_ | (refine rt_step rfl rfl rfl ?_; first | refine st_buildSlice rfl (zr rfl) rfl rfl rfl rfl rfl rfl fun _ => ?_ | refine st_A rfl rfl (fun _ => rfl) rfl fun _ => ?_) | refine x8 ?_ | refine rt_skip rfl rfl rfl ?_ | refine rt_skip0 rfl rfl ?_)) | (first | refine sq_n ?_ | refine sq_r ?_ | refine sq_e ?_ | refine bk_n ?_ | refine bk_r ?_ | refine bk_e rfl ?_ | refine bk_x rfl ?_ | refine ct_seq ?_ | refine ct_region rfl ?_ | refine ct_skip ?_ | refine ct_label ?_ | refine ct_block ?_ | refine ct_exit ?_ | refine ct_ret ?_ | refine ct_scope ?_ | refine ct_true rfl ?_ | refine ct_false rfl ?_ | refine lt_step ?_))
  exact ⟨(i + 1, _, Hs2), ⟨by omega, ho2⟩, by dsimp only; omega, by repeat (first | exact SubL.nil | refine SubL.cons rfl ?_), by exact drop_auto⟩
end
end Go.Proofs.Ytdaigoiekkofoaa.Abs

/- Methods of networks; what is known of the chapter's. -/
namespace Go.Proofs.Ytdaigoiekkofoaa.Abs
open Go
set_option linter.unusedVariables false
theorem Res.imp {C : Ctx} {S S' : List Int → Prop} {v : Value} {H : Hp} (h : Res C S v H) (hs : ∀ l, S l → S' l) : Res C S' v H := by
  obtain ⟨l, ad, c, h1, h2, h3⟩ := h
  exact ⟨l, ad, c, hs l h1, h2, h3⟩
theorem res_lit {C : Ctx} {H : Hp} {b ez : Nat} {el : Bool} (l : List Int) (h : (b, AObj.row (l.flatMap encI) ez el) ∈ H) : Res C (fun x => x = l) (.slice (some ⟨b, 0, none⟩) l.length l.length) H := ⟨l, _, _, rfl, rfl, arr_flat encI_len l h⟩
/-- A network as a value: its cells, and where its links and flags lie. -/
structure NetV (C : Ctx) (H : Hp) (v : Value) (N : Int) (L : List Ln) (U : List Bool) : Prop where
  cells : ∃ ad ad2 c c2, v = .agg ⟨[.int .i64 N, .slice ad L.length c, .slice ad2 U.length c2]⟩ ∧ Arr C H ad 3 encLn L ∧ Arr C H ad2 1 encBo U
theorem NetV.weak {C : Ctx} {H H' : Hp} {v : Value} {N : Int} {L : List Ln} {U : List Bool} (h : NetV C H v N L U) (hs : H.Sublist H') : NetV C H' v N L U := by
  obtain ⟨ad, ad2, c, c2, h1, h2, h3⟩ := h.cells
  exact ⟨ad, ad2, c, c2, h1, h2.weak hs, h3.weak hs⟩
section
variable {B0 : Nat} {old : Nat → Option (List Value)} {n : Nat} {H : Hp} {Q : Value → Hp → Prop}
set_option maxRecDepth 10000
set_option maxHeartbeats 4000000
variable {N k k2 : Int} {L : List Ln} {U : List Bool} {v : Value}
theorem ndist (h : NetV (cx B0 old) H v N L U) (hl : L.length ≤ 60) (hQ : ∀ w Hs, Res (cx B0 old) (DistS N k L U) w (Hs ++ H) → Q w (Hs ++ H)) : CallT (cx B0 old) (acall (cx B0 old) ansP (n + 6)) 29 [v, .int .i64 k] H Q := by
  obtain ⟨ad, ad2, c, c2, rfl, h1, h2⟩ := h.cells
  refine call_in2 13 rfl Try.func29 rfl rfl ?_
  repeat (first | (first | refine rt_nil ?_ | (refine isRun ?_; first | refine x1 ?_ | refine x2 ?_ | refine x3 fun _ => ?_ | refine x4 fun _ => ?_ | refine x5 fun _ => ?_ | (refine rt_step rfl rfl rfl ?_; first | refine st_buildSlice rfl (zr rfl) rfl rfl rfl rfl rfl rfl fun _ => ?_ | refine st_A rfl rfl (fun _ => rfl) rfl fun _ => ?_) | refine x8 ?_ | refine rt_skip rfl rfl rfl ?_ | refine rt_skip0 rfl rfl ?_)) | (first | refine sq_n ?_ | refine sq_r ?_ | refine sq_e ?_ | refine bk_n ?_ | refine bk_r ?_ | refine bk_e rfl ?_ | refine bk_x rfl ?_ | refine ct_seq ?_ | refine ct_region rfl ?_ | refine ct_skip ?_ | refine ct_label ?_ | refine ct_block ?_ | refine ct_exit ?_ | refine ct_ret ?_ | refine ct_scope ?_ | refine ct_true rfl ?_ | refine ct_false rfl ?_ | refine lt_step ?_))
  refine rt_step rfl rfl rfl (st_call rfl rfl rfl rfl (pdistS (h1.weak (by exact drop_auto)) (h2.weak (by exact drop_auto)) hl fun w Hs hw => ?_))
  repeat (first | (first | refine rt_nil ?_ | (refine isRun ?_; first | refine x1 ?_ | refine x2 ?_ | refine x3 fun _ => ?_ | refine x4 fun _ => ?_ | refine x5 fun _ => ?_ | (refine rt_step rfl rfl rfl ?_; first | refine st_buildSlice rfl (zr rfl) rfl rfl rfl rfl rfl rfl fun _ => ?_ | refine st_A rfl rfl (fun _ => rfl) rfl fun _ => ?_) | refine x8 ?_ | refine rt_skip rfl rfl rfl ?_ | refine rt_skip0 rfl rfl ?_)) | (first | refine sq_n ?_ | refine sq_r ?_ | refine sq_e ?_ | refine bk_n ?_ | refine bk_r ?_ | refine bk_e rfl ?_ | refine bk_x rfl ?_ | refine ct_seq ?_ | refine ct_region rfl ?_ | refine ct_skip ?_ | refine ct_label ?_ | refine ct_block ?_ | refine ct_exit ?_ | refine ct_ret ?_ | refine ct_scope ?_ | refine ct_true rfl ?_ | refine ct_false rfl ?_ | refine lt_step ?_))
  rename_i b
  refine re_1 rfl rfl (H' := (Hs ++ [(b, .row [.int .i64 N, .slice ad L.length c, .slice ad2 U.length c2] 3 false)]) ++ H) (by rw [List.append_assoc]; exact List.Sublist.refl _) (hQ _ _ (by rw [List.append_assoc]; exact hw))
theorem nparents (h : NetV (cx B0 old) H v N L U) (hl : L.length ≤ 60) (hQ : ∀ w Hs, Res (cx B0 old) (ParS N k L U) w (Hs ++ H) → Q w (Hs ++ H)) : CallT (cx B0 old) (acall (cx B0 old) ansP (n + 6)) 32 [v, .int .i64 k] H Q := by
  obtain ⟨ad, ad2, c, c2, rfl, h1, h2⟩ := h.cells
  refine call_in2 13 rfl Try.func32 rfl rfl ?_
  repeat (first | (first | refine rt_nil ?_ | (refine isRun ?_; first | refine x1 ?_ | refine x2 ?_ | refine x3 fun _ => ?_ | refine x4 fun _ => ?_ | refine x5 fun _ => ?_ | (refine rt_step rfl rfl rfl ?_; first | refine st_buildSlice rfl (zr rfl) rfl rfl rfl rfl rfl rfl fun _ => ?_ | refine st_A rfl rfl (fun _ => rfl) rfl fun _ => ?_) | refine x8 ?_ | refine rt_skip rfl rfl rfl ?_ | refine rt_skip0 rfl rfl ?_)) | (first | refine sq_n ?_ | refine sq_r ?_ | refine sq_e ?_ | refine bk_n ?_ | refine bk_r ?_ | refine bk_e rfl ?_ | refine bk_x rfl ?_ | refine ct_seq ?_ | refine ct_region rfl ?_ | refine ct_skip ?_ | refine ct_label ?_ | refine ct_block ?_ | refine ct_exit ?_ | refine ct_ret ?_ | refine ct_scope ?_ | refine ct_true rfl ?_ | refine ct_false rfl ?_ | refine lt_step ?_))
  refine rt_step rfl rfl rfl (st_call rfl rfl rfl rfl (pparS (h1.weak (by exact drop_auto)) (h2.weak (by exact drop_auto)) hl fun w Hs hw => ?_))
  repeat (first | (first | refine rt_nil ?_ | (refine isRun ?_; first | refine x1 ?_ | refine x2 ?_ | refine x3 fun _ => ?_ | refine x4 fun _ => ?_ | refine x5 fun _ => ?_ | (refine rt_step rfl rfl rfl ?_; first | refine st_buildSlice rfl (zr rfl) rfl rfl rfl rfl rfl rfl fun _ => ?_ | refine st_A rfl rfl (fun _ => rfl) rfl fun _ => ?_) | refine x8 ?_ | refine rt_skip rfl rfl rfl ?_ | refine rt_skip0 rfl rfl ?_)) | (first | refine sq_n ?_ | refine sq_r ?_ | refine sq_e ?_ | refine bk_n ?_ | refine bk_r ?_ | refine bk_e rfl ?_ | refine bk_x rfl ?_ | refine ct_seq ?_ | refine ct_region rfl ?_ | refine ct_skip ?_ | refine ct_label ?_ | refine ct_block ?_ | refine ct_exit ?_ | refine ct_ret ?_ | refine ct_scope ?_ | refine ct_true rfl ?_ | refine ct_false rfl ?_ | refine lt_step ?_))
  rename_i b
  refine re_1 rfl rfl (H' := (Hs ++ [(b, .row [.int .i64 N, .slice ad L.length c, .slice ad2 U.length c2] 3 false)]) ++ H) (by rw [List.append_assoc]; exact List.Sublist.refl _) (hQ _ _ (by rw [List.append_assoc]; exact hw))
theorem nnext (h : NetV (cx B0 old) H v N L U) (hl : L.length ≤ 60) (hQ : ∀ w Hs, Res (cx B0 old) (NextS N k k2 L U) w (Hs ++ H) → Q w (Hs ++ H)) : CallT (cx B0 old) (acall (cx B0 old) ansP (n + 6)) 30 [v, .int .i64 k, .int .i64 k2] H Q := by
  obtain ⟨ad, ad2, c, c2, rfl, h1, h2⟩ := h.cells
  refine call_in3 16 rfl Try.func30 rfl rfl ?_
  repeat (first | (first | refine rt_nil ?_ | (refine isRun ?_; first | refine x1 ?_ | refine x2 ?_ | refine x3 fun _ => ?_ | refine x4 fun _ => ?_ | refine x5 fun _ => ?_ | (refine rt_step rfl rfl rfl ?_; first | refine st_buildSlice rfl (zr rfl) rfl rfl rfl rfl rfl rfl fun _ => ?_ | refine st_A rfl rfl (fun _ => rfl) rfl fun _ => ?_) | refine x8 ?_ | refine rt_skip rfl rfl rfl ?_ | refine rt_skip0 rfl rfl ?_)) | (first | refine sq_n ?_ | refine sq_r ?_ | refine sq_e ?_ | refine bk_n ?_ | refine bk_r ?_ | refine bk_e rfl ?_ | refine bk_x rfl ?_ | refine ct_seq ?_ | refine ct_region rfl ?_ | refine ct_skip ?_ | refine ct_label ?_ | refine ct_block ?_ | refine ct_exit ?_ | refine ct_ret ?_ | refine ct_scope ?_ | refine ct_true rfl ?_ | refine ct_false rfl ?_ | refine lt_step ?_))
  refine rt_step rfl rfl rfl (st_call rfl rfl rfl rfl (pnextS (h1.weak (by exact drop_auto)) (h2.weak (by exact drop_auto)) hl fun w Hs hw => ?_))
  repeat (first | (first | refine rt_nil ?_ | (refine isRun ?_; first | refine x1 ?_ | refine x2 ?_ | refine x3 fun _ => ?_ | refine x4 fun _ => ?_ | refine x5 fun _ => ?_ | (refine rt_step rfl rfl rfl ?_; first | refine st_buildSlice rfl (zr rfl) rfl rfl rfl rfl rfl rfl fun _ => ?_ | refine st_A rfl rfl (fun _ => rfl) rfl fun _ => ?_) | refine x8 ?_ | refine rt_skip rfl rfl rfl ?_ | refine rt_skip0 rfl rfl ?_)) | (first | refine sq_n ?_ | refine sq_r ?_ | refine sq_e ?_ | refine bk_n ?_ | refine bk_r ?_ | refine bk_e rfl ?_ | refine bk_x rfl ?_ | refine ct_seq ?_ | refine ct_region rfl ?_ | refine ct_skip ?_ | refine ct_label ?_ | refine ct_block ?_ | refine ct_exit ?_ | refine ct_ret ?_ | refine ct_scope ?_ | refine ct_true rfl ?_ | refine ct_false rfl ?_ | refine lt_step ?_))
  rename_i b
  refine re_1 rfl rfl (H' := (Hs ++ [(b, .row [.int .i64 N, .slice ad L.length c, .slice ad2 U.length c2] 3 false)]) ++ H) (by rw [List.append_assoc]; exact List.Sublist.refl _) (hQ _ _ (by rw [List.append_assoc]; exact hw))
theorem npath (h : NetV (cx B0 old) H v N L U) (hl : L.length ≤ 60) (hQ : ∀ w Hs, Res (cx B0 old) (PathS N k k2 L U) w (Hs ++ H) → Q w (Hs ++ H)) : CallT (cx B0 old) (acall (cx B0 old) ansP (n + 6)) 33 [v, .int .i64 k, .int .i64 k2] H Q := by
  obtain ⟨ad, ad2, c, c2, rfl, h1, h2⟩ := h.cells
  refine call_in3 16 rfl Try.func33 rfl rfl ?_
  repeat (first | (first | refine rt_nil ?_ | (refine isRun ?_; first | refine x1 ?_ | refine x2 ?_ | refine x3 fun _ => ?_ | refine x4 fun _ => ?_ | refine x5 fun _ => ?_ | (refine rt_step rfl rfl rfl ?_; first | refine st_buildSlice rfl (zr rfl) rfl rfl rfl rfl rfl rfl fun _ => ?_ | refine st_A rfl rfl (fun _ => rfl) rfl fun _ => ?_) | refine x8 ?_ | refine rt_skip rfl rfl rfl ?_ | refine rt_skip0 rfl rfl ?_)) | (first | refine sq_n ?_ | refine sq_r ?_ | refine sq_e ?_ | refine bk_n ?_ | refine bk_r ?_ | refine bk_e rfl ?_ | refine bk_x rfl ?_ | refine ct_seq ?_ | refine ct_region rfl ?_ | refine ct_skip ?_ | refine ct_label ?_ | refine ct_block ?_ | refine ct_exit ?_ | refine ct_ret ?_ | refine ct_scope ?_ | refine ct_true rfl ?_ | refine ct_false rfl ?_ | refine lt_step ?_))
  refine rt_step rfl rfl rfl (st_call rfl rfl rfl rfl (ppathS (h1.weak (by exact drop_auto)) (h2.weak (by exact drop_auto)) hl fun w Hs hw => ?_))
  repeat (first | (first | refine rt_nil ?_ | (refine isRun ?_; first | refine x1 ?_ | refine x2 ?_ | refine x3 fun _ => ?_ | refine x4 fun _ => ?_ | refine x5 fun _ => ?_ | (refine rt_step rfl rfl rfl ?_; first | refine st_buildSlice rfl (zr rfl) rfl rfl rfl rfl rfl rfl fun _ => ?_ | refine st_A rfl rfl (fun _ => rfl) rfl fun _ => ?_) | refine x8 ?_ | refine rt_skip rfl rfl rfl ?_ | refine rt_skip0 rfl rfl ?_)) | (first | refine sq_n ?_ | refine sq_r ?_ | refine sq_e ?_ | refine bk_n ?_ | refine bk_r ?_ | refine bk_e rfl ?_ | refine bk_x rfl ?_ | refine ct_seq ?_ | refine ct_region rfl ?_ | refine ct_skip ?_ | refine ct_label ?_ | refine ct_block ?_ | refine ct_exit ?_ | refine ct_ret ?_ | refine ct_scope ?_ | refine ct_true rfl ?_ | refine ct_false rfl ?_ | refine lt_step ?_))
  rename_i b
  refine re_1 rfl rfl (H' := (Hs ++ [(b, .row [.int .i64 N, .slice ad L.length c, .slice ad2 U.length c2] 3 false)]) ++ H) (by rw [List.append_assoc]; exact List.Sublist.refl _) (hQ _ _ (by rw [List.append_assoc]; exact hw))
theorem npathsM (h : NetV (cx B0 old) H v N L U) (hl : L.length ≤ 60) (hQ : ∀ x, CntS N k k2 L U x → Q (.int .i64 x) H) : CallT (cx B0 old) (acall (cx B0 old) ansP (n + 31001 + 3)) 31 [v, .int .i64 k, .int .i64 k2] H Q := by
  obtain ⟨ad, ad2, c, c2, rfl, h1, h2⟩ := h.cells
  refine call_in3 16 rfl Try.func31 rfl rfl ?_
  repeat (first | (first | refine rt_nil ?_ | (refine isRun ?_; first | refine x1 ?_ | refine x2 ?_ | refine x3 fun _ => ?_ | refine x4 fun _ => ?_ | refine x5 fun _ => ?_ | (refine rt_step rfl rfl rfl ?_; first | refine st_buildSlice rfl (zr rfl) rfl rfl rfl rfl rfl rfl fun _ => ?_ | refine st_A rfl rfl (fun _ => rfl) rfl fun _ => ?_) | refine x8 ?_ | refine rt_skip rfl rfl rfl ?_ | refine rt_skip0 rfl rfl ?_)) | (first | refine sq_n ?_ | refine sq_r ?_ | refine sq_e ?_ | refine bk_n ?_ | refine bk_r ?_ | refine bk_e rfl ?_ | refine bk_x rfl ?_ | refine ct_seq ?_ | refine ct_region rfl ?_ | refine ct_skip ?_ | refine ct_label ?_ | refine ct_block ?_ | refine ct_exit ?_ | refine ct_ret ?_ | refine ct_scope ?_ | refine ct_true rfl ?_ | refine ct_false rfl ?_ | refine lt_step ?_))
  refine rt_step rfl rfl rfl (st_call rfl rfl rfl rfl (ppathsS (h1.weak (by exact drop_auto)) (h2.weak (by exact drop_auto)) hl fun x hx => ?_))
  repeat (first | (first | refine rt_nil ?_ | (refine isRun ?_; first | refine x1 ?_ | refine x2 ?_ | refine x3 fun _ => ?_ | refine x4 fun _ => ?_ | refine x5 fun _ => ?_ | (refine rt_step rfl rfl rfl ?_; first | refine st_buildSlice rfl (zr rfl) rfl rfl rfl rfl rfl rfl fun _ => ?_ | refine st_A rfl rfl (fun _ => rfl) rfl fun _ => ?_) | refine x8 ?_ | refine rt_skip rfl rfl rfl ?_ | refine rt_skip0 rfl rfl ?_)) | (first | refine sq_n ?_ | refine sq_r ?_ | refine sq_e ?_ | refine bk_n ?_ | refine bk_r ?_ | refine bk_e rfl ?_ | refine bk_x rfl ?_ | refine ct_seq ?_ | refine ct_region rfl ?_ | refine ct_skip ?_ | refine ct_label ?_ | refine ct_block ?_ | refine ct_exit ?_ | refine ct_ret ?_ | refine ct_scope ?_ | refine ct_true rfl ?_ | refine ct_false rfl ?_ | refine lt_step ?_))
  exact re_1 rfl rfl (by exact drop_auto) (hQ x hx)
theorem npathsA {m : Nat} (hm : 31004 ≤ m) (h : NetV (cx B0 old) H v N L U) (hl : L.length ≤ 60) (hQ : ∀ x, CntS N k k2 L U x → Q (.int .i64 x) H) : CallT (cx B0 old) (acall (cx B0 old) ansP m) 31 [v, .int .i64 k, .int .i64 k2] H Q := by
  obtain ⟨n', rfl⟩ : ∃ n', m = n' + 31001 + 3 := ⟨m - 31004, by omega⟩
  exact npathsM h hl hQ
end
/-! ### The chapter's network, with all links up; without 0; without 0 and 1 -/
def up0 : List Bool := [true, true, true, true, true, true]
def up1 : List Bool := [false, true, true, true, true, true]
def up2 : List Bool := [false, false, true, true, true, true]
theorem ok0 : netOk 5 fiveL up0 := by decide
theorem ok1 : netOk 5 fiveL up1 := by decide
theorem ok2 : netOk 5 fiveL up2 := by decide
theorem d00 : IsDist (Rn fiveL up0) 5 0 [0, 3, 1, 1, -1] := (certB_ok (by decide)).dist ok0 (by decide)
theorem d01 : IsDist (Rn fiveL up0) 5 1 [3, 0, 2, 2, -1] := (certB_ok (by decide)).dist ok0 (by decide)
theorem d04 : IsDist (Rn fiveL up0) 5 4 [-1, -1, -1, -1, 0] := (certB_ok (by decide)).dist ok0 (by decide)
theorem d10 : IsDist (Rn fiveL up1) 5 0 [0, 3, 5, 1, -1] := (certB_ok (by decide)).dist ok1 (by decide)
theorem d11 : IsDist (Rn fiveL up1) 5 1 [3, 0, 2, 2, -1] := (certB_ok (by decide)).dist ok1 (by decide)
theorem d20 : IsDist (Rn fiveL up2) 5 0 [0, 9, 11, 11, -1] := (certB_ok (by decide)).dist ok2 (by decide)
theorem d22 : IsDist (Rn fiveL up2) 5 2 [11, 2, 0, 4, -1] := (certB_ok (by decide)).dist ok2 (by decide)
theorem DistS.lit {N k : Int} {L : List Ln} {U : List Bool} {d : List Int} (hv : valA N k L U) (hd : IsDist (Rn L U) N.toNat k.toNat d) : ∀ l, DistS N k L U l → l = d := fun l h => (h.1 hv).uniq hd
theorem NextS.lit {N k k2 : Int} {L : List Ln} {U : List Bool} {d r : List Int} (hv : valB N k k2 L U) (hd : IsDist (Rn L U) N.toNat k2.toNat d) (hr : nxL L U d k.toNat L.length = r) : ∀ l, NextS N k k2 L U l → l = r := fun l h => by
  obtain ⟨d', h1, rfl⟩ := h.1 hv
  rw [h1.uniq hd, hr]
theorem CntS.lit {N k k2 : Int} {L : List Ln} {U : List Bool} {d : List Int} {x r : Int} (hv : valB N k k2 L U) (hd : IsDist (Rn L U) N.toNat k2.toNat d) (hr : npaths L U d k2.toNat k.toNat = r) (h : CntS N k k2 L U x) : x = r := by
  obtain ⟨d', h1, rfl⟩ := h.1 hv
  rw [h1.uniq hd, hr]
theorem ParS.lit {N k : Int} {L : List Ln} {U : List Bool} {d r : List Int} (hv : valA N k L U) (hd : IsDist (Rn L U) N.toNat k.toNat d) (hr : pars L U d N.toNat = r) : ∀ l, ParS N k L U l → l = r := fun l h => by
  obtain ⟨d', h1, rfl⟩ := h.1 hv
  rw [h1.uniq hd, hr]
theorem PathS.lit {N k k2 : Int} {L : List Ln} {U : List Bool} {d r : List Int} (hv : valB N k k2 L U) (hd : IsDist (Rn L U) N.toNat k.toNat d) (hr : PathTo L U d k2.toNat r) : ∀ l, PathS N k k2 L U l → l = r := fun l h => by
  obtain ⟨d', h1, h2⟩ := h.1 hv
  obtain rfl := h1.uniq hd
  exact h2.uniq hr
/-- The chosen path, by fuel. -/
def pathF (L : List Ln) (U : List Bool) (d : List Int) : Nat → Nat → List Int
  | 0, _ => []
  | k + 1, n => if par L U d n < 0 then [] else pathF L U d k (oth L (par L U d n) n) ++ [par L U d n]
def endF (L : List Ln) (U : List Bool) (d : List Int) : Nat → Nat → Bool
  | 0, _ => false
  | k + 1, n => if par L U d n < 0 then true else endF L U d k (oth L (par L U d n) n)
theorem pathF_to {L : List Ln} {U : List Bool} {d : List Int} : ∀ (k n : Nat), endF L U d k n = true → PathTo L U d n (pathF L U d k n)
  | 0, n, h => by cases h
  | k + 1, n, h => by
    unfold endF at h
    unfold pathF
    by_cases g : par L U d n < 0
    · rw [if_pos g]; exact .stop g
    · rw [if_neg g] at h ⊢
      exact .step (by omega) (pathF_to k _ h)
theorem v0A {k : Int} (h : 0 ≤ k ∧ k < 5) : valA 5 k fiveL up0 := ⟨ok0, h⟩
theorem v0B {k k2 : Int} (h : 0 ≤ k ∧ k < 5 ∧ 0 ≤ k2 ∧ k2 < 5) : valB 5 k k2 fiveL up0 := ⟨ok0, h⟩
theorem v1B {k k2 : Int} (h : 0 ≤ k ∧ k < 5 ∧ 0 ≤ k2 ∧ k2 < 5) : valB 5 k k2 fiveL up1 := ⟨ok1, h⟩
theorem v2A {k : Int} (h : 0 ≤ k ∧ k < 5) : valA 5 k fiveL up2 := ⟨ok2, h⟩
theorem v2B {k k2 : Int} (h : 0 ≤ k ∧ k < 5 ∧ 0 ≤ k2 ∧ k2 < 5) : valB 5 k k2 fiveL up2 := ⟨ok2, h⟩
theorem k_dist4 : ∀ l, DistS 5 4 fiveL up0 l → l = [-1, -1, -1, -1, 0] := DistS.lit (v0A (by decide)) d04
theorem k_next01 : ∀ l, NextS 5 0 1 fiveL up0 l → l = [0, 1] := NextS.lit (v0B (by decide)) d01 (by decide)
theorem k_paths00 {x : Int} (h : CntS 5 0 0 fiveL up0 x) : x = 1 := CntS.lit (N := 5) (k := 0) (k2 := 0) (d := [0, 3, 1, 1, -1]) (v0B (by decide)) d00 (npaths_self _ _ _ _) h
theorem k_paths04 {x : Int} (h : CntS 5 0 4 fiveL up0 x) : x = 0 := CntS.lit (N := 5) (k := 0) (k2 := 4) (d := [-1, -1, -1, -1, 0]) (v0B (by decide)) d04 (npaths_none (by decide) (by decide)) h
theorem k_par0 : ∀ l, ParS 5 0 fiveL up0 l → l = [-1, 2, 0, 1, -1] := ParS.lit (v0A (by decide)) d00 (by decide)
theorem k_path01 : ∀ l, PathS 5 0 1 fiveL up0 l → l = [0, 2] := PathS.lit (v0B (by decide)) d00 (pathF_to 5 1 (by decide))
theorem k1_next01 : ∀ l, NextS 5 0 1 fiveL up1 l → l = [1] := NextS.lit (v1B (by decide)) d11 (by decide)
theorem k1_paths01 {x : Int} (h : CntS 5 0 1 fiveL up1 x) : x = 2 := CntS.lit (N := 5) (k := 0) (k2 := 1) (d := [3, 0, 2, 2, -1]) (v1B (by decide)) d11 ((cntF_stable (N := 5) (L := fiveL) (U := up1) (d := [3, 0, 2, 2, -1]) (t := 1) ok1 32000 10 0 (by decide) (by decide) (by decide) (by decide)).trans (by decide)) h
theorem k1_path02 : ∀ l, PathS 5 0 2 fiveL up1 l → l = [1, 3, 2] := PathS.lit (v1B (by decide)) d10 (pathF_to 5 2 (by decide))
theorem k2_dist0 : ∀ l, DistS 5 0 fiveL up2 l → l = [0, 9, 11, 11, -1] := DistS.lit (v2A (by decide)) d20
theorem k2_next02 : ∀ l, NextS 5 0 2 fiveL up2 l → l = [5] := NextS.lit (v2B (by decide)) d22 (by decide)
theorem k_dist5 : ∀ l, DistS 5 5 fiveL up0 l → l = [] := fun l h => h.2 fun h => absurd h.2.2 (by decide)
theorem k_short : ∀ l, NextS 5 0 1 fiveL [true, true, true, true, true] l → l = [] := fun l h => h.2 fun h => absurd h.1.2.2.2.1 (by decide)
def freeL : List Ln := [⟨0, 2, 1⟩, ⟨0, 3, 1⟩, ⟨1, 2, 2⟩, ⟨1, 3, 0⟩, ⟨1, 3, 2⟩, ⟨0, 1, 9⟩]
theorem k_free {x : Int} (h : CntS 5 0 1 freeL up0 x) : x = 0 := h.2 fun h => absurd h.1 (by decide)
end Go.Proofs.Ytdaigoiekkofoaa.Abs

/- The contract of SpfKnown. -/
namespace Go.Proofs.Ytdaigoiekkofoaa.Abs
open Go
set_option linter.unusedVariables false
section
variable {B0 : Nat} {old : Nat → Option (List Value)} {n : Nat} {H : Hp} {Q : Value → Hp → Prop}
set_option maxRecDepth 10000
set_option maxHeartbeats 16000000
/-- A call in a symbolic run whose result is compared with a list. -/
theorem sameLit {S : List Int → Prop} {v : Value} {b ez : Nat} {el : Bool} (l : List Int) {m : Nat} (hm' : m = l.length) (hS : ∀ x, S x → x = l) (hlen : l.length ≤ 100000) (hv : Res (cx B0 old) S v H) (hm : (b, AObj.row (l.flatMap encI) ez el) ∈ H) (h : Q (.bool true) H) : CallT (cx B0 old) (acall (cx B0 old) ansP (n + 1)) 15 [v, .slice (some ⟨b, 0, none⟩) m m] H Q := by
  subst hm'
  exact same15_ct (S := fun x => x = l) (fun _ _ h h' => h.trans h'.symm) (fun _ h => by rw [h]; exact hlen) (hv.imp hS) (res_lit l hm) h
theorem netV0 {bl ez : Nat} {el : Bool} {ad2 : Option Addr} {c2 : Nat} {L : List Ln} {U : List Bool} (hm : (bl, AObj.row (L.flatMap encLn) ez el) ∈ H) (hU : Arr (cx B0 old) H ad2 1 encBo U) {m m2 : Nat} (h1 : m = L.length) (h2 : m2 = U.length) :
    NetV (cx B0 old) H (.agg ⟨[.int .i64 5, .slice (some ⟨bl, 0, none⟩) m m, .slice ad2 m2 c2]⟩) 5 L U := by
  subst h1 h2
  exact ⟨_, _, _, _, rfl, arr_flat (enc := encLn) (w := 3) (fun _ => rfl) L hm, hU⟩
theorem known_ct (hQ : Q (.bool true) H) : CallT (cx B0 old) (acall (cx B0 old) ansP (n + 31001 + 5)) 5 [] H Q := by
  refine call_in 108 rfl Try.func5 rfl rfl ?_
  repeat (first | (first | refine rt_nil ?_ | (refine isRun ?_; first | refine x1 ?_ | refine x2 ?_ | refine x3 fun _ => ?_ | refine x4 fun _ => ?_ | refine x5 fun _ => ?_ | (refine rt_step rfl rfl rfl ?_; first | refine st_buildSlice rfl (zr rfl) rfl rfl rfl rfl rfl rfl fun _ => ?_ | refine st_A rfl rfl (fun _ => rfl) rfl fun _ => ?_) | refine x8 ?_ | refine rt_skip rfl rfl rfl ?_ | refine rt_skip0 rfl rfl ?_)) | (first | refine sq_n ?_ | refine sq_r ?_ | refine sq_e ?_ | refine bk_n ?_ | refine bk_r ?_ | refine bk_e rfl ?_ | refine bk_x rfl ?_ | refine ct_seq ?_ | refine ct_region rfl ?_ | refine ct_skip ?_ | refine ct_label ?_ | refine ct_block ?_ | refine ct_exit ?_ | refine ct_ret ?_ | refine ct_scope ?_ | refine ct_true rfl ?_ | refine ct_false rfl ?_ | refine lt_step ?_))
  refine rt_step rfl rfl rfl (st_call rfl rfl rfl rfl (five_ct [] none 0 ⟨fun i r h => by simp at h⟩ (by simp) fun ba va Ha oa => ?_))
  repeat (first | (first | refine rt_nil ?_ | (refine isRun ?_; first | refine x1 ?_ | refine x2 ?_ | refine x3 fun _ => ?_ | refine x4 fun _ => ?_ | refine x5 fun _ => ?_ | (refine rt_step rfl rfl rfl ?_; first | refine st_buildSlice rfl (zr rfl) rfl rfl rfl rfl rfl rfl fun _ => ?_ | refine st_A rfl rfl (fun _ => rfl) rfl fun _ => ?_) | refine x8 ?_ | refine rt_skip rfl rfl rfl ?_ | refine rt_skip0 rfl rfl ?_)) | (first | refine sq_n ?_ | refine sq_r ?_ | refine sq_e ?_ | refine bk_n ?_ | refine bk_r ?_ | refine bk_e rfl ?_ | refine bk_x rfl ?_ | refine ct_seq ?_ | refine ct_region rfl ?_ | refine ct_skip ?_ | refine ct_label ?_ | refine ct_block ?_ | refine ct_exit ?_ | refine ct_ret ?_ | refine ct_scope ?_ | refine ct_true rfl ?_ | refine ct_false rfl ?_ | refine lt_step ?_))
  refine rt_step rfl rfl rfl (st_call rfl rfl rfl rfl (five_ct [0] _ _ (arr_flat encI_len [0] hm0) (by simp) fun bb vb Hb ob => ?_))
  repeat (first | (first | refine rt_nil ?_ | (refine isRun ?_; first | refine x1 ?_ | refine x2 ?_ | refine x3 fun _ => ?_ | refine x4 fun _ => ?_ | refine x5 fun _ => ?_ | (refine rt_step rfl rfl rfl ?_; first | refine st_buildSlice rfl (zr rfl) rfl rfl rfl rfl rfl rfl fun _ => ?_ | refine st_A rfl rfl (fun _ => rfl) rfl fun _ => ?_) | refine x8 ?_ | refine rt_skip rfl rfl rfl ?_ | refine rt_skip0 rfl rfl ?_)) | (first | refine sq_n ?_ | refine sq_r ?_ | refine sq_e ?_ | refine bk_n ?_ | refine bk_r ?_ | refine bk_e rfl ?_ | refine bk_x rfl ?_ | refine ct_seq ?_ | refine ct_region rfl ?_ | refine ct_skip ?_ | refine ct_label ?_ | refine ct_block ?_ | refine ct_exit ?_ | refine ct_ret ?_ | refine ct_scope ?_ | refine ct_true rfl ?_ | refine ct_false rfl ?_ | refine lt_step ?_))
  refine rt_step rfl rfl rfl (st_call rfl rfl rfl rfl (five_ct [0, 1] _ _ (arr_flat encI_len [0, 1] hm0) (by simp) fun bc vc Hc oc => ?_))
  rw [show flg [] 6 = up0 from by decide] at oa
  rw [show flg [0] 6 = up1 from by decide] at ob
  rw [show flg [0, 1] 6 = up2 from by decide] at oc
  obtain ⟨aa, ca, rfl, ha⟩ := oa.arrW (C := cx B0 old) encBo_len
  obtain ⟨ab, cb, rfl, hb⟩ := ob.arrW (C := cx B0 old) encBo_len
  obtain ⟨ac, cc, rfl, hc⟩ := oc.arrW (C := cx B0 old) encBo_len
  have netA : NetV (cx B0 old) ((ba, .row (fiveL.flatMap encLn) 3 false) :: (Ha ++ H)) (.agg ⟨[.int .i64 5, .slice (some ⟨ba, 0, none⟩) 6 6, .slice aa up0.length ca]⟩) 5 fiveL up0 := netV0 hm0 ((ha [_] H).arr encBo_len) rfl rfl
  have netB : NetV (cx B0 old) ((bb, .row (fiveL.flatMap encLn) 3 false) :: (Hb ++ H)) (.agg ⟨[.int .i64 5, .slice (some ⟨bb, 0, none⟩) 6 6, .slice ab up1.length cb]⟩) 5 fiveL up1 := netV0 hm0 ((hb [_] H).arr encBo_len) rfl rfl
  have netC : NetV (cx B0 old) ((bc, .row (fiveL.flatMap encLn) 3 false) :: (Hc ++ H)) (.agg ⟨[.int .i64 5, .slice (some ⟨bc, 0, none⟩) 6 6, .slice ac up2.length cc]⟩) 5 fiveL up2 := netV0 hm0 ((hc [_] H).arr encBo_len) rfl rfl
  clear ha hb hc oa ob oc
  repeat (first | (first | refine rt_nil ?_ | (refine isRun ?_; first | refine x1 ?_ | refine x2 ?_ | refine x3 fun _ => ?_ | refine x4 fun _ => ?_ | refine x5 fun _ => ?_ | (refine rt_step rfl rfl rfl ?_; first | refine st_buildSlice rfl (zr rfl) rfl rfl rfl rfl rfl rfl fun _ => ?_ | refine st_A rfl rfl (fun _ => rfl) rfl fun _ => ?_) | refine x8 ?_ | refine rt_skip rfl rfl rfl ?_ | refine rt_skip0 rfl rfl ?_)) | (first | refine sq_n ?_ | refine sq_r ?_ | refine sq_e ?_ | refine bk_n ?_ | refine bk_r ?_ | refine bk_e rfl ?_ | refine bk_x rfl ?_ | refine ct_seq ?_ | refine ct_region rfl ?_ | refine ct_skip ?_ | refine ct_label ?_ | refine ct_block ?_ | refine ct_exit ?_ | refine ct_ret ?_ | refine ct_scope ?_ | refine ct_true rfl ?_ | refine ct_false rfl ?_ | refine lt_step ?_))
  refine rt_step rfl rfl rfl (st_call rfl rfl rfl rfl (ndist (netA.weak (by exact drop_auto)) (by decide) fun w1 G1 r1 => ?_))
  repeat (first | (first | refine rt_nil ?_ | (refine isRun ?_; first | refine x1 ?_ | refine x2 ?_ | refine x3 fun _ => ?_ | refine x4 fun _ => ?_ | refine x5 fun _ => ?_ | (refine rt_step rfl rfl rfl ?_; first | refine st_buildSlice rfl (zr rfl) rfl rfl rfl rfl rfl rfl fun _ => ?_ | refine st_A rfl rfl (fun _ => rfl) rfl fun _ => ?_) | refine x8 ?_ | refine rt_skip rfl rfl rfl ?_ | refine rt_skip0 rfl rfl ?_)) | (first | refine sq_n ?_ | refine sq_r ?_ | refine sq_e ?_ | refine bk_n ?_ | refine bk_r ?_ | refine bk_e rfl ?_ | refine bk_x rfl ?_ | refine ct_seq ?_ | refine ct_region rfl ?_ | refine ct_skip ?_ | refine ct_label ?_ | refine ct_block ?_ | refine ct_exit ?_ | refine ct_ret ?_ | refine ct_scope ?_ | refine ct_true rfl ?_ | refine ct_false rfl ?_ | refine lt_step ?_))
  refine rt_step rfl rfl rfl (st_call rfl rfl rfl rfl (sameLit [-1, -1, -1, -1, 0] rfl k_dist4 (by decide) (r1.weak (by exact drop_auto)) hm0 ?_))
  clear r1
  as_aux_lemma =>
  repeat (first | (first | refine rt_nil ?_ | (refine isRun ?_; first | refine x1 ?_ | refine x2 ?_ | refine x3 fun _ => ?_ | refine x4 fun _ => ?_ | refine x5 fun _ => ?_ | (refine rt_step rfl rfl rfl ?_; first | refine st_buildSlice rfl (zr rfl) rfl rfl rfl rfl rfl rfl fun _ => ?_ | refine st_A rfl rfl (fun _ => rfl) rfl fun _ => ?_) | refine x8 ?_ | refine rt_skip rfl rfl rfl ?_ | refine rt_skip0 rfl rfl ?_)) | (first | refine sq_n ?_ | refine sq_r ?_ | refine sq_e ?_ | refine bk_n ?_ | refine bk_r ?_ | refine bk_e rfl ?_ | refine bk_x rfl ?_ | refine ct_seq ?_ | refine ct_region rfl ?_ | refine ct_skip ?_ | refine ct_label ?_ | refine ct_block ?_ | refine ct_exit ?_ | refine ct_ret ?_ | refine ct_scope ?_ | refine ct_true rfl ?_ | refine ct_false rfl ?_ | refine lt_step ?_))
  refine rt_step rfl rfl rfl (st_call rfl rfl rfl rfl (nnext (netA.weak (by exact drop_auto)) (by decide) fun w2 G2 r2 => ?_))
  repeat (first | (first | refine rt_nil ?_ | (refine isRun ?_; first | refine x1 ?_ | refine x2 ?_ | refine x3 fun _ => ?_ | refine x4 fun _ => ?_ | refine x5 fun _ => ?_ | (refine rt_step rfl rfl rfl ?_; first | refine st_buildSlice rfl (zr rfl) rfl rfl rfl rfl rfl rfl fun _ => ?_ | refine st_A rfl rfl (fun _ => rfl) rfl fun _ => ?_) | refine x8 ?_ | refine rt_skip rfl rfl rfl ?_ | refine rt_skip0 rfl rfl ?_)) | (first | refine sq_n ?_ | refine sq_r ?_ | refine sq_e ?_ | refine bk_n ?_ | refine bk_r ?_ | refine bk_e rfl ?_ | refine bk_x rfl ?_ | refine ct_seq ?_ | refine ct_region rfl ?_ | refine ct_skip ?_ | refine ct_label ?_ | refine ct_block ?_ | refine ct_exit ?_ | refine ct_ret ?_ | refine ct_scope ?_ | refine ct_true rfl ?_ | refine ct_false rfl ?_ | refine lt_step ?_))
  refine rt_step rfl rfl rfl (st_call rfl rfl rfl rfl (sameLit [0, 1] rfl k_next01 (by decide) (r2.weak (by exact drop_auto)) hm0 ?_))
  clear r2
  repeat (first | (first | refine rt_nil ?_ | (refine isRun ?_; first | refine x1 ?_ | refine x2 ?_ | refine x3 fun _ => ?_ | refine x4 fun _ => ?_ | refine x5 fun _ => ?_ | (refine rt_step rfl rfl rfl ?_; first | refine st_buildSlice rfl (zr rfl) rfl rfl rfl rfl rfl rfl fun _ => ?_ | refine st_A rfl rfl (fun _ => rfl) rfl fun _ => ?_) | refine x8 ?_ | refine rt_skip rfl rfl rfl ?_ | refine rt_skip0 rfl rfl ?_)) | (first | refine sq_n ?_ | refine sq_r ?_ | refine sq_e ?_ | refine bk_n ?_ | refine bk_r ?_ | refine bk_e rfl ?_ | refine bk_x rfl ?_ | refine ct_seq ?_ | refine ct_region rfl ?_ | refine ct_skip ?_ | refine ct_label ?_ | refine ct_block ?_ | refine ct_exit ?_ | refine ct_ret ?_ | refine ct_scope ?_ | refine ct_true rfl ?_ | refine ct_false rfl ?_ | refine lt_step ?_))
  refine rt_step rfl rfl rfl (st_call rfl rfl rfl rfl (npathsA (by omega) (netA.weak (by exact drop_auto)) (by decide) fun x3 q3 => ?_))
  obtain rfl := k_paths00 q3
  clear q3
  as_aux_lemma =>
  repeat (first | (first | refine rt_nil ?_ | (refine isRun ?_; first | refine x1 ?_ | refine x2 ?_ | refine x3 fun _ => ?_ | refine x4 fun _ => ?_ | refine x5 fun _ => ?_ | (refine rt_step rfl rfl rfl ?_; first | refine st_buildSlice rfl (zr rfl) rfl rfl rfl rfl rfl rfl fun _ => ?_ | refine st_A rfl rfl (fun _ => rfl) rfl fun _ => ?_) | refine x8 ?_ | refine rt_skip rfl rfl rfl ?_ | refine rt_skip0 rfl rfl ?_)) | (first | refine sq_n ?_ | refine sq_r ?_ | refine sq_e ?_ | refine bk_n ?_ | refine bk_r ?_ | refine bk_e rfl ?_ | refine bk_x rfl ?_ | refine ct_seq ?_ | refine ct_region rfl ?_ | refine ct_skip ?_ | refine ct_label ?_ | refine ct_block ?_ | refine ct_exit ?_ | refine ct_ret ?_ | refine ct_scope ?_ | refine ct_true rfl ?_ | refine ct_false rfl ?_ | refine lt_step ?_))
  refine rt_step rfl rfl rfl (st_call rfl rfl rfl rfl (npathsA (by omega) (netA.weak (by exact drop_auto)) (by decide) fun x4 q4 => ?_))
  obtain rfl := k_paths04 q4
  clear q4
  repeat (first | (first | refine rt_nil ?_ | (refine isRun ?_; first | refine x1 ?_ | refine x2 ?_ | refine x3 fun _ => ?_ | refine x4 fun _ => ?_ | refine x5 fun _ => ?_ | (refine rt_step rfl rfl rfl ?_; first | refine st_buildSlice rfl (zr rfl) rfl rfl rfl rfl rfl rfl fun _ => ?_ | refine st_A rfl rfl (fun _ => rfl) rfl fun _ => ?_) | refine x8 ?_ | refine rt_skip rfl rfl rfl ?_ | refine rt_skip0 rfl rfl ?_)) | (first | refine sq_n ?_ | refine sq_r ?_ | refine sq_e ?_ | refine bk_n ?_ | refine bk_r ?_ | refine bk_e rfl ?_ | refine bk_x rfl ?_ | refine ct_seq ?_ | refine ct_region rfl ?_ | refine ct_skip ?_ | refine ct_label ?_ | refine ct_block ?_ | refine ct_exit ?_ | refine ct_ret ?_ | refine ct_scope ?_ | refine ct_true rfl ?_ | refine ct_false rfl ?_ | refine lt_step ?_))
  refine rt_step rfl rfl rfl (st_call rfl rfl rfl rfl (nparents (netA.weak (by exact drop_auto)) (by decide) fun w5 G5 r5 => ?_))
  repeat (first | (first | refine rt_nil ?_ | (refine isRun ?_; first | refine x1 ?_ | refine x2 ?_ | refine x3 fun _ => ?_ | refine x4 fun _ => ?_ | refine x5 fun _ => ?_ | (refine rt_step rfl rfl rfl ?_; first | refine st_buildSlice rfl (zr rfl) rfl rfl rfl rfl rfl rfl fun _ => ?_ | refine st_A rfl rfl (fun _ => rfl) rfl fun _ => ?_) | refine x8 ?_ | refine rt_skip rfl rfl rfl ?_ | refine rt_skip0 rfl rfl ?_)) | (first | refine sq_n ?_ | refine sq_r ?_ | refine sq_e ?_ | refine bk_n ?_ | refine bk_r ?_ | refine bk_e rfl ?_ | refine bk_x rfl ?_ | refine ct_seq ?_ | refine ct_region rfl ?_ | refine ct_skip ?_ | refine ct_label ?_ | refine ct_block ?_ | refine ct_exit ?_ | refine ct_ret ?_ | refine ct_scope ?_ | refine ct_true rfl ?_ | refine ct_false rfl ?_ | refine lt_step ?_))
  refine rt_step rfl rfl rfl (st_call rfl rfl rfl rfl (sameLit [-1, 2, 0, 1, -1] rfl k_par0 (by decide) (r5.weak (by exact drop_auto)) hm0 ?_))
  clear r5
  as_aux_lemma =>
  repeat (first | (first | refine rt_nil ?_ | (refine isRun ?_; first | refine x1 ?_ | refine x2 ?_ | refine x3 fun _ => ?_ | refine x4 fun _ => ?_ | refine x5 fun _ => ?_ | (refine rt_step rfl rfl rfl ?_; first | refine st_buildSlice rfl (zr rfl) rfl rfl rfl rfl rfl rfl fun _ => ?_ | refine st_A rfl rfl (fun _ => rfl) rfl fun _ => ?_) | refine x8 ?_ | refine rt_skip rfl rfl rfl ?_ | refine rt_skip0 rfl rfl ?_)) | (first | refine sq_n ?_ | refine sq_r ?_ | refine sq_e ?_ | refine bk_n ?_ | refine bk_r ?_ | refine bk_e rfl ?_ | refine bk_x rfl ?_ | refine ct_seq ?_ | refine ct_region rfl ?_ | refine ct_skip ?_ | refine ct_label ?_ | refine ct_block ?_ | refine ct_exit ?_ | refine ct_ret ?_ | refine ct_scope ?_ | refine ct_true rfl ?_ | refine ct_false rfl ?_ | refine lt_step ?_))
  refine rt_step rfl rfl rfl (st_call rfl rfl rfl rfl (npath (netA.weak (by exact drop_auto)) (by decide) fun w6 G6 r6 => ?_))
  repeat (first | (first | refine rt_nil ?_ | (refine isRun ?_; first | refine x1 ?_ | refine x2 ?_ | refine x3 fun _ => ?_ | refine x4 fun _ => ?_ | refine x5 fun _ => ?_ | (refine rt_step rfl rfl rfl ?_; first | refine st_buildSlice rfl (zr rfl) rfl rfl rfl rfl rfl rfl fun _ => ?_ | refine st_A rfl rfl (fun _ => rfl) rfl fun _ => ?_) | refine x8 ?_ | refine rt_skip rfl rfl rfl ?_ | refine rt_skip0 rfl rfl ?_)) | (first | refine sq_n ?_ | refine sq_r ?_ | refine sq_e ?_ | refine bk_n ?_ | refine bk_r ?_ | refine bk_e rfl ?_ | refine bk_x rfl ?_ | refine ct_seq ?_ | refine ct_region rfl ?_ | refine ct_skip ?_ | refine ct_label ?_ | refine ct_block ?_ | refine ct_exit ?_ | refine ct_ret ?_ | refine ct_scope ?_ | refine ct_true rfl ?_ | refine ct_false rfl ?_ | refine lt_step ?_))
  refine rt_step rfl rfl rfl (st_call rfl rfl rfl rfl (sameLit [0, 2] rfl k_path01 (by decide) (r6.weak (by exact drop_auto)) hm0 ?_))
  clear r6
  repeat (first | (first | refine rt_nil ?_ | (refine isRun ?_; first | refine x1 ?_ | refine x2 ?_ | refine x3 fun _ => ?_ | refine x4 fun _ => ?_ | refine x5 fun _ => ?_ | (refine rt_step rfl rfl rfl ?_; first | refine st_buildSlice rfl (zr rfl) rfl rfl rfl rfl rfl rfl fun _ => ?_ | refine st_A rfl rfl (fun _ => rfl) rfl fun _ => ?_) | refine x8 ?_ | refine rt_skip rfl rfl rfl ?_ | refine rt_skip0 rfl rfl ?_)) | (first | refine sq_n ?_ | refine sq_r ?_ | refine sq_e ?_ | refine bk_n ?_ | refine bk_r ?_ | refine bk_e rfl ?_ | refine bk_x rfl ?_ | refine ct_seq ?_ | refine ct_region rfl ?_ | refine ct_skip ?_ | refine ct_label ?_ | refine ct_block ?_ | refine ct_exit ?_ | refine ct_ret ?_ | refine ct_scope ?_ | refine ct_true rfl ?_ | refine ct_false rfl ?_ | refine lt_step ?_))
  refine rt_step rfl rfl rfl (st_call rfl rfl rfl rfl (nnext (netB.weak (by exact drop_auto)) (by decide) fun w7 G7 r7 => ?_))
  repeat (first | (first | refine rt_nil ?_ | (refine isRun ?_; first | refine x1 ?_ | refine x2 ?_ | refine x3 fun _ => ?_ | refine x4 fun _ => ?_ | refine x5 fun _ => ?_ | (refine rt_step rfl rfl rfl ?_; first | refine st_buildSlice rfl (zr rfl) rfl rfl rfl rfl rfl rfl fun _ => ?_ | refine st_A rfl rfl (fun _ => rfl) rfl fun _ => ?_) | refine x8 ?_ | refine rt_skip rfl rfl rfl ?_ | refine rt_skip0 rfl rfl ?_)) | (first | refine sq_n ?_ | refine sq_r ?_ | refine sq_e ?_ | refine bk_n ?_ | refine bk_r ?_ | refine bk_e rfl ?_ | refine bk_x rfl ?_ | refine ct_seq ?_ | refine ct_region rfl ?_ | refine ct_skip ?_ | refine ct_label ?_ | refine ct_block ?_ | refine ct_exit ?_ | refine ct_ret ?_ | refine ct_scope ?_ | refine ct_true rfl ?_ | refine ct_false rfl ?_ | refine lt_step ?_))
  refine rt_step rfl rfl rfl (st_call rfl rfl rfl rfl (sameLit [1] rfl k1_next01 (by decide) (r7.weak (by exact drop_auto)) hm0 ?_))
  clear r7
  as_aux_lemma =>
  repeat (first | (first | refine rt_nil ?_ | (refine isRun ?_; first | refine x1 ?_ | refine x2 ?_ | refine x3 fun _ => ?_ | refine x4 fun _ => ?_ | refine x5 fun _ => ?_ | (refine rt_step rfl rfl rfl ?_; first | refine st_buildSlice rfl (zr rfl) rfl rfl rfl rfl rfl rfl fun _ => ?_ | refine st_A rfl rfl (fun _ => rfl) rfl fun _ => ?_) | refine x8 ?_ | refine rt_skip rfl rfl rfl ?_ | refine rt_skip0 rfl rfl ?_)) | (first | refine sq_n ?_ | refine sq_r ?_ | refine sq_e ?_ | refine bk_n ?_ | refine bk_r ?_ | refine bk_e rfl ?_ | refine bk_x rfl ?_ | refine ct_seq ?_ | refine ct_region rfl ?_ | refine ct_skip ?_ | refine ct_label ?_ | refine ct_block ?_ | refine ct_exit ?_ | refine ct_ret ?_ | refine ct_scope ?_ | refine ct_true rfl ?_ | refine ct_false rfl ?_ | refine lt_step ?_))
  refine rt_step rfl rfl rfl (st_call rfl rfl rfl rfl (npathsA (by omega) (netB.weak (by exact drop_auto)) (by decide) fun x8 q8 => ?_))
  obtain rfl := k1_paths01 q8
  clear q8
  repeat (first | (first | refine rt_nil ?_ | (refine isRun ?_; first | refine x1 ?_ | refine x2 ?_ | refine x3 fun _ => ?_ | refine x4 fun _ => ?_ | refine x5 fun _ => ?_ | (refine rt_step rfl rfl rfl ?_; first | refine st_buildSlice rfl (zr rfl) rfl rfl rfl rfl rfl rfl fun _ => ?_ | refine st_A rfl rfl (fun _ => rfl) rfl fun _ => ?_) | refine x8 ?_ | refine rt_skip rfl rfl rfl ?_ | refine rt_skip0 rfl rfl ?_)) | (first | refine sq_n ?_ | refine sq_r ?_ | refine sq_e ?_ | refine bk_n ?_ | refine bk_r ?_ | refine bk_e rfl ?_ | refine bk_x rfl ?_ | refine ct_seq ?_ | refine ct_region rfl ?_ | refine ct_skip ?_ | refine ct_label ?_ | refine ct_block ?_ | refine ct_exit ?_ | refine ct_ret ?_ | refine ct_scope ?_ | refine ct_true rfl ?_ | refine ct_false rfl ?_ | refine lt_step ?_))
  refine rt_step rfl rfl rfl (st_call rfl rfl rfl rfl (npath (netB.weak (by exact drop_auto)) (by decide) fun w9 G9 r9 => ?_))
  repeat (first | (first | refine rt_nil ?_ | (refine isRun ?_; first | refine x1 ?_ | refine x2 ?_ | refine x3 fun _ => ?_ | refine x4 fun _ => ?_ | refine x5 fun _ => ?_ | (refine rt_step rfl rfl rfl ?_; first | refine st_buildSlice rfl (zr rfl) rfl rfl rfl rfl rfl rfl fun _ => ?_ | refine st_A rfl rfl (fun _ => rfl) rfl fun _ => ?_) | refine x8 ?_ | refine rt_skip rfl rfl rfl ?_ | refine rt_skip0 rfl rfl ?_)) | (first | refine sq_n ?_ | refine sq_r ?_ | refine sq_e ?_ | refine bk_n ?_ | refine bk_r ?_ | refine bk_e rfl ?_ | refine bk_x rfl ?_ | refine ct_seq ?_ | refine ct_region rfl ?_ | refine ct_skip ?_ | refine ct_label ?_ | refine ct_block ?_ | refine ct_exit ?_ | refine ct_ret ?_ | refine ct_scope ?_ | refine ct_true rfl ?_ | refine ct_false rfl ?_ | refine lt_step ?_))
  refine rt_step rfl rfl rfl (st_call rfl rfl rfl rfl (sameLit [1, 3, 2] rfl k1_path02 (by decide) (r9.weak (by exact drop_auto)) hm0 ?_))
  clear r9
  as_aux_lemma =>
  repeat (first | (first | refine rt_nil ?_ | (refine isRun ?_; first | refine x1 ?_ | refine x2 ?_ | refine x3 fun _ => ?_ | refine x4 fun _ => ?_ | refine x5 fun _ => ?_ | (refine rt_step rfl rfl rfl ?_; first | refine st_buildSlice rfl (zr rfl) rfl rfl rfl rfl rfl rfl fun _ => ?_ | refine st_A rfl rfl (fun _ => rfl) rfl fun _ => ?_) | refine x8 ?_ | refine rt_skip rfl rfl rfl ?_ | refine rt_skip0 rfl rfl ?_)) | (first | refine sq_n ?_ | refine sq_r ?_ | refine sq_e ?_ | refine bk_n ?_ | refine bk_r ?_ | refine bk_e rfl ?_ | refine bk_x rfl ?_ | refine ct_seq ?_ | refine ct_region rfl ?_ | refine ct_skip ?_ | refine ct_label ?_ | refine ct_block ?_ | refine ct_exit ?_ | refine ct_ret ?_ | refine ct_scope ?_ | refine ct_true rfl ?_ | refine ct_false rfl ?_ | refine lt_step ?_))
  refine rt_step rfl rfl rfl (st_call rfl rfl rfl rfl (ndist (netC.weak (by exact drop_auto)) (by decide) fun w10 G10 r10 => ?_))
  repeat (first | (first | refine rt_nil ?_ | (refine isRun ?_; first | refine x1 ?_ | refine x2 ?_ | refine x3 fun _ => ?_ | refine x4 fun _ => ?_ | refine x5 fun _ => ?_ | (refine rt_step rfl rfl rfl ?_; first | refine st_buildSlice rfl (zr rfl) rfl rfl rfl rfl rfl rfl fun _ => ?_ | refine st_A rfl rfl (fun _ => rfl) rfl fun _ => ?_) | refine x8 ?_ | refine rt_skip rfl rfl rfl ?_ | refine rt_skip0 rfl rfl ?_)) | (first | refine sq_n ?_ | refine sq_r ?_ | refine sq_e ?_ | refine bk_n ?_ | refine bk_r ?_ | refine bk_e rfl ?_ | refine bk_x rfl ?_ | refine ct_seq ?_ | refine ct_region rfl ?_ | refine ct_skip ?_ | refine ct_label ?_ | refine ct_block ?_ | refine ct_exit ?_ | refine ct_ret ?_ | refine ct_scope ?_ | refine ct_true rfl ?_ | refine ct_false rfl ?_ | refine lt_step ?_))
  refine rt_step rfl rfl rfl (st_call rfl rfl rfl rfl (sameLit [0, 9, 11, 11, -1] rfl k2_dist0 (by decide) (r10.weak (by exact drop_auto)) hm0 ?_))
  clear r10
  as_aux_lemma =>
  repeat (first | (first | refine rt_nil ?_ | (refine isRun ?_; first | refine x1 ?_ | refine x2 ?_ | refine x3 fun _ => ?_ | refine x4 fun _ => ?_ | refine x5 fun _ => ?_ | (refine rt_step rfl rfl rfl ?_; first | refine st_buildSlice rfl (zr rfl) rfl rfl rfl rfl rfl rfl fun _ => ?_ | refine st_A rfl rfl (fun _ => rfl) rfl fun _ => ?_) | refine x8 ?_ | refine rt_skip rfl rfl rfl ?_ | refine rt_skip0 rfl rfl ?_)) | (first | refine sq_n ?_ | refine sq_r ?_ | refine sq_e ?_ | refine bk_n ?_ | refine bk_r ?_ | refine bk_e rfl ?_ | refine bk_x rfl ?_ | refine ct_seq ?_ | refine ct_region rfl ?_ | refine ct_skip ?_ | refine ct_label ?_ | refine ct_block ?_ | refine ct_exit ?_ | refine ct_ret ?_ | refine ct_scope ?_ | refine ct_true rfl ?_ | refine ct_false rfl ?_ | refine lt_step ?_))
  refine rt_step rfl rfl rfl (st_call rfl rfl rfl rfl (nnext (netC.weak (by exact drop_auto)) (by decide) fun w11 G11 r11 => ?_))
  repeat (first | (first | refine rt_nil ?_ | (refine isRun ?_; first | refine x1 ?_ | refine x2 ?_ | refine x3 fun _ => ?_ | refine x4 fun _ => ?_ | refine x5 fun _ => ?_ | (refine rt_step rfl rfl rfl ?_; first | refine st_buildSlice rfl (zr rfl) rfl rfl rfl rfl rfl rfl fun _ => ?_ | refine st_A rfl rfl (fun _ => rfl) rfl fun _ => ?_) | refine x8 ?_ | refine rt_skip rfl rfl rfl ?_ | refine rt_skip0 rfl rfl ?_)) | (first | refine sq_n ?_ | refine sq_r ?_ | refine sq_e ?_ | refine bk_n ?_ | refine bk_r ?_ | refine bk_e rfl ?_ | refine bk_x rfl ?_ | refine ct_seq ?_ | refine ct_region rfl ?_ | refine ct_skip ?_ | refine ct_label ?_ | refine ct_block ?_ | refine ct_exit ?_ | refine ct_ret ?_ | refine ct_scope ?_ | refine ct_true rfl ?_ | refine ct_false rfl ?_ | refine lt_step ?_))
  refine rt_step rfl rfl rfl (st_call rfl rfl rfl rfl (sameLit [5] rfl k2_next02 (by decide) (r11.weak (by exact drop_auto)) hm0 ?_))
  clear r11
  repeat (first | (first | refine rt_nil ?_ | (refine isRun ?_; first | refine x1 ?_ | refine x2 ?_ | refine x3 fun _ => ?_ | refine x4 fun _ => ?_ | refine x5 fun _ => ?_ | (refine rt_step rfl rfl rfl ?_; first | refine st_buildSlice rfl (zr rfl) rfl rfl rfl rfl rfl rfl fun _ => ?_ | refine st_A rfl rfl (fun _ => rfl) rfl fun _ => ?_) | refine x8 ?_ | refine rt_skip rfl rfl rfl ?_ | refine rt_skip0 rfl rfl ?_)) | (first | refine sq_n ?_ | refine sq_r ?_ | refine sq_e ?_ | refine bk_n ?_ | refine bk_r ?_ | refine bk_e rfl ?_ | refine bk_x rfl ?_ | refine ct_seq ?_ | refine ct_region rfl ?_ | refine ct_skip ?_ | refine ct_label ?_ | refine ct_block ?_ | refine ct_exit ?_ | refine ct_ret ?_ | refine ct_scope ?_ | refine ct_true rfl ?_ | refine ct_false rfl ?_ | refine lt_step ?_))
  refine rt_step rfl rfl rfl (st_call rfl rfl rfl rfl (five_ct [] none 0 ⟨fun i r h => by simp at h⟩ (by simp) fun bd vd Hd od => ?_))
  repeat (first | (first | refine rt_nil ?_ | (refine isRun ?_; first | refine x1 ?_ | refine x2 ?_ | refine x3 fun _ => ?_ | refine x4 fun _ => ?_ | refine x5 fun _ => ?_ | (refine rt_step rfl rfl rfl ?_; first | refine st_buildSlice rfl (zr rfl) rfl rfl rfl rfl rfl rfl fun _ => ?_ | refine st_A rfl rfl (fun _ => rfl) rfl fun _ => ?_) | refine x8 ?_ | refine rt_skip rfl rfl rfl ?_ | refine rt_skip0 rfl rfl ?_)) | (first | refine sq_n ?_ | refine sq_r ?_ | refine sq_e ?_ | refine bk_n ?_ | refine bk_r ?_ | refine bk_e rfl ?_ | refine bk_x rfl ?_ | refine ct_seq ?_ | refine ct_region rfl ?_ | refine ct_skip ?_ | refine ct_label ?_ | refine ct_block ?_ | refine ct_exit ?_ | refine ct_ret ?_ | refine ct_scope ?_ | refine ct_true rfl ?_ | refine ct_false rfl ?_ | refine lt_step ?_))
  refine rt_step rfl rfl rfl (st_call rfl rfl rfl rfl (five_ct [] none 0 ⟨fun i r h => by simp at h⟩ (by simp) fun be ve He oe => ?_))
  rw [show flg [] 6 = up0 from by decide] at od oe
  have hcut := od.cuts (C := cx B0 old) (pre := [(bd, .row (fiveL.flatMap encLn) 3 false)]) (H0 := H) encBo_len
  obtain ⟨ass, cs, hsl, hS⟩ := hcut.part 23 4 none (some (.int .i64 5)) 0 5 rfl (sz rfl) (by decide) (by decide) (.inr ⟨rfl, rfl⟩) (.inl rfl)
  obtain ⟨a4, c4, rfl, h4⟩ := od.arrW (C := cx B0 old) encBo_len
  obtain ⟨a5, c5, rfl, h5⟩ := oe.arrW (C := cx B0 old) encBo_len
  have netS : NetV (cx B0 old) ((bd, .row (fiveL.flatMap encLn) 3 false) :: (Hd ++ H)) (.agg ⟨[.int .i64 5, .slice (some ⟨bd, 0, none⟩) 6 6, .slice ass (5 - 0) cs]⟩) 5 fiveL [true, true, true, true, true] := netV0 hm0 (hS.arr encBo_len) rfl rfl
  have netF : NetV (cx B0 old) ((be, .row (freeL.flatMap encLn) 3 false) :: (He ++ H)) (.agg ⟨[.int .i64 5, .slice (some ⟨be, 0, none⟩) 6 6, .slice a5 up0.length c5]⟩) 5 freeL up0 := netV0 hm0 ((h5 [_] H).arr encBo_len) rfl rfl
  clear hcut hS h4 h5 od oe
  as_aux_lemma =>
  repeat (first | (first | refine rt_nil ?_ | (refine isRun ?_; first | refine x1 ?_ | refine x2 ?_ | refine x3 fun _ => ?_ | refine x4 fun _ => ?_ | refine x5 fun _ => ?_ | (refine rt_step rfl rfl rfl ?_; first | refine st_buildSlice rfl (zr rfl) rfl rfl rfl rfl rfl rfl fun _ => ?_ | refine st_A rfl rfl (fun _ => rfl) rfl fun _ => ?_) | refine x8 ?_ | refine rt_skip rfl rfl rfl ?_ | refine rt_skip0 rfl rfl ?_)) | (first | refine sq_n ?_ | refine sq_r ?_ | refine sq_e ?_ | refine bk_n ?_ | refine bk_r ?_ | refine bk_e rfl ?_ | refine bk_x rfl ?_ | refine ct_seq ?_ | refine ct_region rfl ?_ | refine ct_skip ?_ | refine ct_label ?_ | refine ct_block ?_ | refine ct_exit ?_ | refine ct_ret ?_ | refine ct_scope ?_ | refine ct_true rfl ?_ | refine ct_false rfl ?_ | refine lt_step ?_))
  apply rt_p rfl rfl rfl
  case hp => exact p_slc rfl rfl rfl hsl
  repeat (first | (first | refine rt_nil ?_ | (refine isRun ?_; first | refine x1 ?_ | refine x2 ?_ | refine x3 fun _ => ?_ | refine x4 fun _ => ?_ | refine x5 fun _ => ?_ | (refine rt_step rfl rfl rfl ?_; first | refine st_buildSlice rfl (zr rfl) rfl rfl rfl rfl rfl rfl fun _ => ?_ | refine st_A rfl rfl (fun _ => rfl) rfl fun _ => ?_) | refine x8 ?_ | refine rt_skip rfl rfl rfl ?_ | refine rt_skip0 rfl rfl ?_)) | (first | refine sq_n ?_ | refine sq_r ?_ | refine sq_e ?_ | refine bk_n ?_ | refine bk_r ?_ | refine bk_e rfl ?_ | refine bk_x rfl ?_ | refine ct_seq ?_ | refine ct_region rfl ?_ | refine ct_skip ?_ | refine ct_label ?_ | refine ct_block ?_ | refine ct_exit ?_ | refine ct_ret ?_ | refine ct_scope ?_ | refine ct_true rfl ?_ | refine ct_false rfl ?_ | refine lt_step ?_))
  refine rt_step rfl rfl rfl (st_call rfl rfl rfl rfl (call_ext rfl ?_))
  repeat (first | (first | refine rt_nil ?_ | (refine isRun ?_; first | refine x1 ?_ | refine x2 ?_ | refine x3 fun _ => ?_ | refine x4 fun _ => ?_ | refine x5 fun _ => ?_ | (refine rt_step rfl rfl rfl ?_; first | refine st_buildSlice rfl (zr rfl) rfl rfl rfl rfl rfl rfl fun _ => ?_ | refine st_A rfl rfl (fun _ => rfl) rfl fun _ => ?_) | refine x8 ?_ | refine rt_skip rfl rfl rfl ?_ | refine rt_skip0 rfl rfl ?_)) | (first | refine sq_n ?_ | refine sq_r ?_ | refine sq_e ?_ | refine bk_n ?_ | refine bk_r ?_ | refine bk_e rfl ?_ | refine bk_x rfl ?_ | refine ct_seq ?_ | refine ct_region rfl ?_ | refine ct_skip ?_ | refine ct_label ?_ | refine ct_block ?_ | refine ct_exit ?_ | refine ct_ret ?_ | refine ct_scope ?_ | refine ct_true rfl ?_ | refine ct_false rfl ?_ | refine lt_step ?_))
  refine rt_step rfl rfl rfl (st_call rfl rfl rfl rfl (ndist (netA.weak (by exact drop_auto)) (by decide) fun w12 G12 r12 => ?_))
  obtain ⟨l12, al12, cl12, e12, rfl, _⟩ := r12
  obtain rfl := k_dist5 l12 e12
  repeat (first | (first | refine rt_nil ?_ | (refine isRun ?_; first | refine x1 ?_ | refine x2 ?_ | refine x3 fun _ => ?_ | refine x4 fun _ => ?_ | refine x5 fun _ => ?_ | (refine rt_step rfl rfl rfl ?_; first | refine st_buildSlice rfl (zr rfl) rfl rfl rfl rfl rfl rfl fun _ => ?_ | refine st_A rfl rfl (fun _ => rfl) rfl fun _ => ?_) | refine x8 ?_ | refine rt_skip rfl rfl rfl ?_ | refine rt_skip0 rfl rfl ?_)) | (first | refine sq_n ?_ | refine sq_r ?_ | refine sq_e ?_ | refine bk_n ?_ | refine bk_r ?_ | refine bk_e rfl ?_ | refine bk_x rfl ?_ | refine ct_seq ?_ | refine ct_region rfl ?_ | refine ct_skip ?_ | refine ct_label ?_ | refine ct_block ?_ | refine ct_exit ?_ | refine ct_ret ?_ | refine ct_scope ?_ | refine ct_true rfl ?_ | refine ct_false rfl ?_ | refine lt_step ?_))
  refine rt_step rfl rfl rfl (st_call rfl rfl rfl rfl (nnext (netS.weak (by exact drop_auto)) (by decide) fun w13 G13 r13 => ?_))
  obtain ⟨l13, al13, cl13, e13, rfl, _⟩ := r13
  obtain rfl := k_short l13 e13
  repeat (first | (first | refine rt_nil ?_ | (refine isRun ?_; first | refine x1 ?_ | refine x2 ?_ | refine x3 fun _ => ?_ | refine x4 fun _ => ?_ | refine x5 fun _ => ?_ | (refine rt_step rfl rfl rfl ?_; first | refine st_buildSlice rfl (zr rfl) rfl rfl rfl rfl rfl rfl fun _ => ?_ | refine st_A rfl rfl (fun _ => rfl) rfl fun _ => ?_) | refine x8 ?_ | refine rt_skip rfl rfl rfl ?_ | refine rt_skip0 rfl rfl ?_)) | (first | refine sq_n ?_ | refine sq_r ?_ | refine sq_e ?_ | refine bk_n ?_ | refine bk_r ?_ | refine bk_e rfl ?_ | refine bk_x rfl ?_ | refine ct_seq ?_ | refine ct_region rfl ?_ | refine ct_skip ?_ | refine ct_label ?_ | refine ct_block ?_ | refine ct_exit ?_ | refine ct_ret ?_ | refine ct_scope ?_ | refine ct_true rfl ?_ | refine ct_false rfl ?_ | refine lt_step ?_))
  refine rt_step rfl rfl rfl (st_call rfl rfl rfl rfl (npathsA (by omega) (netF.weak (by exact drop_auto)) (by decide) fun x14 q14 => ?_))
  obtain rfl := k_free q14
  clear q14
  repeat (first | (first | refine rt_nil ?_ | (refine isRun ?_; first | refine x1 ?_ | refine x2 ?_ | refine x3 fun _ => ?_ | refine x4 fun _ => ?_ | refine x5 fun _ => ?_ | (refine rt_step rfl rfl rfl ?_; first | refine st_buildSlice rfl (zr rfl) rfl rfl rfl rfl rfl rfl fun _ => ?_ | refine st_A rfl rfl (fun _ => rfl) rfl fun _ => ?_) | refine x8 ?_ | refine rt_skip rfl rfl rfl ?_ | refine rt_skip0 rfl rfl ?_)) | (first | refine sq_n ?_ | refine sq_r ?_ | refine sq_e ?_ | refine bk_n ?_ | refine bk_r ?_ | refine bk_e rfl ?_ | refine bk_x rfl ?_ | refine ct_seq ?_ | refine ct_region rfl ?_ | refine ct_skip ?_ | refine ct_label ?_ | refine ct_block ?_ | refine ct_exit ?_ | refine ct_ret ?_ | refine ct_scope ?_ | refine ct_true rfl ?_ | refine ct_false rfl ?_ | refine lt_step ?_))
  exact re_1 rfl rfl (by exact drop_auto) hQ
end
end Go.Proofs.Ytdaigoiekkofoaa.Abs

/- Contracts of valid and Pick. -/
namespace Go.Proofs.Ytdaigoiekkofoaa.Abs
open Go
set_option linter.unusedVariables false
section
variable {B0 : Nat} {old : Nat → Option (List Value)} {n : Nat} {H : Hp} {Q : Value → Hp → Prop}
set_option maxRecDepth 10000
set_option maxHeartbeats 8000000
theorem pick_ct (x N : Int) (h0 : 0 < N) (hN : N ≤ 1000000) (hx : -9223372036854775808 ≤ x ∧ x ≤ 9223372036854775807) (hQ : ∀ y : Nat, (y : Int) < N → Q (.int .i64 (y : Int)) H) : CallT (cx B0 old) (acall (cx B0 old) ansP (n + 1)) 35 [.int .i64 x, .int .i64 N] H Q := by
  have hm1 : x.tmod N < N ∧ -N < x.tmod N := ⟨Int.tmod_lt_of_pos x h0, Int.lt_tmod_of_pos x h0⟩
  refine call_in2 14 rfl Try.func35 rfl rfl ?_
  repeat (first | (first | refine rt_nil ?_ | (refine isRun ?_; first | refine x1 ?_ | refine x2 ?_ | refine x3 fun _ => ?_ | refine x4 fun _ => ?_ | refine x5 fun _ => ?_ | (refine rt_step rfl rfl rfl ?_; first | refine st_buildSlice rfl (zr rfl) rfl rfl rfl rfl rfl rfl fun _ => ?_ | refine st_A rfl rfl (fun _ => rfl) rfl fun _ => ?_) | refine x8 ?_ | refine rt_skip rfl rfl rfl ?_ | refine rt_skip0 rfl rfl ?_)) | (first | refine sq_n ?_ | refine sq_r ?_ | refine sq_e ?_ | refine bk_n ?_ | refine bk_r ?_ | refine bk_e rfl ?_ | refine bk_x rfl ?_ | refine ct_seq ?_ | refine ct_region rfl ?_ | refine ct_skip ?_ | refine ct_label ?_ | refine ct_block ?_ | refine ct_exit ?_ | refine ct_ret ?_ | refine ct_scope ?_ | refine ct_true rfl ?_ | refine ct_false rfl ?_ | refine lt_step ?_))
  apply rt_p rfl rfl rfl
  case hp => exact p_rem rfl rfl (by omega)
  generalize x.tmod N = m at *
  repeat (first | (first | refine rt_nil ?_ | (refine isRun ?_; first | refine x1 ?_ | refine x2 ?_ | refine x3 fun _ => ?_ | refine x4 fun _ => ?_ | refine x5 fun _ => ?_ | (refine rt_step rfl rfl rfl ?_; first | refine st_buildSlice rfl (zr rfl) rfl rfl rfl rfl rfl rfl fun _ => ?_ | refine st_A rfl rfl (fun _ => rfl) rfl fun _ => ?_) | refine x8 ?_ | refine rt_skip rfl rfl rfl ?_ | refine rt_skip0 rfl rfl ?_)) | (first | refine sq_n ?_ | refine sq_r ?_ | refine sq_e ?_ | refine bk_n ?_ | refine bk_r ?_ | refine bk_e rfl ?_ | refine bk_x rfl ?_ | refine ct_seq ?_ | refine ct_region rfl ?_ | refine ct_skip ?_ | refine ct_label ?_ | refine ct_block ?_ | refine ct_exit ?_ | refine ct_ret ?_ | refine ct_scope ?_ | refine ct_true rfl ?_ | refine ct_false rfl ?_ | refine lt_step ?_))
  refine ct_condT te_d rfl (fun hc => ?_) (fun hc => ?_)
  · repeat (first | (first | refine rt_nil ?_ | (refine isRun ?_; first | refine x1 ?_ | refine x2 ?_ | refine x3 fun _ => ?_ | refine x4 fun _ => ?_ | refine x5 fun _ => ?_ | (refine rt_step rfl rfl rfl ?_; first | refine st_buildSlice rfl (zr rfl) rfl rfl rfl rfl rfl rfl fun _ => ?_ | refine st_A rfl rfl (fun _ => rfl) rfl fun _ => ?_) | refine x8 ?_ | refine rt_skip rfl rfl rfl ?_ | refine rt_skip0 rfl rfl ?_)) | (first | refine sq_n ?_ | refine sq_r ?_ | refine sq_e ?_ | refine bk_n ?_ | refine bk_r ?_ | refine bk_e rfl ?_ | refine bk_x rfl ?_ | refine ct_seq ?_ | refine ct_region rfl ?_ | refine ct_skip ?_ | refine ct_label ?_ | refine ct_block ?_ | refine ct_exit ?_ | refine ct_ret ?_ | refine ct_scope ?_ | refine ct_true rfl ?_ | refine ct_false rfl ?_ | refine lt_step ?_))
    obtain ⟨y, hy⟩ := Int.eq_ofNat_of_zero_le (show 0 ≤ m + N by omega)
    rw [hy]
    exact re_1 rfl rfl (by exact drop_auto) (hQ y (by omega))
  · repeat (first | (first | refine rt_nil ?_ | (refine isRun ?_; first | refine x1 ?_ | refine x2 ?_ | refine x3 fun _ => ?_ | refine x4 fun _ => ?_ | refine x5 fun _ => ?_ | (refine rt_step rfl rfl rfl ?_; first | refine st_buildSlice rfl (zr rfl) rfl rfl rfl rfl rfl rfl fun _ => ?_ | refine st_A rfl rfl (fun _ => rfl) rfl fun _ => ?_) | refine x8 ?_ | refine rt_skip rfl rfl rfl ?_ | refine rt_skip0 rfl rfl ?_)) | (first | refine sq_n ?_ | refine sq_r ?_ | refine sq_e ?_ | refine bk_n ?_ | refine bk_r ?_ | refine bk_e rfl ?_ | refine bk_x rfl ?_ | refine ct_seq ?_ | refine ct_region rfl ?_ | refine ct_skip ?_ | refine ct_label ?_ | refine ct_block ?_ | refine ct_exit ?_ | refine ct_ret ?_ | refine ct_scope ?_ | refine ct_true rfl ?_ | refine ct_false rfl ?_ | refine lt_step ?_))
    obtain ⟨y, rfl⟩ := Int.eq_ofNat_of_zero_le (show 0 ≤ m by omega)
    exact re_1 rfl rfl (by exact drop_auto) (hQ y (by omega))
theorem valid_ct (N : Int) (ad ad2 : Option Addr) (c c2 : Nat) (L : List Ln) (U : List Bool) (h1 : Arr (cx B0 old) H ad 3 encLn L)
    (hgood : L.length ≤ 60 → netOk N L U → Q (.bool true) H) (hbad : ¬ (L.length ≤ 60 ∧ netOk N L U) → Q (.bool false) H) :
    CallT (cx B0 old) (acall (cx B0 old) ansP (n + 1)) 34 [.agg ⟨[.int .i64 N, .slice ad L.length c, .slice ad2 U.length c2]⟩] H Q := by
  refine call_in1 79 rfl Try.func34 rfl rfl ?_
  repeat' (first | (first | refine rt_nil ?_ | (refine isRun ?_; first | refine x1 ?_ | refine x2 ?_ | refine x3 fun _ => ?_ | refine x4 fun _ => ?_ | refine x5 fun _ => ?_ | (refine rt_step rfl rfl rfl ?_; first | refine st_buildSlice rfl (zr rfl) rfl rfl rfl rfl rfl rfl fun _ => ?_ | refine st_A rfl rfl (fun _ => rfl) rfl fun _ => ?_) | refine x8 ?_ | refine rt_skip rfl rfl rfl ?_ | refine rt_skip0 rfl rfl ?_)) | (first | refine sq_n ?_ | refine sq_r ?_ | refine sq_e ?_ | refine bk_n ?_ | refine bk_r ?_ | refine bk_e rfl ?_ | refine bk_x rfl ?_ | refine ct_seq ?_ | refine ct_region rfl ?_ | refine ct_skip ?_ | refine ct_label ?_ | refine ct_block ?_ | refine ct_exit ?_ | refine ct_ret ?_ | refine ct_scope ?_ | refine ct_true rfl ?_ | refine ct_false rfl ?_ | refine lt_step ?_) | (first | refine pl_nil ?_ | (refine isPlan ?_; first | refine y1 ?_ | refine y2 ?_ | refine pl_skip rfl rfl rfl rfl rfl ?_ | refine pl_skip0 rfl rfl rfl rfl ?_)) | (refine isPlan ?_; refine y3 ?_) | (first | (refine isRun ?_; refine z1 (fun hc => ?_) (fun hc => ?_)) | refine z2 (fun hc => ?_) (fun hc => ?_) | (refine isPlan ?_; refine z3 (fun hc => ?_) (fun hc => ?_))))
  all_goals try exact re_1 rfl rfl (by exact drop_auto) (hbad fun h => by have := h.2.1; have := h.2.2.1; have := h.2.2.2.2.1; omega)
  rename_i b1 _ _ _
  have hU : U.length = L.length := by omega
  have h60 : L.length ≤ 60 := by omega
  refine loop_ind (ι := Nat) 0 (fun i => L.length - i) (fun i => i ≤ L.length ∧ ∀ j x, j < i → L[j]? = some x → goodL N x) (fun i => [(3, .int .i64 (i : Int)), (1, .pointer (some ⟨b1, 0, none⟩))]) (fun _ => (b1, .row [.int .i64 N, .slice ad L.length c, .slice ad2 U.length c2] 3 false) :: H) ⟨Nat.zero_le _, fun j x hj => absurd hj (by omega)⟩ (by repeat (first | exact SubL.nil | refine SubL.cons rfl ?_)) (by exact drop_auto) ?_
  rintro i ⟨hi, hall⟩
  repeat (first | (first | refine rt_nil ?_ | (refine isRun ?_; first | refine x1 ?_ | refine x2 ?_ | refine x3 fun _ => ?_ | refine x4 fun _ => ?_ | refine x5 fun _ => ?_ | (refine rt_step rfl rfl rfl ?_; first | refine st_buildSlice rfl (zr rfl) rfl rfl rfl rfl rfl rfl fun _ => ?_ | refine st_A rfl rfl (fun _ => rfl) rfl fun _ => ?_) | refine x8 ?_ | refine rt_skip rfl rfl rfl ?_ | refine rt_skip0 rfl rfl ?_)) | (first | refine sq_n ?_ | refine sq_r ?_ | refine sq_e ?_ | refine bk_n ?_ | refine bk_r ?_ | refine bk_e rfl ?_ | refine bk_x rfl ?_ | refine ct_seq ?_ | refine ct_region rfl ?_ | refine ct_skip ?_ | refine ct_label ?_ | refine ct_block ?_ | refine ct_exit ?_ | refine ct_ret ?_ | refine ct_scope ?_ | refine ct_true rfl ?_ | refine ct_false rfl ?_ | refine lt_step ?_))
  refine ct_condT te_d rfl (fun hc => ?_) (fun hc => ?_)
  rotate_left
  · have : i = L.length := by omega
    subst this
    repeat (first | (first | refine rt_nil ?_ | (refine isRun ?_; first | refine x1 ?_ | refine x2 ?_ | refine x3 fun _ => ?_ | refine x4 fun _ => ?_ | refine x5 fun _ => ?_ | (refine rt_step rfl rfl rfl ?_; first | refine st_buildSlice rfl (zr rfl) rfl rfl rfl rfl rfl rfl fun _ => ?_ | refine st_A rfl rfl (fun _ => rfl) rfl fun _ => ?_) | refine x8 ?_ | refine rt_skip rfl rfl rfl ?_ | refine rt_skip0 rfl rfl ?_)) | (first | refine sq_n ?_ | refine sq_r ?_ | refine sq_e ?_ | refine bk_n ?_ | refine bk_r ?_ | refine bk_e rfl ?_ | refine bk_x rfl ?_ | refine ct_seq ?_ | refine ct_region rfl ?_ | refine ct_skip ?_ | refine ct_label ?_ | refine ct_block ?_ | refine ct_exit ?_ | refine ct_ret ?_ | refine ct_scope ?_ | refine ct_true rfl ?_ | refine ct_false rfl ?_ | refine lt_step ?_))
    refine re_1 rfl rfl (by exact drop_auto) (hgood h60 ⟨by omega, by omega, by omega, hU, fun x hx => ?_⟩)
    obtain ⟨j, hj⟩ := List.getElem?_of_mem hx
    exact hall j x (List.getElem?_eq_some_iff.1 hj).1 hj
  obtain ⟨x, hx⟩ : ∃ x, L[i]? = some x := ⟨_, List.getElem?_eq_getElem (by omega)⟩
  obtain ⟨bx, ox, rfl, hL0⟩ := h1.ldW 27 hx rfl (sz rfl)
  have hno : ¬ goodL N x → ¬ (L.length ≤ 60 ∧ netOk N L U) := fun h h' => h (h'.2.2.2.2.2 x (List.mem_of_getElem? hx))
  unfold goodL at hno
  repeat' (first | (first | refine rt_nil ?_ | (refine isRun ?_; first | refine x1 ?_ | refine x2 ?_ | refine x3 fun _ => ?_ | refine x4 fun _ => ?_ | refine x5 fun _ => ?_ | (refine rt_step rfl rfl rfl ?_; first | refine st_buildSlice rfl (zr rfl) rfl rfl rfl rfl rfl rfl fun _ => ?_ | refine st_A rfl rfl (fun _ => rfl) rfl fun _ => ?_) | refine x8 ?_ | refine rt_skip rfl rfl rfl ?_ | refine rt_skip0 rfl rfl ?_)) | (first | refine sq_n ?_ | refine sq_r ?_ | refine sq_e ?_ | refine bk_n ?_ | refine bk_r ?_ | refine bk_e rfl ?_ | refine bk_x rfl ?_ | refine ct_seq ?_ | refine ct_region rfl ?_ | refine ct_skip ?_ | refine ct_label ?_ | refine ct_block ?_ | refine ct_exit ?_ | refine ct_ret ?_ | refine ct_scope ?_ | refine ct_true rfl ?_ | refine ct_false rfl ?_ | refine lt_step ?_) | (first | refine pl_nil ?_ | (refine isPlan ?_; first | refine y1 ?_ | refine y2 ?_ | refine pl_skip rfl rfl rfl rfl rfl ?_ | refine pl_skip0 rfl rfl rfl rfl ?_)) | (refine isPlan ?_; refine y3 ?_) | (first | (refine isRun ?_; refine z1 (fun hc => ?_) (fun hc => ?_)) | refine z2 (fun hc => ?_) (fun hc => ?_) | (refine isPlan ?_; refine z3 (fun hc => ?_) (fun hc => ?_))))
  all_goals try exact re_1 rfl rfl (by exact drop_auto) (hbad (hno (by omega)))
  refine ⟨i + 1, ⟨by omega, fun j y hj hy => ?_⟩, by omega, by repeat (first | exact SubL.nil | refine SubL.cons rfl ?_), by exact drop_auto⟩
  by_cases e : j = i
  · subst e
    rw [hx] at hy
    cases hy
    unfold goodL
    omega
  · exact hall j y (by omega) hy
end
end Go.Proofs.Ytdaigoiekkofoaa.Abs

/- Results that are distances, next links, chosen paths; other. -/
namespace Go.Proofs.Ytdaigoiekkofoaa.Abs
open Go
set_option linter.unusedVariables false
theorem res_dist {B0 : Nat} {old : Nat → Option (List Value)} {M s : Nat} {L : List Ln} {U : List Bool} {w : Value} {Hx : Hp} (hw : Res (cx B0 old) (DistS M s L U) w Hx) (hok : netOk M L U) (hs : s < M) :
    ∃ d bd od cd, IsDist (Rn L U) M s d ∧ d.length = M ∧ w = .slice (some ⟨bd, od, none⟩) M cd ∧ ∀ (H' : Hp) (j : Nat), j < M → Hx.Sublist H' → LdT (cx B0 old) 3 H' bd (od + j * 1) (.int .i64 (d.getD j (-1))) := by
  obtain ⟨d, add, cd, hd, rfl, had⟩ := hw
  have hd : IsDist (Rn L U) M s d := by have := hd.1 ⟨hok, by omega, by omega⟩; simpa using this
  have hdl := hd.1
  obtain ⟨x0, hx0⟩ : ∃ x, d[0]? = some x := ⟨_, List.getElem?_eq_getElem (by omega)⟩
  obtain ⟨bd, od, rfl, _⟩ := had.ld1 3 hx0 rfl rfl (sz rfl)
  refine ⟨d, bd, od, cd, hd, hdl, by rw [hdl], fun H' j hj hs' => ?_⟩
  obtain ⟨x, hx⟩ : ∃ x, d[j]? = some x := ⟨_, List.getElem?_eq_getElem (by omega)⟩
  obtain ⟨b', o', e, hL⟩ := had.ld1 3 hx rfl rfl (sz rfl)
  cases e
  rw [List.getD_eq_getElem?_getD, hx]
  exact hL H' hs'
section
variable {B0 : Nat} {old : Nat → Option (List Value)} {n : Nat} {H : Hp} {Q : Value → Hp → Prop}
set_option maxRecDepth 10000
set_option maxHeartbeats 8000000
variable {N k k2 : Int} {L : List Ln} {U : List Bool} {v : Value}
theorem other36_ct (x : Ln) (m : Nat) (h : Q (.int .i64 (if x.a = m then x.b else x.a)) H) : CallT (cx B0 old) (acall (cx B0 old) ansP (n + 1)) 36 [.agg ⟨encLn x⟩, .int .i64 (m : Int)] H Q := by
  refine call_in2 13 rfl Try.func36 rfl rfl ?_
  repeat' (first | (first | refine rt_nil ?_ | (refine isRun ?_; first | refine x1 ?_ | refine x2 ?_ | refine x3 fun _ => ?_ | refine x4 fun _ => ?_ | refine x5 fun _ => ?_ | (refine rt_step rfl rfl rfl ?_; first | refine st_buildSlice rfl (zr rfl) rfl rfl rfl rfl rfl rfl fun _ => ?_ | refine st_A rfl rfl (fun _ => rfl) rfl fun _ => ?_) | refine x8 ?_ | refine rt_skip rfl rfl rfl ?_ | refine rt_skip0 rfl rfl ?_)) | (first | refine sq_n ?_ | refine sq_r ?_ | refine sq_e ?_ | refine bk_n ?_ | refine bk_r ?_ | refine bk_e rfl ?_ | refine bk_x rfl ?_ | refine ct_seq ?_ | refine ct_region rfl ?_ | refine ct_skip ?_ | refine ct_label ?_ | refine ct_block ?_ | refine ct_exit ?_ | refine ct_ret ?_ | refine ct_scope ?_ | refine ct_true rfl ?_ | refine ct_false rfl ?_ | refine lt_step ?_) | (first | refine pl_nil ?_ | (refine isPlan ?_; first | refine y1 ?_ | refine y2 ?_ | refine pl_skip rfl rfl rfl rfl rfl ?_ | refine pl_skip0 rfl rfl rfl rfl ?_)) | (refine isPlan ?_; refine y3 ?_) | (first | (refine isRun ?_; refine z1 (fun hc => ?_) (fun hc => ?_)) | refine z2 (fun hc => ?_) (fun hc => ?_) | (refine isPlan ?_; refine z3 (fun hc => ?_) (fun hc => ?_))))
  · rw [if_pos hc] at h
    exact re_1 rfl rfl (by exact drop_auto) h
  · rw [if_neg hc] at h
    exact re_1 rfl rfl (by exact drop_auto) h
/-- The chosen path, as a list that the run owns. -/
theorem npathO (h : NetV (cx B0 old) H v N L U) (hl : L.length ≤ 60) (hv : valB N k k2 L U) (hQ : ∀ p w Hs, PathS N k k2 L U p → Own encI 1 p w Hs → Q w (Hs ++ H)) : CallT (cx B0 old) (acall (cx B0 old) ansP (n + 6)) 33 [v, .int .i64 k, .int .i64 k2] H Q := by
  obtain ⟨ad, ad2, c, c2, rfl, h1, h2⟩ := h.cells
  refine call_in3 16 rfl Try.func33 rfl rfl ?_
  repeat (first | (first | refine rt_nil ?_ | (refine isRun ?_; first | refine x1 ?_ | refine x2 ?_ | refine x3 fun _ => ?_ | refine x4 fun _ => ?_ | refine x5 fun _ => ?_ | (refine rt_step rfl rfl rfl ?_; first | refine st_buildSlice rfl (zr rfl) rfl rfl rfl rfl rfl rfl fun _ => ?_ | refine st_A rfl rfl (fun _ => rfl) rfl fun _ => ?_) | refine x8 ?_ | refine rt_skip rfl rfl rfl ?_ | refine rt_skip0 rfl rfl ?_)) | (first | refine sq_n ?_ | refine sq_r ?_ | refine sq_e ?_ | refine bk_n ?_ | refine bk_r ?_ | refine bk_e rfl ?_ | refine bk_x rfl ?_ | refine ct_seq ?_ | refine ct_region rfl ?_ | refine ct_skip ?_ | refine ct_label ?_ | refine ct_block ?_ | refine ct_exit ?_ | refine ct_ret ?_ | refine ct_scope ?_ | refine ct_true rfl ?_ | refine ct_false rfl ?_ | refine lt_step ?_))
  refine rt_step rfl rfl rfl (st_call rfl rfl rfl rfl (ppath_ct N k k2 ad ad2 c c2 L U (h1.weak (by exact drop_auto)) (h2.weak (by exact drop_auto)) (by omega) (fun M s t d p w Hs e1 e2 e3 hok hs ht hd hp ho => ?_) (fun hno => absurd hv hno)))
  subst e1 e2 e3
  repeat (first | (first | refine rt_nil ?_ | (refine isRun ?_; first | refine x1 ?_ | refine x2 ?_ | refine x3 fun _ => ?_ | refine x4 fun _ => ?_ | refine x5 fun _ => ?_ | (refine rt_step rfl rfl rfl ?_; first | refine st_buildSlice rfl (zr rfl) rfl rfl rfl rfl rfl rfl fun _ => ?_ | refine st_A rfl rfl (fun _ => rfl) rfl fun _ => ?_) | refine x8 ?_ | refine rt_skip rfl rfl rfl ?_ | refine rt_skip0 rfl rfl ?_)) | (first | refine sq_n ?_ | refine sq_r ?_ | refine sq_e ?_ | refine bk_n ?_ | refine bk_r ?_ | refine bk_e rfl ?_ | refine bk_x rfl ?_ | refine ct_seq ?_ | refine ct_region rfl ?_ | refine ct_skip ?_ | refine ct_label ?_ | refine ct_block ?_ | refine ct_exit ?_ | refine ct_ret ?_ | refine ct_scope ?_ | refine ct_true rfl ?_ | refine ct_false rfl ?_ | refine lt_step ?_))
  exact re_1 rfl rfl (H' := Hs ++ H) (by exact drop_auto) (hQ p w Hs ⟨fun _ => ⟨d, hd, hp⟩, fun hno => absurd hv hno⟩ ho)
end
end Go.Proofs.Ytdaigoiekkofoaa.Abs

/- What is read of a network; of numbers. -/
namespace Go.Proofs.Ytdaigoiekkofoaa.Abs
open Go Go.RowKit
set_option linter.unusedVariables false
set_option maxRecDepth 100000
set_option maxHeartbeats 2000000
theorem int_rng {n : Int} (h : (Lit.int .i64 n).wf = true) : -9223372036854775808 ≤ n ∧ n ≤ 9223372036854775807 := by
  simp [Lit.wf, IntKind.min, IntKind.max, IntKind.signed, IntKind.bits] at h; omega
theorem lv38 : leaves Try.prog 10 38 = some [3, 22, 23] := by kernel_rfl
theorem lv3 : leaves Try.prog 10 3 = some [3] := by kernel_rfl
section
variable {H : Type} {enc : TypeId × Value → H} {w : World} {base : Nat} {spare : Nat → Bool} {held : Bool}
theorem int_read {hs fuel : Nat} {cs : List Value} {x : DataW H × List MemPlace} (h : DataW.trod enc Try.prog w base spare held fuel 3 cs = some x) : cs.length = 1 ∧ ∃ p : Int, cs.map (normV hs) = encI p ∧ True := by
  have hh := leaves_ok 10 3 _ lv3 _ _ _ h
  refine ⟨hh.1, ?_⟩
  obtain ⟨v0, cs0, rfl, l0, h0⟩ := LeafOk.next hh
  obtain rfl := LeafOk.done h0
  obtain ⟨n0, rfl, w0⟩ := leaf_int (k := .i64) Try.underlying3 l0
  exact ⟨n0, rfl, trivial⟩
theorem net_read {C : Ctx} {fuel : Nat} {cs : List Value} {x : DataW H × List MemPlace} (hB : C.B0 = w.heap.size + 1) (hold : ∀ b, C.old b = oldW w b) (h : DataW.trod enc Try.prog w 0 spare held fuel 38 cs = some x) :
    ∃ N ad c L ad2 c2 U, cs.map (normV w.heap.size) = [.int .i64 N, .slice ad (List.length L) c, .slice ad2 (List.length U) c2] ∧ Arr C [] ad 3 encLn L ∧ Arr C [] ad2 1 encBo U := by
  have hh := leaves_ok 10 38 _ lv38 _ _ _ h
  obtain ⟨v0, cs0, rfl, l0, h0⟩ := LeafOk.next hh
  obtain ⟨v1, cs1, rfl, l1, h1⟩ := LeafOk.next h0
  obtain ⟨v2, cs2, rfl, l2, h2⟩ := LeafOk.next h1
  obtain rfl := LeafOk.done h2
  obtain ⟨n0, rfl, w0⟩ := leaf_int (k := .i64) Try.underlying3 l0
  obtain ⟨ad, c, L, e1, _, _, ha, _⟩ := arr_read (C := C) (k := 3) (en := encLn) hB hold Try.underlying22 (by kernel_rfl) (by decide) (fun cs m y h => link_read h) l1
  obtain ⟨ad2, c2, U, e2, _, _, hb, _⟩ := arr_read (C := C) (k := 1) (en := encBo) hB hold Try.underlying23 (by kernel_rfl) (by decide) (fun cs m y h => bool_read h) l2
  refine ⟨n0, ad, c, L, ad2, c2, U, ?_, ha, hb⟩
  rw [← e1, ← e2]
  rfl
end
end Go.Proofs.Ytdaigoiekkofoaa.Abs
