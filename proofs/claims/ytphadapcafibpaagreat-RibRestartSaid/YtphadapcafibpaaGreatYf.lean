/- A restart, in plain Lean: routes that became stale, were put again, or swept. -/
import Derived.Test.YtphadapcafibpaaGreatYe
import Derived.Test.YtphadapcafibpaaGreatSep3
namespace Go.Proofs.YtphadapcafibpaaGreat.Abs
open Go
set_option linter.unusedVariables false
variable {e : Rt} {M : List Rt} {f g : Rt → Bool} {p : Int}
theorem putR_front : ∀ {L : List Rt}, (∀ x ∈ L, rkR e < rkR x) → putR e L = e :: L
  | [], _ => rfl
  | x :: l, h => by
    have := h x (List.mem_cons_self ..)
    unfold putR
    rw [if_neg (by omega), if_neg (by omega)]
theorem putR_cons (e x : Rt) (l : List Rt) : putR e (x :: l) = if rkR x < rkR e then x :: putR e l else if rkR x = rkR e then e :: l else e :: x :: l := rfl
theorem putR_filter (hf : f e = true) : ∀ {M : List Rt}, SrtR M → (putR e M).filter f = putR e (M.filter f)
  | [], _ => by simp [putR, hf]
  | x :: l, h => by
    obtain ⟨h1, h2⟩ := SrtR.cons.1 h
    rw [putR_cons]
    by_cases c1 : rkR x < rkR e
    · rw [if_pos c1]
      have ih := putR_filter hf h2
      cases hx : f x with
      | true =>
        rw [List.filter_cons_of_pos hx, List.filter_cons_of_pos hx, ih]
        rw [putR_cons, if_pos c1]
      | false =>
        rw [List.filter_cons_of_neg (by simp [hx]), List.filter_cons_of_neg (by simp [hx]), ih]
    · rw [if_neg c1]
      by_cases c2 : rkR x = rkR e
      · rw [if_pos c2, List.filter_cons_of_pos hf]
        cases hx : f x with
        | true =>
          rw [List.filter_cons_of_pos hx]
          rw [putR_cons, if_neg c1, if_pos c2]
        | false =>
          rw [List.filter_cons_of_neg (by simp [hx]), putR_front (L := l.filter f) fun y hy => by have := h1 y (List.mem_filter.1 hy).1; omega]
      · rw [if_neg c2, List.filter_cons_of_pos hf]
        rw [putR_front (L := (x :: l).filter f) fun y hy => by
          rcases List.mem_cons.1 (List.mem_filter.1 hy).1 with rfl | h
          · omega
          · have := h1 y h; omega]
theorem putR_filterN (hg : g e = false) : ∀ {M : List Rt}, (∀ x ∈ M, rkR x = rkR e → g x = false) → (putR e M).filter g = M.filter g
  | [], _ => by simp [putR, hg]
  | x :: l, h => by
    have ih := putR_filterN (M := l) hg fun y hy => h y (List.mem_cons_of_mem _ hy)
    unfold putR
    split
    · rw [List.filter_cons, List.filter_cons, ih]
    · split
      · rename_i h1 h2
        rw [List.filter_cons_of_neg (by simp [hg]), List.filter_cons_of_neg (by simp [h x (List.mem_cons_self ..) h2])]
      · rw [List.filter_cons_of_neg (by simp [hg])]
theorem putR_sub (hg : g e = false) : ∀ {M : List Rt}, ((putR e M).filter g).Sublist (M.filter g)
  | [] => by simp [putR, hg]
  | x :: l => by
    have ih := putR_sub (M := l) hg
    unfold putR
    split
    · rw [List.filter_cons, List.filter_cons]
      split
      · exact ih.cons_cons _
      · exact ih
    · split
      · rw [List.filter_cons_of_neg (by simp [hg]), List.filter_cons]
        split
        · exact List.sublist_cons_self _ _
        · exact List.Sublist.refl _
      · rw [List.filter_cons_of_neg (by simp [hg])]
        exact List.Sublist.refl _
theorem putR_ge : ∀ {M : List Rt}, M.length ≤ (putR e M).length
  | [] => Nat.zero_le _
  | x :: l => by
    have := putR_ge (M := l)
    unfold putR
    split
    · simp only [List.length_cons]; omega
    · split <;> simp only [List.length_cons] <;> omega
theorem putR_self : ∀ {M : List Rt}, SrtR M → e ∈ M → putR e M = M
  | [], _, h => by cases h
  | x :: l, h, hm => by
    obtain ⟨h1, h2⟩ := SrtR.cons.1 h
    unfold putR
    rcases List.mem_cons.1 hm with rfl | hm
    · rw [if_neg (by omega), if_pos rfl]
    · have := h1 e hm
      rw [if_pos this, putR_self h2 hm]
/-- Where a route is put. -/
theorem putR_at : ∀ {M : List Rt} {k : Nat}, SrtR M → k ≤ M.length → (∀ (j : Nat) x, M[j]? = some x → j < k → rkR x < rkR e) → (∀ x, M[k]? = some x → rkR e ≤ rkR x) →
    putR e M = match M[k]? with | some x => if rkR x = rkR e then M.set k e else M.take k ++ ([e] ++ M.drop k) | none => M.take k ++ ([e] ++ M.drop k)
  | [], k, _, hk, _, _ => by
    have : k = 0 := by simpa using hk
    subst this; rfl
  | x :: l, 0, h, _, _, h2 => by
    have := h2 x rfl
    unfold putR
    rw [if_neg (by omega)]
    show _ = if rkR x = rkR e then _ else _
    split <;> rfl
  | x :: l, k + 1, h, hk, h1, h2 => by
    obtain ⟨g1, g2⟩ := SrtR.cons.1 h
    have ih := putR_at (M := l) (k := k) g2 (by simpa using hk) (fun j y hy hj => h1 (j + 1) y (by simpa using hy) (by omega)) (fun y hy => h2 y (by simpa using hy))
    have := h1 0 x rfl (by omega)
    unfold putR
    rw [if_pos this, ih, List.getElem?_cons_succ]
    split
    · split <;> rfl
    · rfl
theorem nlC_key (x y : S60) : nlC (keyS x) (keyS y) = nlC x y := by unfold nlC; rw [keyS_key, keyS_key]
theorem rk_peer {x r : Rt} (hx : okP (plc x)) (hr : okP (plc r)) (hp : x.peer = r.peer) : (rkR x < rkR r ↔ nlC x.n r.n < 0) ∧ (rkR x = rkR r ↔ nlC x.n r.n = 0) := by
  refine ⟨?_, ?_⟩
  · unfold rkR
    rw [← rkP_lt hx hr]
    show (if nlC (keyS x.n) (keyS r.n) = 0 then sgn x.peer r.peer else nlC (keyS x.n) (keyS r.n)) < 0 ↔ _
    rw [nlC_key, hp, sgn_self]
    split
    · rename_i h; rw [h]
    · exact Iff.rfl
  · rw [nlC_zero]
    constructor
    · intro e
      have := rkP_inj hx hr e
      exact congrArg Pk.k this
    · intro e
      unfold rkR plc
      rw [e, hp]
def pP (p : Int) (r : Rt) : Bool := decide (r.peer = p)
def fP (p : Int) (r : Rt) : Bool := decide (r.peer = p) && !r.stale
def sP (p : Int) (r : Rt) : Bool := decide (r.peer = p) && r.stale
structure RsI (p : Int) (oth st : Nat) (M last : List Rt) : Prop where
  last : last = M.filter (fP p)
  oth : (M.filter (keepD p)).length = oth
  s1 : (M.filter (sP p)).length ≤ st
  s2 : st ≤ (M.filter (pP p)).length
theorem parts (p : Int) : ∀ M : List Rt, (M.filter (keepD p)).length + (M.filter (pP p)).length = M.length ∧ (M.filter (sP p)).length + (M.filter (fP p)).length = (M.filter (pP p)).length ∧ (M.filter (keepD p)).length + (M.filter (fP p)).length = (M.filter (keepS p)).length
  | [] => by simp
  | x :: l => by
    have ih := parts p l
    simp only [List.filter_cons]
    by_cases h : x.peer = p <;> cases h2 : x.stale <;> simp [keepD, pP, sP, fP, keepS, h, h2] <;> omega
theorem RsI.start (p : Int) (M : List Rt) : RsI p (M.filter (keepD p)).length (M.filter (pP p)).length (M.map (stlR p)) [] := by
  have h1 : ∀ x : Rt, keepD p (stlR p x) = keepD p x ∧ pP p (stlR p x) = pP p x ∧ fP p (stlR p x) = false ∧ sP p (stlR p x) = pP p x := fun x => by
    unfold stlR
    by_cases h : x.peer = p
    · rw [if_pos h]; simp [keepD, pP, fP, sP, h]
    · rw [if_neg h]; simp [keepD, pP, fP, sP, h]
  refine ⟨?_, ?_, ?_, ?_⟩
  · symm
    rw [List.filter_eq_nil_iff]
    intro x hx
    obtain ⟨y, _, rfl⟩ := List.mem_map.1 hx
    rw [(h1 y).2.2.1]; decide
  · rw [List.filter_map, List.length_map]
    congr 1
    exact List.filter_congr fun x _ => (h1 x).1
  · rw [List.filter_map, List.length_map]
    exact Nat.le_of_eq (by congr 1; exact List.filter_congr fun x _ => (h1 x).2.2.2)
  · rw [List.filter_map, List.length_map]
    exact Nat.le_of_eq (by congr 1; exact List.filter_congr fun x _ => (h1 x).2.1.symm)
theorem putM_err {lim : Int} {r : Rt} (h : (putM lim r M).2.2 ≠ 0) : (putM lim r M).1 = M := by
  unfold putM at h ⊢
  split
  · rfl
  · rename_i h1
    rw [if_neg h1] at h
    split
    · rename_i h2
      rw [h2] at h
      dsimp only at h
      split
      · rfl
      · rename_i h3
        rw [if_neg h3] at h
        exact absurd rfl h
    · rename_i o h2
      rw [h2] at h
      dsimp only at h
      split
      · rfl
      · rename_i h3
        rw [if_neg h3] at h
        exact absurd rfl h
theorem putM_ok {lim : Int} {r : Rt} (hs : SrtR M) (h : (putM lim r M).2.2 = 0) : rtCk r = 0 ∧ (putM lim r M).1 = putR r M := by
  unfold putM at h ⊢
  by_cases h1 : rtCk r ≠ 0
  · rw [if_pos h1] at h; exact absurd h h1
  · rw [if_neg h1] at h ⊢
    refine ⟨by omega, ?_⟩
    split
    · rename_i h2
      rw [h2] at h
      dsimp only at h
      split
      · rename_i h3; rw [if_pos h3] at h; cases h
      · rfl
    · rename_i o h2
      split
      · rename_i h3
        subst h3
        exact (putR_self hs ((getR_iff hs).1 h2).1).symm
      · rfl
theorem RsI.put {oth st : Nat} {last : List Rt} {r : Rt} (h : RsI p oth st M last) (hs : SrtR M) (hv : ∀ x ∈ M, okR x) (hr : okP (plc r)) (hp : r.peer = p) (ht : r.stale = false) : RsI p oth st (putR r M) (putR r last) := by
  have hf : fP p r = true := by simp [fP, hp, ht]
  have hd : keepD p r = false := by simp [keepD, hp]
  have hsp : sP p r = false := by simp [sP, ht]
  have hpp : pP p r = true := by simp [pP, hp]
  refine ⟨?_, ?_, ?_, ?_⟩
  · rw [putR_filter hf hs, h.last]
  · rw [putR_filterN hd fun x hx e => ?_, h.oth]
    have := rkP_inj (hv x hx).pl hr e
    have := congrArg Pk.peer this
    have h2 : x.peer = p := by rw [← hp]; exact this
    simp [keepD, h2]
  · exact Nat.le_trans (putR_sub hsp).length_le h.s1
  · rw [putR_filter hpp hs]
    exact Nat.le_trans h.s2 putR_ge
theorem RsI.fin {oth st : Nat} {last : List Rt} (h : RsI p oth st M last) : (M.filter (keepS p)).filter (pP p) = last ∧ (M.filter (keepS p)).length = oth + last.length ∧ (M.length : Int) - ((M.filter (keepS p)).length : Int) ≤ st ∧ (st : Int) - last.length ≤ (M.length : Int) - ((M.filter (keepS p)).length : Int) := by
  obtain ⟨p1, p2, p3⟩ := parts p M
  have h1 := h.oth
  have h2 := h.s1
  have h3 := h.s2
  have h4 : last.length = (M.filter (fP p)).length := by rw [h.last]
  refine ⟨?_, by omega, by omega, by omega⟩
  rw [List.filter_filter, h.last]
  refine List.filter_congr fun x _ => ?_
  simp only [pP, keepS, fP]
  cases decide (x.peer = p) <;> cases x.stale <;> rfl
end Go.Proofs.YtphadapcafibpaaGreat.Abs

/- The walk of RibRestart. -/
namespace Go.Proofs.YtphadapcafibpaaGreat.Abs
open Go
set_option linter.unusedVariables false
theorem RsL.len {C : Ctx} {M : List Rt} {w : Value} {G : Hp} (h : RsL C M w G) : ∃ ad c L, w = .slice ad M.length c ∧ L.map (·.r) = M ∧ Arr C G ad 38 enW L := by
  obtain ⟨L, Gs, Gr, h1, h2, h3, rfl⟩ := h
  obtain ⟨ad, c, e, hw⟩ := h1.arrW (C := C) enW_len
  subst h3
  exact ⟨ad, c, L, by rw [List.length_map]; exact e, rfl, (hw [] Gr).arr enW_len⟩
theorem pq1 {b : Nat × AObj} {Hs Gl G Gr : Hp} : (Hs ++ (b :: (Gl ++ (G ++ Gr)))).Perm (b :: (G ++ (Gl ++ (Hs ++ Gr)))) := by
  have h1 : (Hs ++ (b :: (Gl ++ (G ++ Gr)))).Perm (b :: (Gl ++ (Hs ++ (G ++ Gr)))) := List.perm_append_comm_assoc Hs (b :: Gl) (G ++ Gr)
  have h2 : (Gl ++ (Hs ++ (G ++ Gr))).Perm (G ++ (Gl ++ (Hs ++ Gr))) := by
    have := List.perm_append_comm_assoc (Gl ++ Hs) G Gr
    simpa using this
  exact h1.trans (h2.cons _)
theorem pq2 {b : Nat × AObj} {Hs Gl X : Hp} : (b :: (Gl ++ (Hs ++ X))).Perm (Hs ++ (b :: (Gl ++ X))) := List.perm_append_comm_assoc (b :: Gl) Hs X
theorem Rib.srt {C : Ctx} {lim : Int} {M : List Rt} {v : Value} {Hs : Hp} (h : Rib C lim M v Hs) : SrtR M ∧ ∀ x ∈ M, okR x := by cases h with | mk p mb c ms Gm hI hR h0 h6 hl => exact ⟨hI.srt, hI.val⟩
/-- As a route is put again. -/
def agn (peer : Int) (y : Rw) : Rw := { y with r := { y.r with peer := peer, stale := false } }
theorem rd_agn {C : Ctx} {H : Hp} {peer : Int} {y : Rw} (h : Rd C H y) : Rd C H (agn peer y) := ⟨h.p, h.c, h.m⟩
theorem enW_store (x y : Rw) : storeRow (enW x) 0 (enW y) = some (enW y) := by
  unfold storeRow
  rw [enW_one y, Nat.zero_add, enW_len, enW_len, Nat.ble_eq_true_of_le (Nat.le_refl _)]
  rw [List.drop_of_length_le (by rw [enW_len]; exact Nat.le_refl _), List.append_nil]; rfl
section
variable {B0 : Nat} {old : Nat → Option (List Value)} {n : Nat} {Q : Value → Hp → Prop} {c c2 : Nat} {ad ad2 : Option Addr} {L : List Ac} {A : List Rw}
set_option maxRecDepth 10000
set_option maxHeartbeats 32000000
theorem restart4_ct (peer : Int) (hpe : 0 ≤ peer ∧ peer ≤ 4294967295) (ha : Arr (cx B0 old) [] ad 39 enAc L) (hL : ∀ x ∈ L, okAc (cx B0 old) [] x) (hl : L.length ≤ 9223372036854775807)
    (ha2 : Arr (cx B0 old) [] ad2 38 enW A) (hA : ∀ x ∈ A, okAc (cx B0 old) [] ⟨0, x⟩) (hl2 : A.length ≤ 9223372036854775807) (hQ : Q (.bool true) []) :
    CallT (cx B0 old) (acall (cx B0 old) ansP (n + 20030)) 4 [.slice ad L.length c, .int .u32 peer, .slice ad2 A.length c2] [] Q := by
  refine call_in3 176 rfl Tryz.func4 rfl rfl ?_
  repeat (first | refine Z0 ?_ | (refine ZR ?_; first | refine x1 ?_ | refine x2 ?_ | refine x8 ?_ | refine Z1 ?_ | refine Z2 ?_ | refine x3 fun _ => ?_ | refine x4 fun _ => ?_ | refine x5 fun _ => ?_ | refine Z3 fun _ => ?_ | refine Z4 fun _ => ?_) | refine ZC ?_)
  refine rt_step rfl rfl rfl (st_call rfl rfl rfl rfl (call_ext rfl ?_))
  repeat (first | refine Z0 ?_ | (refine ZR ?_; first | refine x1 ?_ | refine x2 ?_ | refine x8 ?_ | refine Z1 ?_ | refine Z2 ?_ | refine x3 fun _ => ?_ | refine x4 fun _ => ?_ | refine x5 fun _ => ?_ | refine Z3 fun _ => ?_ | refine Z4 fun _ => ?_) | refine ZC ?_)
  refine rt_step rfl rfl rfl (st_call rfl rfl rfl rfl (light8_ct ha hl fun t ht => ?_))
  cases t with
  | false =>
    repeat (first | refine Z0 ?_ | (refine ZR ?_; first | refine x1 ?_ | refine x2 ?_ | refine x8 ?_ | refine Z1 ?_ | refine Z2 ?_ | refine x3 fun _ => ?_ | refine x4 fun _ => ?_ | refine x5 fun _ => ?_ | refine Z3 fun _ => ?_ | refine Z4 fun _ => ?_) | refine ZC ?_)
    exact re_1 rfl rfl (by exact drop_auto) hQ
  | true =>
  obtain ⟨hltL, hL60⟩ := ht.1 rfl
  repeat (first | refine Z0 ?_ | (refine ZR ?_; first | refine x1 ?_ | refine x2 ?_ | refine x8 ?_ | refine Z1 ?_ | refine Z2 ?_ | refine x3 fun _ => ?_ | refine x4 fun _ => ?_ | refine x5 fun _ => ?_ | refine Z3 fun _ => ?_ | refine Z4 fun _ => ?_) | refine ZC ?_)
  refine rt_step rfl rfl rfl (st_call rfl rfl rfl rfl (lights18_ct 40 ha2 hl2 fun t2 ht2 => ?_))
  cases t2 with
  | false =>
    repeat (first | refine Z0 ?_ | (refine ZR ?_; first | refine x1 ?_ | refine x2 ?_ | refine x8 ?_ | refine Z1 ?_ | refine Z2 ?_ | refine x3 fun _ => ?_ | refine x4 fun _ => ?_ | refine x5 fun _ => ?_ | refine Z3 fun _ => ?_ | refine Z4 fun _ => ?_) | refine ZC ?_)
    exact re_1 rfl rfl (by exact drop_auto) hQ
  | true =>
  obtain ⟨hltA, hA40⟩ := ht2.1 rfl
  repeat (first | refine Z0 ?_ | (refine ZR ?_; first | refine x1 ?_ | refine x2 ?_ | refine x8 ?_ | refine Z1 ?_ | refine Z2 ?_ | refine x3 fun _ => ?_ | refine x4 fun _ => ?_ | refine x5 fun _ => ?_ | refine Z3 fun _ => ?_ | refine Z4 fun _ => ?_) | refine ZC ?_)
  refine rt_step rfl rfl rfl (st_call rfl rfl rfl rfl (new9_ct (fun h => absurd h (by decide)) fun _ v Hs0 hI0 => ?_))
  obtain ⟨p0, hp0⟩ : ∃ a, v = .pointer (some a) := by cases hI0; exact ⟨_, rfl⟩
  subst hp0
  repeat (first | refine Z0 ?_ | (refine ZR ?_; first | refine x1 ?_ | refine x2 ?_ | refine x8 ?_ | refine Z1 ?_ | refine Z2 ?_ | refine x3 fun _ => ?_ | refine x4 fun _ => ?_ | refine x5 fun _ => ?_ | refine Z3 fun _ => ?_ | refine Z4 fun _ => ?_) | refine ZC ?_)
  refine ct_midB (ι := List Rt × Hp) (fun j => Rib (cx B0 old) 1000 j.1 (.pointer (some p0)) j.2 ∧ j.1.length ≤ 60) (fun j => [(7, .pointer (some p0)), (1, .int .u32 peer), (2, .slice ad2 A.length c2)]) (fun j => j.2 ++ []) ?_ ?_
  · refine loop_ind (ι := Nat × List Rt × Hp) (0, [], Hs0) (fun j => L.length - j.1) (fun j => j.1 ≤ L.length ∧ Rib (cx B0 old) 1000 j.2.1 (.pointer (some p0)) j.2.2 ∧ j.2.1.length ≤ j.1)
      (fun j => [(9, .int .i64 (j.1 : Int)), (7, .pointer (some p0)), (0, .slice ad L.length c), (1, .int .u32 peer), (2, .slice ad2 A.length c2)]) (fun j => j.2.2 ++ []) ⟨Nat.zero_le _, hI0, Nat.le_refl _⟩ (by repeat (first | exact SubL.nil | refine SubL.cons rfl ?_)) (by exact drop_auto) ?_
    rintro ⟨i, M, Hs⟩ ⟨hi, hI, hml⟩
    dsimp only at hi hI hml ⊢
    repeat (first | refine Z0 ?_ | (refine ZR ?_; first | refine x1 ?_ | refine x2 ?_ | refine x8 ?_ | refine Z1 ?_ | refine Z2 ?_ | refine x3 fun _ => ?_ | refine x4 fun _ => ?_ | refine x5 fun _ => ?_ | refine Z3 fun _ => ?_ | refine Z4 fun _ => ?_) | refine ZC ?_)
    refine ct_condT te_d rfl (fun hlt => ?_) (fun hlt => ?_)
    rotate_left
    · repeat (first | refine Z0 ?_ | (refine ZR ?_; first | refine x1 ?_ | refine x2 ?_ | refine x8 ?_ | refine Z1 ?_ | refine Z2 ?_ | refine x3 fun _ => ?_ | refine x4 fun _ => ?_ | refine x5 fun _ => ?_ | refine Z3 fun _ => ?_ | refine Z4 fun _ => ?_) | refine ZC ?_)
      exact ⟨(M, Hs), ⟨hI, by dsimp only; omega⟩, by repeat (first | exact SubL.nil | refine SubL.cons rfl ?_), by exact drop_auto⟩
    obtain ⟨x, hx⟩ : ∃ x, L[i]? = some x := ⟨_, List.getElem?_eq_getElem (by omega)⟩
    have hxm := List.mem_of_getElem? hx
    obtain ⟨b1, o1, rfl, hL0⟩ := (ha.weak (List.nil_sublist (Hs ++ []))).ldW 54 hx rfl (sz rfl)
    repeat (first | refine Z0 ?_ | (refine ZR ?_; first | refine x1 ?_ | refine x2 ?_ | refine x8 ?_ | refine Z1 ?_ | refine Z2 ?_ | refine x3 fun _ => ?_ | refine x4 fun _ => ?_ | refine x5 fun _ => ?_ | refine Z3 fun _ => ?_ | refine Z4 fun _ => ?_) | refine ZC ?_)
    refine rt_step rfl rfl rfl (st_call rfl rfl rfl rfl (do11_ct x.k x.w (hL x hxm) (hltL x hxm) hI fun Hs' hI' => ?_))
    repeat (first | refine Z0 ?_ | (refine ZR ?_; first | refine x1 ?_ | refine x2 ?_ | refine x8 ?_ | refine Z1 ?_ | refine Z2 ?_ | refine x3 fun _ => ?_ | refine x4 fun _ => ?_ | refine x5 fun _ => ?_ | refine Z3 fun _ => ?_ | refine Z4 fun _ => ?_) | refine ZC ?_)
    have hlen := doM_len 1000 (pkF x.k 8) x.w.r M
    exact ⟨(i + 1, _, Hs'), ⟨by dsimp only; omega, hI', Nat.le_trans hlen (Nat.succ_le_succ hml)⟩, by dsimp only; omega, by repeat (first | exact SubL.nil | refine SubL.cons rfl ?_), by exact drop_auto⟩
  rintro ⟨M0, Hs1⟩ ⟨hI1, hM0⟩
  dsimp only at hI1 hM0 ⊢
  repeat (first | refine Z0 ?_ | (refine ZR ?_; first | refine x1 ?_ | refine x2 ?_ | refine x8 ?_ | refine Z1 ?_ | refine Z2 ?_ | refine x3 fun _ => ?_ | refine x4 fun _ => ?_ | refine x5 fun _ => ?_ | refine Z3 fun _ => ?_ | refine Z4 fun _ => ?_) | refine ZC ?_)
  refine rt_step rfl rfl rfl (st_call rfl rfl rfl rfl (many19_ct hI1 ?_))
  repeat (first | refine Z0 ?_ | (refine ZR ?_; first | refine x1 ?_ | refine x2 ?_ | refine x8 ?_ | refine Z1 ?_ | refine Z2 ?_ | refine x3 fun _ => ?_ | refine x4 fun _ => ?_ | refine x5 fun _ => ?_ | refine Z3 fun _ => ?_ | refine Z4 fun _ => ?_) | refine ZC ?_)
  refine rt_step rfl rfl rfl (st_call rfl rfl rfl rfl (CallT.fuel (n := n + 9 + 20020) (from20_ct peer hI1 (show M0.length ≤ 20000 by omega) fun w G hG => ?_) rfl))
  obtain ⟨ad3, c3, _, rfl, _, _⟩ := hG.len
  have hpt := parts peer M0
  have hst0 := RsI.start peer M0
  rw [show (M0.filter fun r => decide (r.peer = peer)) = M0.filter (pP peer) from rfl]
  repeat (first | refine Z0 ?_ | (refine ZR ?_; first | refine x1 ?_ | refine x2 ?_ | refine x8 ?_ | refine Z1 ?_ | refine Z2 ?_ | refine x3 fun _ => ?_ | refine x4 fun _ => ?_ | refine x5 fun _ => ?_ | refine Z3 fun _ => ?_ | refine Z4 fun _ => ?_) | refine ZC ?_)
  refine rt_step rfl rfl rfl (st_call rfl rfl rfl rfl (CallT.perm (stale21_ct peer hI1 fun Hs2 hI2 => ?_) (List.perm_append_comm_assoc Hs1 G [])))
  generalize hM1 : M0.map (stlR peer) = M1 at *
  have hM1l : M1.length = M0.length := by rw [← hM1, List.length_map]
  have hstl : ∀ r ∈ M1.filter (pP peer), r.stale = true := fun r hr => by
    obtain ⟨h1, h2⟩ := List.mem_filter.1 hr
    rw [← hM1] at h1
    obtain ⟨y, _, rfl⟩ := List.mem_map.1 h1
    unfold stlR at h2 ⊢
    split
    · rfl
    · rename_i hne
      rw [if_neg hne] at h2
      exact absurd (of_decide_eq_true h2) hne
  have hfl : (M1.filter (pP peer)).length ≤ 60 := Nat.le_trans (List.length_filter_le _ _) (by omega)
  generalize (M0.filter (keepD peer)).length = oth at *
  generalize (M0.filter (pP peer)).length = st at *
  rw [show (M0.length : Int) - (st : Int) = (oth : Int) by omega]
  repeat (first | refine Z0 ?_ | (refine ZR ?_; first | refine x1 ?_ | refine x2 ?_ | refine x8 ?_ | refine Z1 ?_ | refine Z2 ?_ | refine x3 fun _ => ?_ | refine x4 fun _ => ?_ | refine x5 fun _ => ?_ | refine Z3 fun _ => ?_ | refine Z4 fun _ => ?_) | refine ZC ?_)
  refine ct_midB (ι := Unit) (fun _ => True) (fun _ => [(10, .int .i64 (oth : Int)), (7, .pointer (some p0)), (1, .int .u32 peer), (2, .slice ad2 A.length c2)]) (fun _ => Hs2 ++ []) ?_ ?_
  · refine loop_ind (ι := Nat) 0 (fun i => (M1.filter (pP peer)).length - i) (fun i => i ≤ (M1.filter (pP peer)).length)
      (fun i => [(11, .int .i64 (i : Int)), (10, .int .i64 (oth : Int)), (7, .pointer (some p0)), (1, .int .u32 peer), (2, .slice ad2 A.length c2)]) (fun _ => Hs2 ++ []) (Nat.zero_le _) (by repeat (first | exact SubL.nil | refine SubL.cons rfl ?_)) (by exact drop_auto) ?_
    intro i hi
    repeat (first | refine Z0 ?_ | (refine ZR ?_; first | refine x1 ?_ | refine x2 ?_ | refine x8 ?_ | refine Z1 ?_ | refine Z2 ?_ | refine x3 fun _ => ?_ | refine x4 fun _ => ?_ | refine x5 fun _ => ?_ | refine Z3 fun _ => ?_ | refine Z4 fun _ => ?_) | refine ZC ?_)
    refine rt_step rfl rfl rfl (st_call rfl rfl rfl rfl (CallT.fuel (n := n + 9 + 20020) (from20_ct peer hI2 (show M1.length ≤ 20000 by omega) fun w G2 hG2 => ?_) rfl))
    obtain ⟨ad4, c4, _, rfl, _, _⟩ := hG2.len
    rw [show (M1.filter fun r => decide (r.peer = peer)) = M1.filter (pP peer) from rfl]
    repeat (first | refine Z0 ?_ | (refine ZR ?_; first | refine x1 ?_ | refine x2 ?_ | refine x8 ?_ | refine Z1 ?_ | refine Z2 ?_ | refine x3 fun _ => ?_ | refine x4 fun _ => ?_ | refine x5 fun _ => ?_ | refine Z3 fun _ => ?_ | refine Z4 fun _ => ?_) | refine ZC ?_)
    refine ct_condT te_d rfl (fun hlt => ?_) (fun hlt => ?_)
    rotate_left
    · repeat (first | refine Z0 ?_ | (refine ZR ?_; first | refine x1 ?_ | refine x2 ?_ | refine x8 ?_ | refine Z1 ?_ | refine Z2 ?_ | refine x3 fun _ => ?_ | refine x4 fun _ => ?_ | refine x5 fun _ => ?_ | refine Z3 fun _ => ?_ | refine Z4 fun _ => ?_) | refine ZC ?_)
      exact ⟨(), trivial, by repeat (first | exact SubL.nil | refine SubL.cons rfl ?_), by exact drop_auto⟩
    repeat (first | refine Z0 ?_ | (refine ZR ?_; first | refine x1 ?_ | refine x2 ?_ | refine x8 ?_ | refine Z1 ?_ | refine Z2 ?_ | refine x3 fun _ => ?_ | refine x4 fun _ => ?_ | refine x5 fun _ => ?_ | refine Z3 fun _ => ?_ | refine Z4 fun _ => ?_) | refine ZC ?_)
    refine rt_step rfl rfl rfl (st_call rfl rfl rfl rfl (CallT.perm (CallT.fuel (n := n + 9 + 20020) (from20_ct peer hI2 (show M1.length ≤ 20000 by omega) fun w G3 hG3 => ?_) rfl) (List.perm_append_comm_assoc Hs2 G2 [])))
    obtain ⟨ad5, c5, L5, rfl, hL5, hA5⟩ := hG3.len
    rw [show (M1.filter fun r => decide (r.peer = peer)) = M1.filter (pP peer) from rfl] at hL5 ⊢
    obtain ⟨x, hx⟩ : ∃ x, L5[i]? = some x := ⟨_, List.getElem?_eq_getElem (by have := congrArg List.length hL5; rw [List.length_map] at this; omega)⟩
    have hxs : x.r.stale = true := hstl x.r (by rw [← hL5]; exact List.mem_map_of_mem (List.mem_of_getElem? hx))
    obtain ⟨b5, o5, rfl, hL0⟩ := hA5.ldF 4 37 (v := .bool x.r.stale) hx rfl rfl rfl (sz rfl)
    rw [hxs] at hL0
    repeat (first | refine Z0 ?_ | (refine ZR ?_; first | refine x1 ?_ | refine x2 ?_ | refine x8 ?_ | refine Z1 ?_ | refine Z2 ?_ | refine x3 fun _ => ?_ | refine x4 fun _ => ?_ | refine x5 fun _ => ?_ | refine Z3 fun _ => ?_ | refine Z4 fun _ => ?_) | refine ZC ?_)
    exact ⟨i + 1, by omega, by omega, by repeat (first | exact SubL.nil | refine SubL.cons rfl ?_), by exact drop_auto⟩
  rintro _ _
  repeat (first | refine Z0 ?_ | (refine ZR ?_; first | refine x1 ?_ | refine x2 ?_ | refine x8 ?_ | refine Z1 ?_ | refine Z2 ?_ | refine x3 fun _ => ?_ | refine x4 fun _ => ?_ | refine x5 fun _ => ?_ | refine Z3 fun _ => ?_ | refine Z4 fun _ => ?_) | refine ZC ?_)
  refine rt_step rfl rfl rfl (st_call rfl rfl rfl rfl (many19_ct hI2 ?_))
  repeat (first | refine Z0 ?_ | (refine ZR ?_; first | refine x1 ?_ | refine x2 ?_ | refine x8 ?_ | refine Z1 ?_ | refine Z2 ?_ | refine x3 fun _ => ?_ | refine x4 fun _ => ?_ | refine x5 fun _ => ?_ | refine Z3 fun _ => ?_ | refine Z4 fun _ => ?_) | refine ZC ?_)
  rw [show (M1.length : Int) - (oth : Int) = (st : Int) by omega]
  refine ct_midB (ι := List Rt × Hp × List Rw × Value × Hp × Hp) (fun j => Rib (cx B0 old) 1000 j.1 (.pointer (some p0)) j.2.1 ∧ j.1.length ≤ 100 ∧ RsI peer oth st j.1 (j.2.2.1.map (·.r)) ∧ Own enW 38 j.2.2.1 j.2.2.2.1 j.2.2.2.2.1 ∧ ∀ x ∈ j.2.2.1, Rd (cx B0 old) j.2.2.2.2.2 x)
    (fun j => [(13, j.2.2.2.1), (12, .int .i64 (st : Int)), (10, .int .i64 (oth : Int)), (7, .pointer (some p0)), (1, .int .u32 peer)]) (fun j => j.2.2.2.2.1 ++ (j.2.1 ++ j.2.2.2.2.2)) ?_ ?_
  · refine loop_ind (ι := Nat × List Rt × Hp × List Rw × Value × Hp × Hp) (0, M1, Hs2, [], .slice none 0 0, [], []) (fun j => A.length - j.1)
      (fun j => j.1 ≤ A.length ∧ Rib (cx B0 old) 1000 j.2.1 (.pointer (some p0)) j.2.2.1 ∧ j.2.1.length ≤ 60 + j.1 ∧ RsI peer oth st j.2.1 (j.2.2.2.1.map (·.r)) ∧ Own enW 38 j.2.2.2.1 j.2.2.2.2.1 j.2.2.2.2.2.1 ∧ ∀ x ∈ j.2.2.2.1, Rd (cx B0 old) j.2.2.2.2.2.2 x)
      (fun j => [(14, .int .i64 (j.1 : Int)), (13, j.2.2.2.2.1), (12, .int .i64 (st : Int)), (10, .int .i64 (oth : Int)), (7, .pointer (some p0)), (1, .int .u32 peer), (2, .slice ad2 A.length c2)]) (fun j => j.2.2.2.2.2.1 ++ (j.2.2.1 ++ j.2.2.2.2.2.2))
      ⟨Nat.zero_le _, hI2, by dsimp only; omega, hst0, .nil, fun x h => (by cases h)⟩ (by repeat (first | exact SubL.nil | refine SubL.cons rfl ?_)) (by exact drop_auto) ?_
    rintro ⟨i, M, Hs, Ll, vl, Gl, Gr⟩ ⟨hi, hI, hml, hrs, ho, hrd⟩
    dsimp only at hi hI hml hrs ho hrd ⊢
    have ho' := ho
    obtain ⟨al, cl, rfl, hwl⟩ := ho.arrW (C := cx B0 old) enW_len
    have hLlen : Ll.length ≤ M.length := by
      have h1 : (Ll.map (·.r)).length ≤ M.length := by rw [hrs.last]; exact List.length_filter_le _ _
      rwa [List.length_map] at h1
    repeat (first | refine Z0 ?_ | (refine ZR ?_; first | refine x1 ?_ | refine x2 ?_ | refine x8 ?_ | refine Z1 ?_ | refine Z2 ?_ | refine x3 fun _ => ?_ | refine x4 fun _ => ?_ | refine x5 fun _ => ?_ | refine Z3 fun _ => ?_ | refine Z4 fun _ => ?_) | refine ZC ?_)
    refine ct_condT te_d rfl (fun hlt => ?_) (fun hlt => ?_)
    rotate_left
    · repeat (first | refine Z0 ?_ | (refine ZR ?_; first | refine x1 ?_ | refine x2 ?_ | refine x8 ?_ | refine Z1 ?_ | refine Z2 ?_ | refine x3 fun _ => ?_ | refine x4 fun _ => ?_ | refine x5 fun _ => ?_ | refine Z3 fun _ => ?_ | refine Z4 fun _ => ?_) | refine ZC ?_)
      exact ⟨(M, Hs, Ll, _, Gl, Gr), ⟨hI, by dsimp only; omega, hrs, ho, hrd⟩, by repeat (first | exact SubL.nil | refine SubL.cons rfl ?_), by exact drop_auto⟩
    obtain ⟨x, hx⟩ : ∃ x, A[i]? = some x := ⟨_, List.getElem?_eq_getElem (by omega)⟩
    have hxm := List.mem_of_getElem? hx
    obtain ⟨hxw, hxp, hxr⟩ := hA x hxm
    dsimp only at hxw hxp hxr
    have hxl := (hltA x hxm).light
    obtain ⟨b1, o1, rfl, hL0⟩ := (ha2.weak (List.nil_sublist (Gl ++ (Hs ++ Gr)))).ldW 52 hx rfl (sz rfl)
    repeat (first | refine Z0 ?_ | (refine ZR ?_; first | refine x1 ?_ | refine x2 ?_ | refine x8 ?_ | refine Z1 ?_ | refine Z2 ?_ | refine x3 fun _ => ?_ | refine x4 fun _ => ?_ | refine x5 fun _ => ?_ | refine Z3 fun _ => ?_ | refine Z4 fun _ => ?_) | refine ZC ?_)
    refine rt_step rfl rfl rfl (st_call rfl rfl rfl rfl (own22W x hxl (hxr.weak (List.nil_sublist _)) fun y G hy hyR => ?_))
    unfold enW enR
    repeat (first | refine Z0 ?_ | (refine ZR ?_; first | refine x1 ?_ | refine x2 ?_ | refine x8 ?_ | refine Z1 ?_ | refine Z2 ?_ | refine x3 fun _ => ?_ | refine x4 fun _ => ?_ | refine x5 fun _ => ?_ | refine Z3 fun _ => ?_ | refine Z4 fun _ => ?_) | refine ZC ?_)
    rename_i b15
    have hyw : (agn peer y).r.n.wf := by unfold agn; dsimp only; rw [hy]; exact hxw
    have hyok : okP (plc (agn peer y).r) := ⟨⟨keyS_wf hyw, keyS_key _⟩, hpe⟩
    refine rt_step rfl rfl rfl (st_call rfl rfl rfl rfl (CallT.perm (H' := Hs ++ ((b15, AObj.row (enW (agn peer y)) 38 false) :: (Gl ++ (G ++ Gr)))) (put23_ct (agn peer y) hyw hpe ((rd_agn hyR).weak (by exact drop_auto)) hI fun Hs' hI' => ?_) pq1))
    refine RunT.perm ?_ pq2
    repeat (first | refine Z0 ?_ | (refine ZR ?_; first | refine x1 ?_ | refine x2 ?_ | refine x8 ?_ | refine Z1 ?_ | refine Z2 ?_ | refine x3 fun _ => ?_ | refine x4 fun _ => ?_ | refine x5 fun _ => ?_ | refine Z3 fun _ => ?_ | refine Z4 fun _ => ?_) | refine ZC ?_)
    first | (refine isRun ?_; refine z1 (fun hc => ?_) (fun hc => ?_)) | refine z2 (fun hc => ?_) (fun hc => ?_) | (refine isPlan ?_; refine z3 (fun hc => ?_) (fun hc => ?_))
    · rw [putM_err hc] at hI'
      repeat (first | refine Z0 ?_ | (refine ZR ?_; first | refine x1 ?_ | refine x2 ?_ | refine x8 ?_ | refine Z1 ?_ | refine Z2 ?_ | refine x3 fun _ => ?_ | refine x4 fun _ => ?_ | refine x5 fun _ => ?_ | refine Z3 fun _ => ?_ | refine Z4 fun _ => ?_) | refine ZC ?_)
      exact ⟨(i + 1, M, Hs', Ll, _, Gl, Gr), ⟨by dsimp only; omega, hI', by dsimp only; omega, hrs, ho, hrd⟩, by dsimp only; omega, by repeat (first | exact SubL.nil | refine SubL.cons rfl ?_), by exact drop_auto⟩
    obtain ⟨hsM, hvM⟩ := hI.srt
    obtain ⟨hck, hput⟩ := putM_ok hsM hc
    rw [hput] at hI'
    have hrs' := hrs.put hsM hvM hyok rfl rfl
    have hzr := rd_agn (peer := peer) hyR
    have hzp : (agn peer y).r.peer = peer := rfl
    have hml2 := putR_len (e := (agn peer y).r) (M := M)
    have hsl : SrtR (Ll.map (·.r)) := by rw [hrs.last]; exact hsM.sub List.filter_sublist
    have hvl : ∀ x ∈ Ll, okR x.r ∧ x.r.peer = peer := fun x hx => by
      have h1 : x.r ∈ Ll.map (·.r) := List.mem_map_of_mem hx
      rw [hrs.last] at h1
      obtain ⟨h2, h3⟩ := List.mem_filter.1 h1
      refine ⟨hvM _ h2, ?_⟩
      unfold fP at h3
      rw [Bool.and_eq_true] at h3
      exact of_decide_eq_true h3.1
    refine CodeT.weak (l' := [(15, .pointer (some ⟨b15, 0, none⟩)), (14, .int .i64 (i : Int)), (13, .slice al Ll.length cl), (12, .int .i64 (st : Int)), (10, .int .i64 (oth : Int)), (7, .pointer (some p0)), (1, .int .u32 peer), (2, .slice (some ⟨b1, o1, none⟩) A.length c2)]) (H' := (b15, AObj.row (enW (agn peer y)) 38 false) :: (Gl ++ (Hs' ++ (G ++ Gr)))) ?_ (by repeat (first | exact SubL.nil | refine SubL.cons rfl ?_)) (List.Sublist.refl _)
    generalize agn peer y = z at *
    clear hy hyR hput hc hck hL0
    have hcmp : ∀ {x : Rw} {k : Nat} {H1 : Hp} {Θ : Value → Hp → Prop}, Ll[k]? = some x → Θ (.int .i64 (nlC x.r.n z.r.n)) H1 → CallT (cx B0 old) (acall (cx B0 old) ansP (n + 20025 + 4)) 24 [.agg ⟨en60 x.r.n⟩, .agg ⟨en60 z.r.n⟩] H1 Θ := fun hx h => compare24_ct _ _ (hvl _ (List.mem_of_getElem? hx)).1.wf hyw h
    have hrk : ∀ {x : Rw} {k : Nat}, Ll[k]? = some x → (rkR x.r < rkR z.r ↔ nlC x.r.n z.r.n < 0) ∧ (rkR x.r = rkR z.r ↔ nlC x.r.n z.r.n = 0) := fun hx => rk_peer (hvl _ (List.mem_of_getElem? hx)).1.pl hyok ((hvl _ (List.mem_of_getElem? hx)).2.trans hzp.symm)
    have hld : ∀ {x : Rw} {k : Nat}, Ll[k]? = some x → ∃ b2 o2, al = some ⟨b2, o2, none⟩ ∧ ∀ H', Gl.Sublist H' → LdT (cx B0 old) 43 H' b2 (o2 + k * 38 + 0) (.agg ⟨en60 x.r.n⟩) := fun hx => by
      have h1 := (hwl [] []).arr enW_len
      simp only [List.nil_append, List.append_nil] at h1
      obtain ⟨b2, o2, cs, e2, hrow, hcut⟩ := h1.els _ _ hx
      exact ⟨b2, o2, e2, fun H' hs => ldP (hrow.weak hs) rfl (sz rfl) (cut_part hcut rfl (by decide))⟩
    repeat (first | refine Z0 ?_ | (refine ZR ?_; first | refine x1 ?_ | refine x2 ?_ | refine x8 ?_ | refine Z1 ?_ | refine Z2 ?_ | refine x3 fun _ => ?_ | refine x4 fun _ => ?_ | refine x5 fun _ => ?_ | refine Z3 fun _ => ?_ | refine Z4 fun _ => ?_) | refine ZC ?_)
    refine ct_midB (ι := Nat) (fun k => k ≤ Ll.length ∧ (∀ (j : Nat) x, Ll[j]? = some x → j < k → rkR x.r < rkR z.r) ∧ ∀ x, Ll[k]? = some x → rkR z.r ≤ rkR x.r)
      (fun k => [(18, .int .i64 (k : Int)), (15, .pointer (some ⟨b15, 0, none⟩)), (14, .int .i64 (i : Int)), (13, .slice al Ll.length cl), (12, .int .i64 (st : Int)), (10, .int .i64 (oth : Int)), (7, .pointer (some p0)), (1, .int .u32 peer), (2, .slice (some ⟨b1, o1, none⟩) A.length c2)]) (fun _ => (b15, AObj.row (enW z) 38 false) :: (Gl ++ (Hs' ++ (G ++ Gr)))) ?_ ?_
    · refine loop_ind (ι := Nat) 0 (fun k => Ll.length - k) (fun k => k ≤ Ll.length ∧ ∀ (j : Nat) x, Ll[j]? = some x → j < k → rkR x.r < rkR z.r)
        (fun k => [(18, .int .i64 (k : Int)), (15, .pointer (some ⟨b15, 0, none⟩)), (14, .int .i64 (i : Int)), (13, .slice al Ll.length cl), (12, .int .i64 (st : Int)), (10, .int .i64 (oth : Int)), (7, .pointer (some p0)), (1, .int .u32 peer), (2, .slice (some ⟨b1, o1, none⟩) A.length c2)]) (fun _ => (b15, AObj.row (enW z) 38 false) :: (Gl ++ (Hs' ++ (G ++ Gr)))) ⟨Nat.zero_le _, fun j x _ h => absurd h (Nat.not_lt_zero _)⟩ (by repeat (first | exact SubL.nil | refine SubL.cons rfl ?_)) (List.Sublist.refl _) ?_
      rintro k ⟨hk, hbe⟩
      repeat (first | refine Z0 ?_ | (refine ZR ?_; first | refine x1 ?_ | refine x2 ?_ | refine x8 ?_ | refine Z1 ?_ | refine Z2 ?_ | refine x3 fun _ => ?_ | refine x4 fun _ => ?_ | refine x5 fun _ => ?_ | refine Z3 fun _ => ?_ | refine Z4 fun _ => ?_) | refine ZC ?_)
      refine ct_draw (masks := [0, 0, 2, 7, 15, 31, 31, 127, 255, 511, 31, 1055, 4095, 8191, 16383]) (plan := [0, 1, 2, 3, 4, 5, 6, 7, 8, 9, 10, 11, 12, 13, 14]) (E := []) (by kernel_rfl) (by kernel_rfl) (by kernel_rfl) (by kernel_rfl) ?_
      repeat (first | refine Y0 ?_ | (refine YP ?_; first | refine y1 ?_ | refine y2 ?_ | refine Y1 ?_ | refine Y2 ?_))
      refine isPlan ?_
      refine z3 (fun hkl => ?_) (fun hkl => ?_)
      rotate_left
      · obtain rfl : k = Ll.length := by omega
        repeat (first | refine Y0 ?_ | (refine YP ?_; first | refine y1 ?_ | refine y2 ?_ | refine Y1 ?_ | refine Y2 ?_))
        repeat (first | refine Z0 ?_ | (refine ZR ?_; first | refine x1 ?_ | refine x2 ?_ | refine x8 ?_ | refine Z1 ?_ | refine Z2 ?_ | refine x3 fun _ => ?_ | refine x4 fun _ => ?_ | refine x5 fun _ => ?_ | refine Z3 fun _ => ?_ | refine Z4 fun _ => ?_) | refine ZC ?_)
        exact ⟨Ll.length, ⟨Nat.le_refl _, hbe, fun x hx => by rw [List.getElem?_eq_none (Nat.le_refl _)] at hx; cases hx⟩, by repeat (first | exact SubL.nil | refine SubL.cons rfl ?_), List.Sublist.refl _⟩
      obtain ⟨x, hxk⟩ : ∃ x, Ll[k]? = some x := ⟨_, List.getElem?_eq_getElem (by omega)⟩
      obtain ⟨b2, o2, e2, hL0⟩ := hld hxk
      subst e2
      repeat (first | refine Y0 ?_ | (refine YP ?_; first | refine y1 ?_ | refine y2 ?_ | refine Y1 ?_ | refine Y2 ?_))
      refine pl_S rfl rfl rfl rfl rfl rfl (st_call rfl rfl rfl rfl (hcmp hxk ⟨by exact rec_auto, ?_⟩))
      repeat (first | refine Y0 ?_ | (refine YP ?_; first | refine y1 ?_ | refine y2 ?_ | refine Y1 ?_ | refine Y2 ?_))
      repeat (first | refine Z0 ?_ | (refine ZR ?_; first | refine x1 ?_ | refine x2 ?_ | refine x8 ?_ | refine Z1 ?_ | refine Z2 ?_ | refine x3 fun _ => ?_ | refine x4 fun _ => ?_ | refine x5 fun _ => ?_ | refine Z3 fun _ => ?_ | refine Z4 fun _ => ?_) | refine ZC ?_)
      obtain ⟨hr1, hr2⟩ := hrk hxk
      refine ct_condT te_d rfl (fun hcl => ?_) (fun hcl => ?_)
      · repeat (first | refine Z0 ?_ | (refine ZR ?_; first | refine x1 ?_ | refine x2 ?_ | refine x8 ?_ | refine Z1 ?_ | refine Z2 ?_ | refine x3 fun _ => ?_ | refine x4 fun _ => ?_ | refine x5 fun _ => ?_ | refine Z3 fun _ => ?_ | refine Z4 fun _ => ?_) | refine ZC ?_)
        refine ⟨k + 1, ⟨by omega, fun j w hj hjk => ?_⟩, by omega, by repeat (first | exact SubL.nil | refine SubL.cons rfl ?_), by exact drop_auto⟩
        by_cases hjk2 : j = k
        · subst hjk2
          rw [hxk] at hj
          cases hj
          exact hr1.2 hcl
        · exact hbe j w hj (by omega)
      · repeat (first | refine Z0 ?_ | (refine ZR ?_; first | refine x1 ?_ | refine x2 ?_ | refine x8 ?_ | refine Z1 ?_ | refine Z2 ?_ | refine x3 fun _ => ?_ | refine x4 fun _ => ?_ | refine x5 fun _ => ?_ | refine Z3 fun _ => ?_ | refine Z4 fun _ => ?_) | refine ZC ?_)
        refine ⟨k, ⟨hk, hbe, fun w hw => ?_⟩, by repeat (first | exact SubL.nil | refine SubL.cons rfl ?_), by exact drop_auto⟩
        rw [hxk] at hw
        cases hw
        have := mt hr1.1 hcl
        omega
    rintro k ⟨hk, hbe, hge⟩
    have hat := putR_at (e := z.r) (M := Ll.map (·.r)) (k := k) hsl (by rw [List.length_map]; exact hk) (fun j r hj hjk => by
      rw [List.getElem?_map] at hj
      obtain ⟨w, hw, rfl⟩ := Option.map_eq_some_iff.1 hj
      exact hbe j w hw hjk) (fun r hj => by
      rw [List.getElem?_map] at hj
      obtain ⟨w, hw, rfl⟩ := Option.map_eq_some_iff.1 hj
      exact hge w hw)
    rw [List.getElem?_map] at hat
    repeat (first | refine Z0 ?_ | (refine ZR ?_; first | refine x1 ?_ | refine x2 ?_ | refine x8 ?_ | refine Z1 ?_ | refine Z2 ?_ | refine x3 fun _ => ?_ | refine x4 fun _ => ?_ | refine x5 fun _ => ?_ | refine Z3 fun _ => ?_ | refine Z4 fun _ => ?_) | refine ZC ?_)
    refine ct_draw (masks := [0, 0, 2, 7, 15, 31, 31, 127, 255, 511, 31, 1055, 4095, 8191, 16383]) (plan := [0, 1, 2, 3, 4, 5, 6, 7, 8, 9, 10, 11, 12, 13, 14]) (E := []) (by kernel_rfl) (by kernel_rfl) (by kernel_rfl) (by kernel_rfl) ?_
    refine pl_midE (ι := Bool) (fun b => b = true ↔ ∃ x, Ll[k]? = some x ∧ rkR x.r = rkR z.r) (fun b => [(129, .bool b), (18, .int .i64 (k : Int)), (15, .pointer (some ⟨b15, 0, none⟩)), (14, .int .i64 (i : Int)), (13, .slice al Ll.length cl), (12, .int .i64 (st : Int)), (10, .int .i64 (oth : Int)), (7, .pointer (some p0)), (1, .int .u32 peer), (2, .slice (some ⟨b1, o1, none⟩) A.length c2)]) (fun _ => (b15, AObj.row (enW z) 38 false) :: (Gl ++ (Hs' ++ (G ++ Gr)))) ?_ ?_
    · repeat (first | refine Y0 ?_ | (refine YP ?_; first | refine y1 ?_ | refine y2 ?_ | refine Y1 ?_ | refine Y2 ?_))
      refine isPlan ?_
      refine z3 (fun hkl => ?_) (fun hkl => ?_)
      rotate_left
      · repeat (first | refine Y0 ?_ | (refine YP ?_; first | refine y1 ?_ | refine y2 ?_ | refine Y1 ?_ | refine Y2 ?_))
        exact ⟨false, ⟨fun h => (by cases h), fun ⟨w, hw, _⟩ => by rw [List.getElem?_eq_none (by omega)] at hw; cases hw⟩, by repeat (first | exact SubL.nil | refine SubL.cons rfl ?_), List.Sublist.refl _⟩
      obtain ⟨x, hxk⟩ : ∃ x, Ll[k]? = some x := ⟨_, List.getElem?_eq_getElem (by omega)⟩
      obtain ⟨b2, o2, e2, hL0⟩ := hld hxk
      subst e2
      repeat (first | refine Y0 ?_ | (refine YP ?_; first | refine y1 ?_ | refine y2 ?_ | refine Y1 ?_ | refine Y2 ?_))
      refine pl_S rfl rfl rfl rfl rfl rfl (st_call rfl rfl rfl rfl (hcmp hxk ⟨by exact rec_auto, ?_⟩))
      repeat (first | refine Y0 ?_ | (refine YP ?_; first | refine y1 ?_ | refine y2 ?_ | refine Y1 ?_ | refine Y2 ?_))
      obtain ⟨hr1, hr2⟩ := hrk hxk
      refine ⟨_, ?_, by repeat (first | exact SubL.nil | refine SubL.cons rfl ?_), by exact drop_auto⟩
      constructor
      · intro h
        exact ⟨x, hxk, hr2.2 (by simpa using h)⟩
      · rintro ⟨w, hw, he⟩
        rw [hxk] at hw
        cases hw
        simpa using hr2.1 he
    intro b hb
    cases b
    rotate_left
    · obtain ⟨x, hxk, hre⟩ := hb.1 rfl
      rw [hxk] at hat
      simp only [Option.map_some, hre, if_true] at hat
      have hkl := (List.getElem?_eq_some_iff.1 hxk).1
      obtain ⟨Gl', ho2, b2, c2', e2, hst⟩ := ho.set (C := cx B0 old) (t := 52) (f := 0) (a' := z) (u := .agg ⟨enW z⟩) enW_len hxk (sz rfl) rfl (enW_store x z)
      cases e2
      repeat (first | refine Z0 ?_ | (refine ZR ?_; first | refine x1 ?_ | refine x2 ?_ | refine x8 ?_ | refine Z1 ?_ | refine Z2 ?_ | refine x3 fun _ => ?_ | refine x4 fun _ => ?_ | refine x5 fun _ => ?_ | refine Z3 fun _ => ?_ | refine Z4 fun _ => ?_) | refine ZC ?_)
      refine rt_st rfl rfl rfl rfl rfl (hst [_] (Hs' ++ (G ++ Gr))) ?_
      repeat (first | refine Z0 ?_ | (refine ZR ?_; first | refine x1 ?_ | refine x2 ?_ | refine x8 ?_ | refine Z1 ?_ | refine Z2 ?_ | refine x3 fun _ => ?_ | refine x4 fun _ => ?_ | refine x5 fun _ => ?_ | refine Z3 fun _ => ?_ | refine Z4 fun _ => ?_) | refine ZC ?_)
      refine ⟨(i + 1, putR z.r M, Hs', Ll.set k z, _, Gl', G ++ Gr), ⟨by dsimp only; omega, hI', by dsimp only; omega, ?_, ho2, fun w hw => ?_⟩, by dsimp only; omega, by repeat (first | exact SubL.nil | refine SubL.cons rfl ?_), by exact drop_auto⟩
      · dsimp only
        rw [List.map_set, ← hat]
        exact hrs'
      · rcases List.mem_or_eq_of_mem_set hw with h | h
        · exact (hrd w h).weak (List.sublist_append_right _ _)
        · rw [h]; exact hzr.weak (List.sublist_append_left _ _)
    · have hins : putR z.r (Ll.map (·.r)) = (Ll.take k ++ ([z] ++ Ll.drop k)).map (·.r) := by
        rw [hat, List.map_append, List.map_append, List.map_take, List.map_drop]
        cases hq : Ll[k]? with
        | none => rfl
        | some x =>
          simp only [Option.map_some]
          rw [if_neg fun h => by have := hb.2 ⟨x, hq, h⟩; cases this]
          rfl
      have hcut := ho.cuts (C := cx B0 old) (pre := [(b15, AObj.row (enW z) 38 false)]) (H0 := Hs' ++ (G ++ Gr)) enW_len
      obtain ⟨ad3, c3, hs3, hw3⟩ := hcut.part 58 52 none (some (.int .i64 (k : Int))) 0 k rfl (sz rfl) (Nat.zero_le _) (by omega) (.inr ⟨rfl, rfl⟩) (.inl (by simp [natOf]))
      obtain ⟨ad4, c4, hs4, hw4⟩ := hcut.part 58 52 (some (.int .i64 (k : Int))) none k Ll.length rfl (sz rfl) (by omega) (Nat.le_refl _) (.inl (by simp [natOf])) (.inr ⟨rfl, rfl⟩)
      rw [List.drop_zero, Nat.sub_zero] at hw3
      rw [Nat.sub_zero] at hs3
      have hl3 : (Ll.take k).length = k := by rw [List.length_take]; omega
      have hl4 : ((Ll.drop k).take (Ll.length - k)).length = Ll.length - k := by rw [List.length_take, List.length_drop]; omega
      repeat (first | refine Z0 ?_ | (refine ZR ?_; first | refine x1 ?_ | refine x2 ?_ | refine x8 ?_ | refine Z1 ?_ | refine Z2 ?_ | refine x3 fun _ => ?_ | refine x4 fun _ => ?_ | refine x5 fun _ => ?_ | refine Z3 fun _ => ?_ | refine Z4 fun _ => ?_) | refine ZC ?_)
      refine ct_draw (masks := [0, 0, 0, 6, 15, 0, 32, 127, 0, 0, 768, 2047, 4095]) (plan := [1, 2, 3, 5, 8, 9, 10, 0, 4, 6, 7, 11, 12]) (E := [6]) (by kernel_rfl) (by kernel_rfl) (by kernel_rfl) (by kernel_rfl) ?_
      repeat (first | refine Y0 ?_ | (refine YP ?_; first | refine y1 ?_ | refine y2 ?_ | refine Y1 ?_ | refine Y2 ?_))
      refine pl_p rfl rfl rfl rfl rfl rfl (p_slc rfl rfl rfl hs3) ?_
      repeat (first | refine Y0 ?_ | (refine YP ?_; first | refine y1 ?_ | refine y2 ?_ | refine Y1 ?_ | refine Y2 ?_))
      refine pl_p rfl rfl rfl rfl rfl rfl (p_slc rfl rfl rfl hs4) ?_
      repeat (first | refine Y0 ?_ | (refine YP ?_; first | refine y1 ?_ | refine y2 ?_ | refine Y1 ?_ | refine Y2 ?_))
      refine pl_S' (late_has 6 rfl (made_slice rfl rfl rfl (zr rfl) rfl rfl rfl rfl rfl rfl)) rfl rfl rfl rfl rfl rfl (st_buildSlice rfl (zr rfl) rfl rfl rfl rfl rfl rfl fun b0 => ⟨by exact rec_auto, ?_⟩)
      repeat (first | refine Y0 ?_ | (refine YP ?_; first | refine y1 ?_ | refine y2 ?_ | refine Y1 ?_ | refine Y2 ?_))
      refine pl_S' (late_has 6 rfl (made_slice rfl rfl rfl (zr rfl) rfl rfl rfl rfl rfl rfl)) rfl rfl rfl rfl rfl rfl (st_appO (M := Ll.take k) (c := c3) (pre := []) (Hs := [_]) (Own.emp _ _) enW_len enW_one rfl (by rw [hl3]; rfl) (ap rfl) (hw3.weak (List.sublist_cons_self _ _)) (Nat.le_trans (Nat.mul_le_mul_right _ (show 2 * (([] : List Rw).length + (Ll.take k).length) + 192 ≤ 6000 by rw [hl3, List.length_nil]; omega)) (by decide)) fun v3 H3 ho3 => ⟨by exact rec_auto, ?_⟩)
      repeat (first | refine Y0 ?_ | (refine YP ?_; first | refine y1 ?_ | refine y2 ?_ | refine Y1 ?_ | refine Y2 ?_))
      refine pl_S' (late_has 6 rfl (made_slice rfl rfl rfl (zr rfl) rfl rfl rfl rfl rfl rfl)) rfl rfl rfl rfl rfl rfl (st_buildSlice rfl (zr rfl) rfl rfl rfl rfl rfl rfl fun bo => ⟨by exact rec_auto, ?_⟩)
      repeat (first | refine Y0 ?_ | (refine YP ?_; first | refine y1 ?_ | refine y2 ?_ | refine Y1 ?_ | refine Y2 ?_))
      refine pl_S' (late_no rfl) rfl rfl rfl rfl rfl rfl (st_appO (M := [z]) (c := 1) (pre := [_]) (Hs := H3) ho3 enW_len enW_one rfl rfl (ap rfl) (arrW_one enW_len (List.Mem.head _)) (Nat.le_trans (Nat.mul_le_mul_right _ (show 2 * (([] ++ Ll.take k).length + [z].length) + 192 ≤ 6000 by rw [List.nil_append, hl3, List.length_singleton]; omega)) (by decide)) fun v4 H4 ho4 => ⟨by exact rec_auto, ?_⟩)
      repeat (first | refine Y0 ?_ | (refine YP ?_; first | refine y1 ?_ | refine y2 ?_ | refine Y1 ?_ | refine Y2 ?_))
      refine pl_S' (late_no rfl) rfl rfl rfl rfl rfl rfl (st_appO (M := (Ll.drop k).take (Ll.length - k)) (c := c4) (pre := []) (Hs := H4) ho4 enW_len enW_one rfl (by rw [hl4]; rfl) (ap rfl) (hw4.weak (by exact drop_auto)) (Nat.le_trans (Nat.mul_le_mul_right _ (show 2 * (([] ++ Ll.take k ++ [z]).length + ((Ll.drop k).take (Ll.length - k)).length) + 192 ≤ 6000 by rw [hl4, List.nil_append, List.length_append, hl3, List.length_singleton]; omega)) (by decide)) fun v5 H5 ho5 => ⟨by exact rec_auto, ?_⟩)
      repeat (first | refine Y0 ?_ | (refine YP ?_; first | refine y1 ?_ | refine y2 ?_ | refine Y1 ?_ | refine Y2 ?_))
      repeat (first | refine Z0 ?_ | (refine ZR ?_; first | refine x1 ?_ | refine x2 ?_ | refine x8 ?_ | refine Z1 ?_ | refine Z2 ?_ | refine x3 fun _ => ?_ | refine x4 fun _ => ?_ | refine x5 fun _ => ?_ | refine Z3 fun _ => ?_ | refine Z4 fun _ => ?_) | refine ZC ?_)
      refine ⟨(i + 1, putR z.r M, Hs', [] ++ Ll.take k ++ [z] ++ (Ll.drop k).take (Ll.length - k), v5, H5, G ++ Gr), ⟨by dsimp only; omega, hI', by dsimp only; omega, ?_, ho5, fun w hw => ?_⟩, by dsimp only; omega, by repeat (first | exact SubL.nil | refine SubL.cons rfl ?_), by exact drop_auto⟩
      · dsimp only
        rw [List.take_of_length_le (l := Ll.drop k) (by rw [List.length_drop]; omega), List.nil_append, List.append_assoc, ← hins]
        exact hrs'
      · dsimp only at hw
        rw [List.nil_append] at hw
        rcases List.mem_append.1 hw with hw | hw
        · rcases List.mem_append.1 hw with hw | hw
          · exact (hrd w (List.mem_of_mem_take hw)).weak (List.sublist_append_right _ _)
          · rw [List.mem_singleton.1 hw]; exact hzr.weak (List.sublist_append_left _ _)
        · exact (hrd w (List.mem_of_mem_drop (List.mem_of_mem_take hw))).weak (List.sublist_append_right _ _)
  rintro ⟨M, Hs, Ll, vl, Gl, Gr⟩ ⟨hI, hml, hrs, ho, hrd⟩
  dsimp only at hI hml hrs ho hrd ⊢
  repeat (first | refine Z0 ?_ | (refine ZR ?_; first | refine x1 ?_ | refine x2 ?_ | refine x8 ?_ | refine Z1 ?_ | refine Z2 ?_ | refine x3 fun _ => ?_ | refine x4 fun _ => ?_ | refine x5 fun _ => ?_ | refine Z3 fun _ => ?_ | refine Z4 fun _ => ?_) | refine ZC ?_)
  refine rt_step rfl rfl rfl (st_call rfl rfl rfl rfl (CallT.perm (sweep25_ct peer hI fun Hs' hI' => ?_) (List.perm_append_comm_assoc Hs Gl Gr)))
  obtain ⟨hf1, hf2, hf3, hf4⟩ := hrs.fin
  have hvM := hI.srt.2
  have hLl : (Ll.map (·.r)).length = Ll.length := List.length_map ..
  rw [hLl] at hf2 hf4
  generalize (M.length : Int) - ((M.filter (keepS peer)).length : Int) = gone at *
  generalize hM2 : M.filter (keepS peer) = M2 at *
  have hM2l : M2.length ≤ 100 := by rw [← hM2]; exact Nat.le_trans (List.length_filter_le _ _) hml
  obtain ⟨al, cl, rfl, hwl⟩ := ho.arrW (C := cx B0 old) enW_len
  repeat (first | refine Z0 ?_ | (refine ZR ?_; first | refine x1 ?_ | refine x2 ?_ | refine x8 ?_ | refine Z1 ?_ | refine Z2 ?_ | refine x3 fun _ => ?_ | refine x4 fun _ => ?_ | refine x5 fun _ => ?_ | refine Z3 fun _ => ?_ | refine Z4 fun _ => ?_) | refine ZC ?_)
  refine rt_step rfl rfl rfl (st_call rfl rfl rfl rfl (CallT.fuel (n := n + 9 + 20020) (from20_ct peer hI' (show M2.length ≤ 20000 by omega) fun w G5 hG5 => ?_) rfl))
  have hG5' := hG5.toA
  obtain ⟨ad5, c5, _, rfl, _, _⟩ := hG5.len
  have e5 : (M2.filter fun r => decide (r.peer = peer)) = Ll.map (·.r) := hf1
  rw [e5] at hG5' ⊢
  repeat (first | refine Z0 ?_ | (refine ZR ?_; first | refine x1 ?_ | refine x2 ?_ | refine x8 ?_ | refine Z1 ?_ | refine Z2 ?_ | refine x3 fun _ => ?_ | refine x4 fun _ => ?_ | refine x5 fun _ => ?_ | refine Z3 fun _ => ?_ | refine Z4 fun _ => ?_) | refine ZC ?_)
  refine rt_step rfl rfl rfl (st_call rfl rfl rfl rfl (sames14_ct (hG5'.weak (by exact drop_auto)) (RsA.weak (H := Gl ++ Gr) ⟨Ll, al, cl, rfl, hwl [] Gr, fun x hx => (hrd x hx).weak (List.sublist_append_right _ _), rfl⟩ (by exact drop_auto)) (by rw [hLl]; have := hLl; have h2 := congrArg List.length e5; have h3 := List.length_filter_le (fun r : Rt => decide (r.peer = peer)) M2; omega) (fun r hr => ?_) fun t ht => ?_))
  · rw [← e5, ← hM2] at hr
    exact (hvM r (List.mem_filter.1 (List.mem_filter.1 hr).1).1).light
  obtain rfl : t = true := ht.2 rfl
  repeat (first | refine Z0 ?_ | (refine ZR ?_; first | refine x1 ?_ | refine x2 ?_ | refine x8 ?_ | refine Z1 ?_ | refine Z2 ?_ | refine x3 fun _ => ?_ | refine x4 fun _ => ?_ | refine x5 fun _ => ?_ | refine Z3 fun _ => ?_ | refine Z4 fun _ => ?_) | refine ZC ?_)
  refine rt_step rfl rfl rfl (st_call rfl rfl rfl rfl (CallT.perm (many19_ct hI' ?_) (List.perm_append_comm_assoc Hs' G5 (Gl ++ Gr))))
  repeat (first | refine Z0 ?_ | (refine ZR ?_; first | refine x1 ?_ | refine x2 ?_ | refine x8 ?_ | refine Z1 ?_ | refine Z2 ?_ | refine x3 fun _ => ?_ | refine x4 fun _ => ?_ | refine x5 fun _ => ?_ | refine Z3 fun _ => ?_ | refine Z4 fun _ => ?_) | refine ZC ?_)
  rw [show ((M2.length : Int) == (oth : Int) + (Ll.length : Int)) = true by rw [beq_iff_eq]; omega]
  repeat (first | refine Z0 ?_ | (refine ZR ?_; first | refine x1 ?_ | refine x2 ?_ | refine x8 ?_ | refine Z1 ?_ | refine Z2 ?_ | refine x3 fun _ => ?_ | refine x4 fun _ => ?_ | refine x5 fun _ => ?_ | refine Z3 fun _ => ?_ | refine Z4 fun _ => ?_) | refine ZC ?_)
  rw [show decide (gone ≤ (st : Int)) = true from decide_eq_true hf3]
  repeat (first | refine Z0 ?_ | (refine ZR ?_; first | refine x1 ?_ | refine x2 ?_ | refine x8 ?_ | refine Z1 ?_ | refine Z2 ?_ | refine x3 fun _ => ?_ | refine x4 fun _ => ?_ | refine x5 fun _ => ?_ | refine Z3 fun _ => ?_ | refine Z4 fun _ => ?_) | refine ZC ?_)
  rw [show decide (gone ≥ (st : Int) - (Ll.length : Int)) = true from decide_eq_true hf4]
  exact re_1 rfl rfl (List.nil_sublist _) hQ
end
end Go.Proofs.YtphadapcafibpaaGreat.Abs

/- What is read of the arguments; the contract of the closed examples (printed by gentz.py). -/
namespace Go.Proofs.YtphadapcafibpaaGreat.Abs
open Go Go.RowKit
set_option linter.unusedVariables false
set_option maxRecDepth 100000
set_option maxHeartbeats 2000000
theorem livesRun : acall (cell0 Tryz.prog) ansB 60 7 [] st0 isTrue = true := by kernel_rfl
theorem extOk [Tok] (B0 : Nat) (old : Nat → Option (List Value)) : ExtOk (cx B0 old) := by
  intro f args v h0
  have h : extS f args = some v := h0
  clear h0
  unfold extS at h
  split at h
  · rename_i e
    have e := Nat.eq_of_beq_eq_true e
    subst e
    cases h
    refine ⟨rfl, fun φ N args' w ha => ?_⟩
    cases ha
    exact closedX 60 7 livesRun w
  · cases h
theorem wfz_i64 {n : Int} (h : (Lit.int .i64 n).wf = true) : -9223372036854775808 ≤ n ∧ n ≤ 9223372036854775807 := by
  simp [Lit.wf, IntKind.min, IntKind.max, IntKind.signed, IntKind.bits] at h; omega
theorem wfz_u64 {n : Int} (h : (Lit.int .u64 n).wf = true) : 0 ≤ n ∧ n ≤ 18446744073709551615 := by
  simp [Lit.wf, IntKind.min, IntKind.max, IntKind.signed, IntKind.bits] at h; omega
theorem wfz_u32 {n : Int} (h : (Lit.int .u32 n).wf = true) : 0 ≤ n ∧ n ≤ 4294967295 := by
  simp [Lit.wf, IntKind.min, IntKind.max, IntKind.signed, IntKind.bits] at h; omega
theorem wfz_u8 {n : Int} (h : (Lit.int .u8 n).wf = true) : 0 ≤ n ∧ n ≤ 255 := by
  simp [Lit.wf, IntKind.min, IntKind.max, IntKind.signed, IntKind.bits] at h; omega
theorem lv37 : leaves Tryz.prog 10 37 = some [37] := by kernel_rfl
theorem lv39 : leaves Tryz.prog 10 39 = some [39] := by kernel_rfl
theorem lv114 : leaves Tryz.prog 10 114 = some [5, 5, 5, 5, 5, 5, 5, 5] := by kernel_rfl
theorem lv52 : leaves Tryz.prog 10 52 = some [3, 34, 5, 5, 5, 5, 5, 5, 5, 5, 5, 5, 37, 38, 39, 4, 39, 3, 39, 37, 37, 3, 44, 39, 4, 37, 4, 37, 4, 39, 45, 46, 3, 37, 39, 39, 39, 4] := by kernel_rfl
theorem lv54 : leaves Tryz.prog 10 54 = some [3, 3, 34, 5, 5, 5, 5, 5, 5, 5, 5, 5, 5, 37, 38, 39, 4, 39, 3, 39, 37, 37, 3, 44, 39, 4, 37, 4, 37, 4, 39, 45, 46, 3, 37, 39, 39, 39, 4] := by kernel_rfl
section
variable {H : Type} {enc : TypeId × Value → H} {W : World} {base : Nat} {spare : Nat → Bool} {held : Bool}
theorem u32_read {hs fuel : Nat} {cs : List Value} {x : DataW H × List MemPlace} (h : DataW.trod enc Tryz.prog W base spare held fuel 37 cs = some x) : cs.length = 1 ∧ ∃ p : Int, cs.map (normV hs) = enU p ∧ True := by
  have hh := leaves_ok 10 37 _ lv37 _ _ _ h
  refine ⟨hh.1, ?_⟩
  obtain ⟨v0, cs0, rfl, l0, h0⟩ := LeafOk.next hh
  obtain rfl := LeafOk.done h0
  obtain ⟨n0, rfl, w0⟩ := leaf_int (k := .u32) Tryz.underlying37 l0
  exact ⟨n0, rfl, trivial⟩
theorem ip_read {hs fuel : Nat} {cs : List Value} {x : DataW H × List MemPlace} (h : DataW.trod enc Tryz.prog W base spare held fuel 39 cs = some x) : cs.length = 1 ∧ ∃ p : Int, cs.map (normV hs) = enU p ∧ True := by
  have hh := leaves_ok 10 39 _ lv39 _ _ _ h
  refine ⟨hh.1, ?_⟩
  obtain ⟨v0, cs0, rfl, l0, h0⟩ := LeafOk.next hh
  obtain rfl := LeafOk.done h0
  obtain ⟨n0, rfl, w0⟩ := leaf_int (k := .u32) Tryz.underlying39 l0
  exact ⟨n0, rfl, trivial⟩
theorem comm_read {hs fuel : Nat} {cs : List Value} {x : DataW H × List MemPlace} (h : DataW.trod enc Tryz.prog W base spare held fuel 114 cs = some x) : cs.length = 8 ∧ ∃ p : C8, cs.map (normV hs) = enC p ∧ True := by
  have hh := leaves_ok 10 114 _ lv114 _ _ _ h
  refine ⟨hh.1, ?_⟩
  obtain ⟨v0, cs0, rfl, l0, h0⟩ := LeafOk.next hh
  obtain ⟨v1, cs1, rfl, l1, h1⟩ := LeafOk.next h0
  obtain ⟨v2, cs2, rfl, l2, h2⟩ := LeafOk.next h1
  obtain ⟨v3, cs3, rfl, l3, h3⟩ := LeafOk.next h2
  obtain ⟨v4, cs4, rfl, l4, h4⟩ := LeafOk.next h3
  obtain ⟨v5, cs5, rfl, l5, h5⟩ := LeafOk.next h4
  obtain ⟨v6, cs6, rfl, l6, h6⟩ := LeafOk.next h5
  obtain ⟨v7, cs7, rfl, l7, h7⟩ := LeafOk.next h6
  obtain rfl := LeafOk.done h7
  obtain ⟨n0, rfl, w0⟩ := leaf_int (k := .u8) Tryz.underlying5 l0
  obtain ⟨n1, rfl, w1⟩ := leaf_int (k := .u8) Tryz.underlying5 l1
  obtain ⟨n2, rfl, w2⟩ := leaf_int (k := .u8) Tryz.underlying5 l2
  obtain ⟨n3, rfl, w3⟩ := leaf_int (k := .u8) Tryz.underlying5 l3
  obtain ⟨n4, rfl, w4⟩ := leaf_int (k := .u8) Tryz.underlying5 l4
  obtain ⟨n5, rfl, w5⟩ := leaf_int (k := .u8) Tryz.underlying5 l5
  obtain ⟨n6, rfl, w6⟩ := leaf_int (k := .u8) Tryz.underlying5 l6
  obtain ⟨n7, rfl, w7⟩ := leaf_int (k := .u8) Tryz.underlying5 l7
  exact ⟨⟨n0, n1, n2, n3, n4, n5, n6, n7⟩, rfl, trivial⟩
theorem route_readW {fuel : Nat} {cs : List Value} {x : DataW H × List MemPlace} (h : DataW.trod enc Tryz.prog W 0 spare held fuel 52 cs = some x) : cs.length = 38 ∧ ∃ r : Rw, cs.map (normV W.heap.size) = enW r ∧ okAc (cx (W.heap.size + 1) (oldW W)) [] ⟨0, r⟩ := by
  have hh := leaves_ok 10 52 _ lv52 _ _ _ h
  clear h
  refine ⟨hh.1, ?_⟩
  obtain ⟨v0, cs0, rfl, l0, h0⟩ := LeafOk.next hh
  obtain ⟨v1, cs1, rfl, l1, h1⟩ := LeafOk.next h0
  obtain ⟨v2, cs2, rfl, l2, h2⟩ := LeafOk.next h1
  obtain ⟨v3, cs3, rfl, l3, h3⟩ := LeafOk.next h2
  obtain ⟨v4, cs4, rfl, l4, h4⟩ := LeafOk.next h3
  obtain ⟨v5, cs5, rfl, l5, h5⟩ := LeafOk.next h4
  obtain ⟨v6, cs6, rfl, l6, h6⟩ := LeafOk.next h5
  obtain ⟨v7, cs7, rfl, l7, h7⟩ := LeafOk.next h6
  obtain ⟨v8, cs8, rfl, l8, h8⟩ := LeafOk.next h7
  obtain ⟨v9, cs9, rfl, l9, h9⟩ := LeafOk.next h8
  obtain ⟨v10, cs10, rfl, l10, h10⟩ := LeafOk.next h9
  obtain ⟨v11, cs11, rfl, l11, h11⟩ := LeafOk.next h10
  obtain ⟨v12, cs12, rfl, l12, h12⟩ := LeafOk.next h11
  obtain ⟨v13, cs13, rfl, l13, h13⟩ := LeafOk.next h12
  obtain ⟨v14, cs14, rfl, l14, h14⟩ := LeafOk.next h13
  obtain ⟨v15, cs15, rfl, l15, h15⟩ := LeafOk.next h14
  obtain ⟨v16, cs16, rfl, l16, h16⟩ := LeafOk.next h15
  obtain ⟨v17, cs17, rfl, l17, h17⟩ := LeafOk.next h16
  obtain ⟨v18, cs18, rfl, l18, h18⟩ := LeafOk.next h17
  obtain ⟨v19, cs19, rfl, l19, h19⟩ := LeafOk.next h18
  obtain ⟨v20, cs20, rfl, l20, h20⟩ := LeafOk.next h19
  obtain ⟨v21, cs21, rfl, l21, h21⟩ := LeafOk.next h20
  obtain ⟨v22, cs22, rfl, l22, h22⟩ := LeafOk.next h21
  obtain ⟨v23, cs23, rfl, l23, h23⟩ := LeafOk.next h22
  obtain ⟨v24, cs24, rfl, l24, h24⟩ := LeafOk.next h23
  obtain ⟨v25, cs25, rfl, l25, h25⟩ := LeafOk.next h24
  obtain ⟨v26, cs26, rfl, l26, h26⟩ := LeafOk.next h25
  obtain ⟨v27, cs27, rfl, l27, h27⟩ := LeafOk.next h26
  obtain ⟨v28, cs28, rfl, l28, h28⟩ := LeafOk.next h27
  obtain ⟨v29, cs29, rfl, l29, h29⟩ := LeafOk.next h28
  obtain ⟨v30, cs30, rfl, l30, h30⟩ := LeafOk.next h29
  obtain ⟨v31, cs31, rfl, l31, h31⟩ := LeafOk.next h30
  obtain ⟨v32, cs32, rfl, l32, h32⟩ := LeafOk.next h31
  obtain ⟨v33, cs33, rfl, l33, h33⟩ := LeafOk.next h32
  obtain ⟨v34, cs34, rfl, l34, h34⟩ := LeafOk.next h33
  obtain ⟨v35, cs35, rfl, l35, h35⟩ := LeafOk.next h34
  obtain ⟨v36, cs36, rfl, l36, h36⟩ := LeafOk.next h35
  obtain ⟨v37, cs37, rfl, l37, h37⟩ := LeafOk.next h36
  obtain rfl := LeafOk.done h37
  obtain ⟨n0, rfl, w0⟩ := leaf_int (k := .i64) Tryz.underlying3 l0
  obtain ⟨n1, rfl, w1⟩ := leaf_int (k := .u64) Tryz.underlying34 l1
  obtain ⟨n2, rfl, w2⟩ := leaf_int (k := .u8) Tryz.underlying5 l2
  obtain ⟨n3, rfl, w3⟩ := leaf_int (k := .u8) Tryz.underlying5 l3
  obtain ⟨n4, rfl, w4⟩ := leaf_int (k := .u8) Tryz.underlying5 l4
  obtain ⟨n5, rfl, w5⟩ := leaf_int (k := .u8) Tryz.underlying5 l5
  obtain ⟨n6, rfl, w6⟩ := leaf_int (k := .u8) Tryz.underlying5 l6
  obtain ⟨n7, rfl, w7⟩ := leaf_int (k := .u8) Tryz.underlying5 l7
  obtain ⟨n8, rfl, w8⟩ := leaf_int (k := .u8) Tryz.underlying5 l8
  obtain ⟨n9, rfl, w9⟩ := leaf_int (k := .u8) Tryz.underlying5 l9
  obtain ⟨n10, rfl, w10⟩ := leaf_int (k := .u8) Tryz.underlying5 l10
  obtain ⟨n11, rfl, w11⟩ := leaf_int (k := .u8) Tryz.underlying5 l11
  obtain ⟨n12, rfl, w12⟩ := leaf_int (k := .u32) Tryz.underlying37 l12
  obtain ⟨n13, rfl, w13⟩ := leaf_int (k := .u64) Tryz.underlying38 l13
  obtain ⟨n14, rfl, w14⟩ := leaf_int (k := .u32) Tryz.underlying39 l14
  obtain ⟨n15, rfl⟩ := leaf_bool Tryz.underlying4 l15
  obtain ⟨n16, rfl, w16⟩ := leaf_int (k := .u32) Tryz.underlying39 l16
  obtain ⟨n17, rfl, w17⟩ := leaf_int (k := .i64) Tryz.underlying3 l17
  obtain ⟨n18, rfl, w18⟩ := leaf_int (k := .u32) Tryz.underlying39 l18
  obtain ⟨n19, rfl, w19⟩ := leaf_int (k := .u32) Tryz.underlying37 l19
  obtain ⟨n20, rfl, w20⟩ := leaf_int (k := .u32) Tryz.underlying37 l20
  obtain ⟨n21, rfl, w21⟩ := leaf_int (k := .i64) Tryz.underlying3 l21
  obtain ⟨a22, c22, L22, e22, g22, m22, ar22, _⟩ := arr_read (C := cx (W.heap.size + 1) (oldW W)) (k := 1) (en := enU) (Pr := fun _ => True) rfl (fun _ => rfl) Tryz.underlying44 (by kernel_rfl) (by decide) (fun cs m y h => u32_read h) l22
  obtain ⟨n23, rfl, w23⟩ := leaf_int (k := .u32) Tryz.underlying39 l23
  obtain ⟨n24, rfl⟩ := leaf_bool Tryz.underlying4 l24
  obtain ⟨n25, rfl, w25⟩ := leaf_int (k := .u32) Tryz.underlying37 l25
  obtain ⟨n26, rfl⟩ := leaf_bool Tryz.underlying4 l26
  obtain ⟨n27, rfl, w27⟩ := leaf_int (k := .u32) Tryz.underlying37 l27
  obtain ⟨n28, rfl⟩ := leaf_bool Tryz.underlying4 l28
  obtain ⟨n29, rfl, w29⟩ := leaf_int (k := .u32) Tryz.underlying39 l29
  obtain ⟨a30, c30, L30, e30, g30, m30, ar30, _⟩ := arr_read (C := cx (W.heap.size + 1) (oldW W)) (k := 1) (en := enU) (Pr := fun _ => True) rfl (fun _ => rfl) Tryz.underlying45 (by kernel_rfl) (by decide) (fun cs m y h => ip_read h) l30
  obtain ⟨a31, c31, L31, e31, g31, m31, ar31, _⟩ := arr_read (C := cx (W.heap.size + 1) (oldW W)) (k := 8) (en := enC) (Pr := fun _ => True) rfl (fun _ => rfl) Tryz.underlying46 (by kernel_rfl) (by decide) (fun cs m y h => comm_read h) l31
  obtain ⟨n32, rfl, w32⟩ := leaf_int (k := .i64) Tryz.underlying3 l32
  obtain ⟨n33, rfl, w33⟩ := leaf_int (k := .u32) Tryz.underlying37 l33
  obtain ⟨n34, rfl, w34⟩ := leaf_int (k := .u32) Tryz.underlying39 l34
  obtain ⟨n35, rfl, w35⟩ := leaf_int (k := .u32) Tryz.underlying39 l35
  obtain ⟨n36, rfl, w36⟩ := leaf_int (k := .u32) Tryz.underlying39 l36
  obtain ⟨n37, rfl⟩ := leaf_bool Tryz.underlying4 l37
  refine ⟨⟨⟨⟨n0, n1, n2, n3, n4, n5, n6, n7, n8, n9, n10, n11, n12, n13, n14, n15, n16, n17, n18, n19, n20⟩, ⟨n21, L22, n23, n24, n25, n26, n27, n28, n29, L30, L31, n32, n33, n34, n35⟩, n36, n37⟩, a22, c22, a30, c30, a31, c31⟩, ?_, ⟨⟨wfz_i64 w0, wfz_u64 w1, wfz_u8 w2, wfz_u8 w3, wfz_u8 w4, wfz_u8 w5, wfz_u8 w6, wfz_u8 w7, wfz_u8 w8, wfz_u8 w9, wfz_u8 w10, wfz_u8 w11, wfz_u32 w12, wfz_u64 w13, wfz_u32 w14, wfz_u32 w16, wfz_i64 w17, wfz_u32 w18, wfz_u32 w19, wfz_u32 w20⟩, wfz_u32 w36, ⟨ar22.toW, ar30.toW, ar31.toW⟩⟩⟩
  simp only [List.map_cons, List.map_nil, e22, e30, e31]
  rfl
theorem act_readW {fuel : Nat} {cs : List Value} {x : DataW H × List MemPlace} (h : DataW.trod enc Tryz.prog W 0 spare held fuel 54 cs = some x) : cs.length = 39 ∧ ∃ r : Ac, cs.map (normV W.heap.size) = enAc r ∧ okAc (cx (W.heap.size + 1) (oldW W)) [] r := by
  have hh := leaves_ok 10 54 _ lv54 _ _ _ h
  clear h
  refine ⟨hh.1, ?_⟩
  obtain ⟨v0, cs0, rfl, l0, h0⟩ := LeafOk.next hh
  obtain ⟨v1, cs1, rfl, l1, h1⟩ := LeafOk.next h0
  obtain ⟨v2, cs2, rfl, l2, h2⟩ := LeafOk.next h1
  obtain ⟨v3, cs3, rfl, l3, h3⟩ := LeafOk.next h2
  obtain ⟨v4, cs4, rfl, l4, h4⟩ := LeafOk.next h3
  obtain ⟨v5, cs5, rfl, l5, h5⟩ := LeafOk.next h4
  obtain ⟨v6, cs6, rfl, l6, h6⟩ := LeafOk.next h5
  obtain ⟨v7, cs7, rfl, l7, h7⟩ := LeafOk.next h6
  obtain ⟨v8, cs8, rfl, l8, h8⟩ := LeafOk.next h7
  obtain ⟨v9, cs9, rfl, l9, h9⟩ := LeafOk.next h8
  obtain ⟨v10, cs10, rfl, l10, h10⟩ := LeafOk.next h9
  obtain ⟨v11, cs11, rfl, l11, h11⟩ := LeafOk.next h10
  obtain ⟨v12, cs12, rfl, l12, h12⟩ := LeafOk.next h11
  obtain ⟨v13, cs13, rfl, l13, h13⟩ := LeafOk.next h12
  obtain ⟨v14, cs14, rfl, l14, h14⟩ := LeafOk.next h13
  obtain ⟨v15, cs15, rfl, l15, h15⟩ := LeafOk.next h14
  obtain ⟨v16, cs16, rfl, l16, h16⟩ := LeafOk.next h15
  obtain ⟨v17, cs17, rfl, l17, h17⟩ := LeafOk.next h16
  obtain ⟨v18, cs18, rfl, l18, h18⟩ := LeafOk.next h17
  obtain ⟨v19, cs19, rfl, l19, h19⟩ := LeafOk.next h18
  obtain ⟨v20, cs20, rfl, l20, h20⟩ := LeafOk.next h19
  obtain ⟨v21, cs21, rfl, l21, h21⟩ := LeafOk.next h20
  obtain ⟨v22, cs22, rfl, l22, h22⟩ := LeafOk.next h21
  obtain ⟨v23, cs23, rfl, l23, h23⟩ := LeafOk.next h22
  obtain ⟨v24, cs24, rfl, l24, h24⟩ := LeafOk.next h23
  obtain ⟨v25, cs25, rfl, l25, h25⟩ := LeafOk.next h24
  obtain ⟨v26, cs26, rfl, l26, h26⟩ := LeafOk.next h25
  obtain ⟨v27, cs27, rfl, l27, h27⟩ := LeafOk.next h26
  obtain ⟨v28, cs28, rfl, l28, h28⟩ := LeafOk.next h27
  obtain ⟨v29, cs29, rfl, l29, h29⟩ := LeafOk.next h28
  obtain ⟨v30, cs30, rfl, l30, h30⟩ := LeafOk.next h29
  obtain ⟨v31, cs31, rfl, l31, h31⟩ := LeafOk.next h30
  obtain ⟨v32, cs32, rfl, l32, h32⟩ := LeafOk.next h31
  obtain ⟨v33, cs33, rfl, l33, h33⟩ := LeafOk.next h32
  obtain ⟨v34, cs34, rfl, l34, h34⟩ := LeafOk.next h33
  obtain ⟨v35, cs35, rfl, l35, h35⟩ := LeafOk.next h34
  obtain ⟨v36, cs36, rfl, l36, h36⟩ := LeafOk.next h35
  obtain ⟨v37, cs37, rfl, l37, h37⟩ := LeafOk.next h36
  obtain ⟨v38, cs38, rfl, l38, h38⟩ := LeafOk.next h37
  obtain rfl := LeafOk.done h38
  obtain ⟨n0, rfl, w0⟩ := leaf_int (k := .i64) Tryz.underlying3 l0
  obtain ⟨n1, rfl, w1⟩ := leaf_int (k := .i64) Tryz.underlying3 l1
  obtain ⟨n2, rfl, w2⟩ := leaf_int (k := .u64) Tryz.underlying34 l2
  obtain ⟨n3, rfl, w3⟩ := leaf_int (k := .u8) Tryz.underlying5 l3
  obtain ⟨n4, rfl, w4⟩ := leaf_int (k := .u8) Tryz.underlying5 l4
  obtain ⟨n5, rfl, w5⟩ := leaf_int (k := .u8) Tryz.underlying5 l5
  obtain ⟨n6, rfl, w6⟩ := leaf_int (k := .u8) Tryz.underlying5 l6
  obtain ⟨n7, rfl, w7⟩ := leaf_int (k := .u8) Tryz.underlying5 l7
  obtain ⟨n8, rfl, w8⟩ := leaf_int (k := .u8) Tryz.underlying5 l8
  obtain ⟨n9, rfl, w9⟩ := leaf_int (k := .u8) Tryz.underlying5 l9
  obtain ⟨n10, rfl, w10⟩ := leaf_int (k := .u8) Tryz.underlying5 l10
  obtain ⟨n11, rfl, w11⟩ := leaf_int (k := .u8) Tryz.underlying5 l11
  obtain ⟨n12, rfl, w12⟩ := leaf_int (k := .u8) Tryz.underlying5 l12
  obtain ⟨n13, rfl, w13⟩ := leaf_int (k := .u32) Tryz.underlying37 l13
  obtain ⟨n14, rfl, w14⟩ := leaf_int (k := .u64) Tryz.underlying38 l14
  obtain ⟨n15, rfl, w15⟩ := leaf_int (k := .u32) Tryz.underlying39 l15
  obtain ⟨n16, rfl⟩ := leaf_bool Tryz.underlying4 l16
  obtain ⟨n17, rfl, w17⟩ := leaf_int (k := .u32) Tryz.underlying39 l17
  obtain ⟨n18, rfl, w18⟩ := leaf_int (k := .i64) Tryz.underlying3 l18
  obtain ⟨n19, rfl, w19⟩ := leaf_int (k := .u32) Tryz.underlying39 l19
  obtain ⟨n20, rfl, w20⟩ := leaf_int (k := .u32) Tryz.underlying37 l20
  obtain ⟨n21, rfl, w21⟩ := leaf_int (k := .u32) Tryz.underlying37 l21
  obtain ⟨n22, rfl, w22⟩ := leaf_int (k := .i64) Tryz.underlying3 l22
  obtain ⟨a23, c23, L23, e23, g23, m23, ar23, _⟩ := arr_read (C := cx (W.heap.size + 1) (oldW W)) (k := 1) (en := enU) (Pr := fun _ => True) rfl (fun _ => rfl) Tryz.underlying44 (by kernel_rfl) (by decide) (fun cs m y h => u32_read h) l23
  obtain ⟨n24, rfl, w24⟩ := leaf_int (k := .u32) Tryz.underlying39 l24
  obtain ⟨n25, rfl⟩ := leaf_bool Tryz.underlying4 l25
  obtain ⟨n26, rfl, w26⟩ := leaf_int (k := .u32) Tryz.underlying37 l26
  obtain ⟨n27, rfl⟩ := leaf_bool Tryz.underlying4 l27
  obtain ⟨n28, rfl, w28⟩ := leaf_int (k := .u32) Tryz.underlying37 l28
  obtain ⟨n29, rfl⟩ := leaf_bool Tryz.underlying4 l29
  obtain ⟨n30, rfl, w30⟩ := leaf_int (k := .u32) Tryz.underlying39 l30
  obtain ⟨a31, c31, L31, e31, g31, m31, ar31, _⟩ := arr_read (C := cx (W.heap.size + 1) (oldW W)) (k := 1) (en := enU) (Pr := fun _ => True) rfl (fun _ => rfl) Tryz.underlying45 (by kernel_rfl) (by decide) (fun cs m y h => ip_read h) l31
  obtain ⟨a32, c32, L32, e32, g32, m32, ar32, _⟩ := arr_read (C := cx (W.heap.size + 1) (oldW W)) (k := 8) (en := enC) (Pr := fun _ => True) rfl (fun _ => rfl) Tryz.underlying46 (by kernel_rfl) (by decide) (fun cs m y h => comm_read h) l32
  obtain ⟨n33, rfl, w33⟩ := leaf_int (k := .i64) Tryz.underlying3 l33
  obtain ⟨n34, rfl, w34⟩ := leaf_int (k := .u32) Tryz.underlying37 l34
  obtain ⟨n35, rfl, w35⟩ := leaf_int (k := .u32) Tryz.underlying39 l35
  obtain ⟨n36, rfl, w36⟩ := leaf_int (k := .u32) Tryz.underlying39 l36
  obtain ⟨n37, rfl, w37⟩ := leaf_int (k := .u32) Tryz.underlying39 l37
  obtain ⟨n38, rfl⟩ := leaf_bool Tryz.underlying4 l38
  refine ⟨⟨n0, ⟨⟨⟨n1, n2, n3, n4, n5, n6, n7, n8, n9, n10, n11, n12, n13, n14, n15, n16, n17, n18, n19, n20, n21⟩, ⟨n22, L23, n24, n25, n26, n27, n28, n29, n30, L31, L32, n33, n34, n35, n36⟩, n37, n38⟩, a23, c23, a31, c31, a32, c32⟩⟩, ?_, ⟨⟨wfz_i64 w1, wfz_u64 w2, wfz_u8 w3, wfz_u8 w4, wfz_u8 w5, wfz_u8 w6, wfz_u8 w7, wfz_u8 w8, wfz_u8 w9, wfz_u8 w10, wfz_u8 w11, wfz_u8 w12, wfz_u32 w13, wfz_u64 w14, wfz_u32 w15, wfz_u32 w17, wfz_i64 w18, wfz_u32 w19, wfz_u32 w20, wfz_u32 w21⟩, wfz_u32 w37, ⟨ar23.toW, ar31.toW, ar32.toW⟩⟩⟩
  simp only [List.map_cons, List.map_nil, e23, e31, e32]
  rfl
end
end Go.Proofs.YtphadapcafibpaaGreat.Abs
