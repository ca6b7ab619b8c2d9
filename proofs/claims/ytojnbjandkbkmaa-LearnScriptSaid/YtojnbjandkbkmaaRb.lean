/- The laws' helpers: numbers that are picked, tables that are filled. -/
import Derived.Test.YtojnbjandkbkmaaQv
import Derived.Test.YtojnbjandkbkmaaTop
namespace Go.Proofs.Ytojnbjandkbkmaa.Abs
open Go
set_option linter.unusedVariables false
theorem rmN_len (k : Kk) (L : List S37) : (rmN k L).length ≤ L.length := List.length_filter_le _ _
theorem putN_len (L : List S37) (e : S37) : (putN L e).length ≤ L.length + 1 := by
  unfold putN
  rw [(insN_perm _ _).length_eq, List.length_cons, List.length_map]
  have := rmN_len (kOf e) L
  omega
theorem learnN_len (L : List S37) (e : S37) (fz : Bool) : (learnN L e fz).1.length ≤ L.length + 1 := by
  unfold learnN
  split
  · exact Nat.le_succ _
  · split
    · split
      · exact Nat.le_succ _
      · exact putN_len _ _
    · split
      · exact Nat.le_succ _
      · exact putN_len _ _
section
variable {B0 : Nat} {old : Nat → Option (List Value)} {n : Nat} {H G : Hp} {Q : Value → Hp → Prop} {v : Value} {age : Int} {L A B : List S37}
set_option maxRecDepth 10000
set_option maxHeartbeats 8000000
theorem pick14_ct (x m : Int) (h0 : 0 < m) (hm : m ≤ 4611686018427387904) (hQ : ∀ r : Int, 0 ≤ r → r < m → Q (.int .i64 r) H) : CallT (cx B0 old) (acall (cx B0 old) ansP (n + 1)) 14 [.int .i64 x, .int .i64 m] H Q := by
  refine call_in2 14 rfl Try.func14 rfl rfl ?_
  have h1 := Int.tmod_lt_of_pos x h0
  have h2 := Int.lt_tmod_of_pos x h0
  repeat (first | refine Z0 ?_ | (refine ZR ?_; first | refine x1 ?_ | refine x2 ?_ | refine x8 ?_ | refine Z1 ?_ | refine Z2 ?_ | refine x3 fun _ => ?_ | refine x4 fun _ => ?_ | refine x5 fun _ => ?_ | refine Z3 fun _ => ?_ | refine Z4 fun _ => ?_) | refine ZC ?_)
  apply rt_p rfl rfl rfl
  case hp => exact p_rem rfl rfl (by omega)
  generalize x.tmod m = r at *
  repeat (first | refine Z0 ?_ | (refine ZR ?_; first | refine x1 ?_ | refine x2 ?_ | refine x8 ?_ | refine Z1 ?_ | refine Z2 ?_ | refine x3 fun _ => ?_ | refine x4 fun _ => ?_ | refine x5 fun _ => ?_ | refine Z3 fun _ => ?_ | refine Z4 fun _ => ?_) | refine ZC ?_)
  refine ct_condT te_d rfl (fun hc => ?_) (fun hc => ?_)
  · repeat (first | refine Z0 ?_ | (refine ZR ?_; first | refine x1 ?_ | refine x2 ?_ | refine x8 ?_ | refine Z1 ?_ | refine Z2 ?_ | refine x3 fun _ => ?_ | refine x4 fun _ => ?_ | refine x5 fun _ => ?_ | refine Z3 fun _ => ?_ | refine Z4 fun _ => ?_) | refine ZC ?_)
    exact re_1 rfl rfl (List.Sublist.refl _) (hQ _ (by omega) (by omega))
  · repeat (first | refine Z0 ?_ | (refine ZR ?_; first | refine x1 ?_ | refine x2 ?_ | refine x8 ?_ | refine Z1 ?_ | refine Z2 ?_ | refine x3 fun _ => ?_ | refine x4 fun _ => ?_ | refine x5 fun _ => ?_ | refine Z3 fun _ => ?_ | refine Z4 fun _ => ?_) | refine ZC ?_)
    exact re_1 rfl rfl (List.Sublist.refl _) (hQ _ (by omega) (by omega))
end
end Go.Proofs.Ytojnbjandkbkmaa.Abs

/- The reference's table: plain laws; contracts of New, check, at, Lookup, Find. -/
namespace Go.Proofs.Ytojnbjandkbkmaa.Abs
open Go
set_option linter.unusedVariables false
theorem srtR_lt {L : List S37} (h : SrtN L) {i j : Nat} {x y : S37} (hx : L[i]? = some x) (hy : L[j]? = some y) (hij : i < j) : rkN x < rkN y := by
  unfold SrtN at h
  obtain ⟨hi, rfl⟩ := List.getElem?_eq_some_iff.1 hx
  obtain ⟨hj, rfl⟩ := List.getElem?_eq_some_iff.1 hy
  have h1 := List.pairwise_iff_getElem.1 h i j (by rwa [List.length_map]) (by rwa [List.length_map]) hij
  rwa [List.getElem_map, List.getElem_map] at h1
theorem rmN_none {L : List S37} {k : Kk} (h : ∀ x ∈ L, kOf x ≠ k) : rmN k L = L := List.filter_eq_self.2 fun x hx => decide_eq_true (h x hx)
theorem rmN_at {L : List S37} (h : SrtN L) {i : Nat} {x : S37} {k : Kk} (hx : L[i]? = some x) (hk : kOf x = k) : rmN k L = L.take i ++ L.drop (i + 1) := by
  obtain ⟨hi, hxi⟩ := List.getElem?_eq_some_iff.1 hx
  have hne : ∀ y, rkN y ≠ rkN x → kOf y ≠ k := fun y hy e => hy (by unfold rkN; rw [e, hk])
  have e1 : L = L.take i ++ x :: L.drop (i + 1) := by
    conv => lhs; rw [← List.take_append_drop i L, List.drop_eq_getElem_cons hi, hxi]
  have h1 : rmN k (L.take i) = L.take i := rmN_none fun y hy => hne y (by
    obtain ⟨j, hj⟩ := List.mem_iff_getElem?.1 hy
    have hji : j < i := by
      have := (List.getElem?_eq_some_iff.1 hj).1
      rw [List.length_take] at this
      omega
    rw [List.getElem?_take_of_lt hji] at hj
    have := srtR_lt h hj hx hji
    omega)
  have h2 : rmN k (L.drop (i + 1)) = L.drop (i + 1) := rmN_none fun y hy => hne y (by
    obtain ⟨j, hj⟩ := List.mem_iff_getElem?.1 hy
    rw [List.getElem?_drop] at hj
    have := srtR_lt h hx hj (by omega)
    omega)
  conv => lhs; rw [e1]
  unfold rmN at h1 h2 ⊢
  rw [List.filter_append, List.filter_cons_of_neg (by simp [hk]), h1, h2]
theorem ins_take {e : S37} : ∀ {L : List S37} {k : Nat}, k ≤ L.length → (∀ j x, j < k → L[j]? = some x → rkN x < rkN e) → (∀ x, L[k]? = some x → ¬ rkN x < rkN e) → insN e L = L.take k ++ e :: L.drop k
  | [], k, hk, _, _ => by
    obtain rfl : k = 0 := by simpa using hk
    rfl
  | x :: l, 0, _, _, h2 => by
    unfold insN
    rw [if_neg (h2 x rfl)]
    rfl
  | x :: l, k + 1, hk, h1, h2 => by
    unfold insN
    rw [if_pos (h1 0 x (by omega) rfl), ins_take (k := k) (by simpa using hk) (fun j y hj hy => h1 (j + 1) y (by omega) (by simpa using hy)) (fun y hy => h2 y (by simpa using hy))]
    rfl
theorem find_first {p : S37 → Bool} {L : List S37} {i : Nat} {x : S37} (hx : L[i]? = some x) (hp : p x = true) (h : ∀ j y, j < i → L[j]? = some y → p y = false) : L.find? p = some x := by
  induction L generalizing i with
  | nil => simp at hx
  | cons a l ih =>
    cases i with
    | zero =>
      obtain rfl : a = x := by simpa using hx
      rw [List.find?_cons_of_pos hp]
    | succ i =>
      rw [List.find?_cons_of_neg (by rw [h 0 a (by omega) rfl]; decide)]
      exact ih (i := i) (by simpa using hx) (fun j y hj hy => h (j + 1) y (by omega) (by simpa using hy))
theorem rk_less {x e : S37} (hx : x.wf) (he : e.wf) : rkN x < rkN e ↔ x.a0 < e.a0 ∨ x.a0 = e.a0 ∧ x.a2 < e.a2 := by
  have h1 := hx.2.2.1
  have h2 := he.2.2.1
  unfold rkN rkK kOf
  dsimp only
  omega
theorem kOf_mk {x : S37} {bd mac : Int} (h0 : x.a0 = bd) (h2 : x.a2 = mac) : kOf x = ⟨bd, mac⟩ := by unfold kOf; rw [h0, h2]
section
variable {B0 : Nat} {old : Nat → Option (List Value)} {n : Nat} {H G : Hp} {Q : Value → Hp → Prop} {v : Value} {ol : Int} {L A : List S37} {a : S37} {i w q c : Nat} {ad : Option Addr} {C : Ctx} {en : S37 → List Value}
theorem arr_ldR (h : Arr C H ad w en L) (t : TypeId) (f : Nat) {v : Value} (hi : L[i]? = some a) (hv : (en a)[f]? = some v) (hf : Nat.blt f w = true) (hg : aggAt C t = some false) {n : Nat} (hn : sizeAt C t = some n) : ∃ b o, ad = some ⟨b, o, none⟩ ∧ ∀ H', H.Sublist H' → LdT C t H' b (o + i * w + f) v := by
  obtain ⟨b, o, e, h1⟩ := h.fld hi
  refine ⟨b, o, e, fun H' hs => ?_⟩
  unfold LdT
  exact fun l y hy => h1 f n v t H' l y hs hv (Nat.le_of_ble_eq_true hf) hg hn hy
theorem row_ld {b off : Nat} {cs : List Value} {es : Nat} {el : Bool} (hm : (b, AObj.row cs es el) ∈ H) (t : TypeId) (hv : cs[off]? = some v) (hg : aggAt C t = some false) {n : Nat} (hn : sizeAt C t = some n) : ∀ H', H.Sublist H' → LdT C t H' b off v := fun H' hs => by
  unfold LdT
  exact fun l y hy => rd_load1 hy (.own _ _ (hs.subset hm)) hg hn hv
set_option maxRecDepth 10000
set_option maxHeartbeats 4000000
theorem rnew13_ct (a : Int) (hbad : (a < 1 ∨ a > 1073741824) → Q (.tuple #[.pointer none, .int .i64 2]) H) (hok : 1 ≤ a ∧ a ≤ 1073741824 → ∀ q, Q (.tuple #[.pointer (some ⟨q, 0, none⟩), .int .i64 0]) ((q, .row [.int .i64 a, .slice none 0 0] 2 false) :: H)) :
    CallT (cx B0 old) (acall (cx B0 old) ansP (n + 1)) 13 [.int .i64 a] H Q := by
  refine call_in1 13 rfl Try.func13 rfl rfl ?_
  repeat (first | refine Z0 ?_ | (refine ZR ?_; first | refine x1 ?_ | refine x2 ?_ | refine x8 ?_ | refine Z1 ?_ | refine Z2 ?_ | refine x3 fun _ => ?_ | refine x4 fun _ => ?_ | refine x5 fun _ => ?_ | refine Z3 fun _ => ?_ | refine Z4 fun _ => ?_) | refine ZC ?_)
  by_cases h1 : a < 1
  · rw [show decide (a < 1) = true from decide_eq_true h1]
    repeat (first | refine Z0 ?_ | (refine ZR ?_; first | refine x1 ?_ | refine x2 ?_ | refine x8 ?_ | refine Z1 ?_ | refine Z2 ?_ | refine x3 fun _ => ?_ | refine x4 fun _ => ?_ | refine x5 fun _ => ?_ | refine Z3 fun _ => ?_ | refine Z4 fun _ => ?_) | refine ZC ?_)
    exact re_2 rfl rfl rfl (List.Sublist.refl _) (hbad (.inl h1))
  · rw [show decide (a < 1) = false from decide_eq_false h1]
    repeat (first | refine Z0 ?_ | (refine ZR ?_; first | refine x1 ?_ | refine x2 ?_ | refine x8 ?_ | refine Z1 ?_ | refine Z2 ?_ | refine x3 fun _ => ?_ | refine x4 fun _ => ?_ | refine x5 fun _ => ?_ | refine Z3 fun _ => ?_ | refine Z4 fun _ => ?_) | refine ZC ?_)
    refine ct_condT te_d rfl (fun h2 => ?_) (fun h2 => ?_)
    · repeat (first | refine Z0 ?_ | (refine ZR ?_; first | refine x1 ?_ | refine x2 ?_ | refine x8 ?_ | refine Z1 ?_ | refine Z2 ?_ | refine x3 fun _ => ?_ | refine x4 fun _ => ?_ | refine x5 fun _ => ?_ | refine Z3 fun _ => ?_ | refine Z4 fun _ => ?_) | refine ZC ?_)
      exact re_2 rfl rfl rfl (List.Sublist.refl _) (hbad (.inr h2))
    · repeat (first | refine Z0 ?_ | (refine ZR ?_; first | refine x1 ?_ | refine x2 ?_ | refine x8 ?_ | refine Z1 ?_ | refine Z2 ?_ | refine x3 fun _ => ?_ | refine x4 fun _ => ?_ | refine x5 fun _ => ?_ | refine Z3 fun _ => ?_ | refine Z4 fun _ => ?_) | refine ZC ?_)
      exact re_2 rfl rfl rfl (List.Sublist.refl _) (hok ⟨by omega, by omega⟩ _)
theorem rcheck37_ct (x : S37) (hw : x.wf) (h : Q (.int .i64 (chkN x)) H) : CallT (cx B0 old) (acall (cx B0 old) ansP (n + 1)) 37 [.agg ⟨en37 x⟩] H Q := by
  refine call_in1 56 rfl Try.func37 rfl rfl ?_
  have h' : ∀ r, chkN x = r → Q (.int .i64 r) H := fun r e => e ▸ h
  clear h
  unfold S37.wf at hw
  unfold chkN b40 at h'
  obtain ⟨a0, a1, a2, a3, a4, a5⟩ := x
  dsimp only at hw h'
  unfold en37
  dsimp only
  cases a4
  all_goals repeat' (first | refine Z0 ?_ | (refine ZR ?_; first | refine x1 ?_ | refine x2 ?_ | refine x8 ?_ | refine Z1 ?_ | refine Z2 ?_ | refine x3 fun _ => ?_ | refine x4 fun _ => ?_ | refine x5 fun _ => ?_ | refine Z3 fun _ => ?_ | refine Z4 fun _ => ?_) | refine Za ?_ | refine Zb ?_ | refine Zl ?_ | refine Zc ?_ | refine Ze ?_ | refine Zi ?_ | refine Zj ?_ | refine Zf ?_ | refine Zg ?_ | refine Zm ?_ | refine Zn ?_ | refine Zo ?_ | refine Zp ?_ | refine Zq ?_ | refine Zr ?_ | refine Zk ?_ | refine Y0 ?_ | (refine YP ?_; first | refine y1 ?_ | refine y2 ?_ | refine Y1 ?_ | refine Y2 ?_) | (refine isPlan ?_; refine y3 ?_) | (first | (refine isRun ?_; refine z1 (fun hc => ?_) (fun hc => ?_)) | refine z2 (fun hc => ?_) (fun hc => ?_) | (refine isPlan ?_; refine z3 (fun hc => ?_) (fun hc => ?_))))
  all_goals refine re_1 rfl rfl (by exact drop_auto) (h' _ ?_)
  all_goals first
    | (rw [if_pos (by omega)]; done)
    | (rw [if_neg (by omega), if_pos (by first | (left; omega) | (right; left; omega) | (right; right; left; assumption) | (right; right; right; simp_all; done))]; done)
    | (rw [if_neg (by omega), if_neg (by intro g; rcases g with g | g | g | g <;> first | omega | contradiction | (simp_all; done))]; done)
    | skip
theorem rat38_ct (hq : (q, AObj.row [.int .i64 ol, .slice ad L.length c] 2 false) ∈ H) (ha : Arr (cx B0 old) H ad 6 en37 L) (hl : L.length ≤ 100000) (bd mac : Int)
    (hyes : ∀ (i : Nat) x, L[i]? = some x → kOf x = ⟨bd, mac⟩ → Q (.int .i64 (i : Int)) H) (hno : (∀ x ∈ L, kOf x ≠ ⟨bd, mac⟩) → Q (.int .i64 (-1)) H) :
    CallT (cx B0 old) (acall (cx B0 old) ansP (n + 1)) 38 [.pointer (some ⟨q, 0, none⟩), .int .i64 bd, .int .u64 mac] H Q := by
  refine call_in3 40 rfl Try.func38 rfl rfl ?_
  have hL0 := row_ld (C := cx B0 old) (off := 1) hq 22 rfl rfl (sz rfl)
  repeat (first | refine Z0 ?_ | (refine ZR ?_; first | refine x1 ?_ | refine x2 ?_ | refine x8 ?_ | refine Z1 ?_ | refine Z2 ?_ | refine x3 fun _ => ?_ | refine x4 fun _ => ?_ | refine x5 fun _ => ?_ | refine Z3 fun _ => ?_ | refine Z4 fun _ => ?_) | refine ZC ?_)
  refine loop_ind (ι := Nat) 0 (fun i => L.length - i) (fun i => i ≤ L.length ∧ ∀ j x, j < i → L[j]? = some x → kOf x ≠ ⟨bd, mac⟩) (fun i => [(7, .int .i64 (i : Int)), (0, .pointer (some ⟨q, 0, none⟩)), (1, .int .i64 bd), (2, .int .u64 mac)]) (fun _ => H) ⟨Nat.zero_le _, fun j x hj => absurd hj (by omega)⟩ (by repeat (first | exact SubL.nil | refine SubL.cons rfl ?_)) (List.Sublist.refl _) ?_
  rintro i ⟨hi, hall⟩
  repeat (first | refine Z0 ?_ | (refine ZR ?_; first | refine x1 ?_ | refine x2 ?_ | refine x8 ?_ | refine Z1 ?_ | refine Z2 ?_ | refine x3 fun _ => ?_ | refine x4 fun _ => ?_ | refine x5 fun _ => ?_ | refine Z3 fun _ => ?_ | refine Z4 fun _ => ?_) | refine ZC ?_)
  refine ct_condT te_d rfl (fun hlt => ?_) (fun hlt => ?_)
  · obtain ⟨x, hx⟩ : ∃ x, L[i]? = some x := ⟨_, List.getElem?_eq_getElem (by omega)⟩
    obtain ⟨b1, o1, e1, hL1⟩ := arr_ldR ha 3 0 hx rfl rfl rfl (sz rfl)
    subst e1
    obtain ⟨b2, o2, e2, hL2⟩ := arr_ldR ha 33 2 hx rfl rfl rfl (sz rfl)
    cases e2
    repeat (first | refine Z0 ?_ | (refine ZR ?_; first | refine x1 ?_ | refine x2 ?_ | refine x8 ?_ | refine Z1 ?_ | refine Z2 ?_ | refine x3 fun _ => ?_ | refine x4 fun _ => ?_ | refine x5 fun _ => ?_ | refine Z3 fun _ => ?_ | refine Z4 fun _ => ?_) | refine ZC ?_)
    have hstep : kOf x ≠ ⟨bd, mac⟩ → ∀ j y, j < i + 1 → L[j]? = some y → kOf y ≠ ⟨bd, mac⟩ := fun hne j y hj hy => by
      by_cases e : j = i
      · subst e
        obtain rfl := Option.some.inj (hx.symm.trans hy)
        exact hne
      · exact hall j y (by omega) hy
    by_cases h0 : x.a0 = bd
    · rw [show (x.a0 == bd) = true by simp [h0]]
      repeat (first | refine Z0 ?_ | (refine ZR ?_; first | refine x1 ?_ | refine x2 ?_ | refine x8 ?_ | refine Z1 ?_ | refine Z2 ?_ | refine x3 fun _ => ?_ | refine x4 fun _ => ?_ | refine x5 fun _ => ?_ | refine Z3 fun _ => ?_ | refine Z4 fun _ => ?_) | refine ZC ?_)
      by_cases h2 : x.a2 = mac
      · rw [show (x.a2 == mac) = true by simp [h2]]
        repeat (first | refine Z0 ?_ | (refine ZR ?_; first | refine x1 ?_ | refine x2 ?_ | refine x8 ?_ | refine Z1 ?_ | refine Z2 ?_ | refine x3 fun _ => ?_ | refine x4 fun _ => ?_ | refine x5 fun _ => ?_ | refine Z3 fun _ => ?_ | refine Z4 fun _ => ?_) | refine ZC ?_)
        exact re_1 rfl rfl (List.Sublist.refl _) (hyes i x hx (kOf_mk h0 h2))
      · rw [show (x.a2 == mac) = false by simpa using h2]
        repeat (first | refine Z0 ?_ | (refine ZR ?_; first | refine x1 ?_ | refine x2 ?_ | refine x8 ?_ | refine Z1 ?_ | refine Z2 ?_ | refine x3 fun _ => ?_ | refine x4 fun _ => ?_ | refine x5 fun _ => ?_ | refine Z3 fun _ => ?_ | refine Z4 fun _ => ?_) | refine ZC ?_)
        exact ⟨i + 1, ⟨by omega, hstep fun g => h2 (congrArg Kk.mac g)⟩, by omega, by repeat (first | exact SubL.nil | refine SubL.cons rfl ?_), List.Sublist.refl _⟩
    · rw [show (x.a0 == bd) = false by simpa using h0]
      repeat (first | refine Z0 ?_ | (refine ZR ?_; first | refine x1 ?_ | refine x2 ?_ | refine x8 ?_ | refine Z1 ?_ | refine Z2 ?_ | refine x3 fun _ => ?_ | refine x4 fun _ => ?_ | refine x5 fun _ => ?_ | refine Z3 fun _ => ?_ | refine Z4 fun _ => ?_) | refine ZC ?_)
      exact ⟨i + 1, ⟨by omega, hstep fun g => h0 (congrArg Kk.bd g)⟩, by omega, by repeat (first | exact SubL.nil | refine SubL.cons rfl ?_), List.Sublist.refl _⟩
  · repeat (first | refine Z0 ?_ | (refine ZR ?_; first | refine x1 ?_ | refine x2 ?_ | refine x8 ?_ | refine Z1 ?_ | refine Z2 ?_ | refine x3 fun _ => ?_ | refine x4 fun _ => ?_ | refine x5 fun _ => ?_ | refine Z3 fun _ => ?_ | refine Z4 fun _ => ?_) | refine ZC ?_)
    exact re_1 rfl rfl (List.Sublist.refl _) (hno fun x hx => by
      obtain ⟨j, hj⟩ := List.mem_iff_getElem?.1 hx
      have := (List.getElem?_eq_some_iff.1 hj).1
      exact hall j x (by omega) hj)
theorem rlook39_ct (hs : SrtN L) (hq : (q, AObj.row [.int .i64 ol, .slice ad L.length c] 2 false) ∈ H) (ha : Arr (cx B0 old) H ad 6 en37 L) (hl : L.length ≤ 100000) (bd mac : Int)
    (h : Q (.tuple #[.agg ⟨en37 ((findN L ⟨bd, mac⟩).getD zN)⟩, .bool (findN L ⟨bd, mac⟩).isSome]) H) :
    CallT (cx B0 old) (acall (cx B0 old) ansP (n + 2)) 39 [.pointer (some ⟨q, 0, none⟩), .int .i64 bd, .int .u64 mac] H Q := by
  refine call_in3 23 rfl Try.func39 rfl rfl ?_
  have hL0 := row_ld (C := cx B0 old) (off := 1) hq 22 rfl rfl (sz rfl)
  repeat (first | refine Z0 ?_ | (refine ZR ?_; first | refine x1 ?_ | refine x2 ?_ | refine x8 ?_ | refine Z1 ?_ | refine Z2 ?_ | refine x3 fun _ => ?_ | refine x4 fun _ => ?_ | refine x5 fun _ => ?_ | refine Z3 fun _ => ?_ | refine Z4 fun _ => ?_) | refine ZC ?_)
  refine rt_step rfl rfl rfl (st_call rfl rfl rfl rfl (rat38_ct (List.Mem.tail _ hq) (ha.weak (List.sublist_cons_self _ _)) hl bd mac (fun i x hx hk => ?_) (fun hno => ?_)))
  · rw [(findN_iff hs).2 ⟨List.mem_of_getElem? hx, hk⟩] at h
    obtain ⟨b1, o1, e1, hL1⟩ := ha.ldW 37 hx rfl (sz rfl)
    subst e1
    simp only [Option.getD_some, Option.isSome_some] at h
    unfold en37 at hL1 h
    repeat (first | refine Z0 ?_ | (refine ZR ?_; first | refine x1 ?_ | refine x2 ?_ | refine x8 ?_ | refine Z1 ?_ | refine Z2 ?_ | refine x3 fun _ => ?_ | refine x4 fun _ => ?_ | refine x5 fun _ => ?_ | refine Z3 fun _ => ?_ | refine Z4 fun _ => ?_) | refine ZC ?_)
    have hil : i < L.length := (List.getElem?_eq_some_iff.1 hx).1
    rw [show decide ((i : Int) < 0) = false by simp]
    repeat (first | refine Z0 ?_ | (refine ZR ?_; first | refine x1 ?_ | refine x2 ?_ | refine x8 ?_ | refine Z1 ?_ | refine Z2 ?_ | refine x3 fun _ => ?_ | refine x4 fun _ => ?_ | refine x5 fun _ => ?_ | refine Z3 fun _ => ?_ | refine Z4 fun _ => ?_) | refine ZC ?_)
    exact re_c2 rfl rfl (.own _ _ hm0) rfl (sz rfl) rfl rfl (by exact drop_auto) h
  · have e : findN L ⟨bd, mac⟩ = none := by
      unfold findN
      rw [List.find?_eq_none]
      intro x hx
      simpa using hno x hx
    rw [e] at h
    repeat (first | refine Z0 ?_ | (refine ZR ?_; first | refine x1 ?_ | refine x2 ?_ | refine x8 ?_ | refine Z1 ?_ | refine Z2 ?_ | refine x3 fun _ => ?_ | refine x4 fun _ => ?_ | refine x5 fun _ => ?_ | refine Z3 fun _ => ?_ | refine Z4 fun _ => ?_) | refine ZC ?_)
    exact re_c2 rfl rfl (.own _ _ hm0) rfl (sz rfl) rfl rfl (by exact drop_auto) h
theorem rfind40_ct (hq : (q, AObj.row [.int .i64 ol, .slice ad L.length c] 2 false) ∈ H) (ha : Arr (cx B0 old) H ad 6 en37 L) (hl : L.length ≤ 100000) (bd ip : Int)
    (h : Q (.tuple #[.agg ⟨en37 ((findIP L bd ip).getD zN)⟩, .bool (findIP L bd ip).isSome]) H) :
    CallT (cx B0 old) (acall (cx B0 old) ansP (n + 1)) 40 [.pointer (some ⟨q, 0, none⟩), .int .i64 bd, .int .u32 ip] H Q := by
  refine call_in3 58 rfl Try.func40 rfl rfl ?_
  have hL0 := row_ld (C := cx B0 old) (off := 1) hq 22 rfl rfl (sz rfl)
  repeat (first | refine Z0 ?_ | (refine ZR ?_; first | refine x1 ?_ | refine x2 ?_ | refine x8 ?_ | refine Z1 ?_ | refine Z2 ?_ | refine x3 fun _ => ?_ | refine x4 fun _ => ?_ | refine x5 fun _ => ?_ | refine Z3 fun _ => ?_ | refine Z4 fun _ => ?_) | refine ZC ?_)
  rename_i t6
  refine loop_ind (ι := Nat) 0 (fun i => L.length - i) (fun i => i ≤ L.length ∧ ∀ j x, j < i → L[j]? = some x → decide (x.a0 = bd ∧ x.a4 = true ∧ x.a3 = ip) = false) (fun i => [(8, .int .i64 (i : Int)), (6, .pointer (some ⟨t6, 0, none⟩)), (0, .pointer (some ⟨q, 0, none⟩)), (1, .int .i64 bd), (2, .int .u32 ip)]) (fun _ => (t6, .row [.int .i64 0, .int .i64 0, .int .u64 0, .int .u32 0, .bool false, .int .i64 0] 6 false) :: H) ⟨Nat.zero_le _, fun j x hj => absurd hj (by omega)⟩ (by repeat (first | exact SubL.nil | refine SubL.cons rfl ?_)) (List.Sublist.refl _) ?_
  rintro i ⟨hi, hall⟩
  repeat (first | refine Z0 ?_ | (refine ZR ?_; first | refine x1 ?_ | refine x2 ?_ | refine x8 ?_ | refine Z1 ?_ | refine Z2 ?_ | refine x3 fun _ => ?_ | refine x4 fun _ => ?_ | refine x5 fun _ => ?_ | refine Z3 fun _ => ?_ | refine Z4 fun _ => ?_) | refine ZC ?_)
  refine ct_condT te_d rfl (fun hlt => ?_) (fun hlt => ?_)
  · obtain ⟨x, hx⟩ : ∃ x, L[i]? = some x := ⟨_, List.getElem?_eq_getElem (by omega)⟩
    obtain ⟨b1, o1, e1, hL1⟩ := arr_ldR ha 3 0 hx rfl rfl rfl (sz rfl)
    subst e1
    obtain ⟨b2, o2, e2, hL2⟩ := arr_ldR ha 4 4 hx rfl rfl rfl (sz rfl)
    cases e2
    obtain ⟨b2, o2, e2, hL3⟩ := arr_ldR ha 35 3 hx rfl rfl rfl (sz rfl)
    cases e2
    obtain ⟨b2, o2, e2, hL4⟩ := ha.ldW 37 hx rfl (sz rfl)
    cases e2
    unfold en37 at hL4
    repeat (first | refine Z0 ?_ | (refine ZR ?_; first | refine x1 ?_ | refine x2 ?_ | refine x8 ?_ | refine Z1 ?_ | refine Z2 ?_ | refine x3 fun _ => ?_ | refine x4 fun _ => ?_ | refine x5 fun _ => ?_ | refine Z3 fun _ => ?_ | refine Z4 fun _ => ?_) | refine ZC ?_)
    have hstep : ¬ (x.a0 = bd ∧ x.a4 = true ∧ x.a3 = ip) → ∀ j y, j < i + 1 → L[j]? = some y → decide (y.a0 = bd ∧ y.a4 = true ∧ y.a3 = ip) = false := fun hne j y hj hy => by
      by_cases e : j = i
      · subst e
        obtain rfl := Option.some.inj (hx.symm.trans hy)
        exact decide_eq_false hne
      · exact hall j y (by omega) hy
    by_cases h0 : x.a0 = bd
    · rw [show (x.a0 == bd) = true by simp [h0]]
      repeat (first | refine Z0 ?_ | (refine ZR ?_; first | refine x1 ?_ | refine x2 ?_ | refine x8 ?_ | refine Z1 ?_ | refine Z2 ?_ | refine x3 fun _ => ?_ | refine x4 fun _ => ?_ | refine x5 fun _ => ?_ | refine Z3 fun _ => ?_ | refine Z4 fun _ => ?_) | refine ZC ?_)
      refine isRun ?_
      refine z1 (fun h4 => ?_) (fun h4 => ?_)
      · repeat (first | refine Z0 ?_ | (refine ZR ?_; first | refine x1 ?_ | refine x2 ?_ | refine x8 ?_ | refine Z1 ?_ | refine Z2 ?_ | refine x3 fun _ => ?_ | refine x4 fun _ => ?_ | refine x5 fun _ => ?_ | refine Z3 fun _ => ?_ | refine Z4 fun _ => ?_) | refine ZC ?_)
        by_cases h3 : x.a3 = ip
        · rw [show (x.a3 == ip) = true by simp [h3]]
          have e : findIP L bd ip = some x := find_first hx (decide_eq_true ⟨h0, h4, h3⟩) hall
          rw [e] at h
          simp only [Option.getD_some, Option.isSome_some] at h
          unfold en37 at h
          repeat (first | refine Z0 ?_ | (refine ZR ?_; first | refine x1 ?_ | refine x2 ?_ | refine x8 ?_ | refine Z1 ?_ | refine Z2 ?_ | refine x3 fun _ => ?_ | refine x4 fun _ => ?_ | refine x5 fun _ => ?_ | refine Z3 fun _ => ?_ | refine Z4 fun _ => ?_) | refine ZC ?_)
          exact re_c2 rfl rfl (.own _ _ hm0) rfl (sz rfl) rfl rfl (by exact drop_auto) h
        · rw [show (x.a3 == ip) = false by simpa using h3]
          repeat (first | refine Z0 ?_ | (refine ZR ?_; first | refine x1 ?_ | refine x2 ?_ | refine x8 ?_ | refine Z1 ?_ | refine Z2 ?_ | refine x3 fun _ => ?_ | refine x4 fun _ => ?_ | refine x5 fun _ => ?_ | refine Z3 fun _ => ?_ | refine Z4 fun _ => ?_) | refine ZC ?_)
          exact ⟨i + 1, ⟨by omega, hstep fun g => h3 g.2.2⟩, by omega, by repeat (first | exact SubL.nil | refine SubL.cons rfl ?_), List.Sublist.refl _⟩
      · repeat (first | refine Z0 ?_ | (refine ZR ?_; first | refine x1 ?_ | refine x2 ?_ | refine x8 ?_ | refine Z1 ?_ | refine Z2 ?_ | refine x3 fun _ => ?_ | refine x4 fun _ => ?_ | refine x5 fun _ => ?_ | refine Z3 fun _ => ?_ | refine Z4 fun _ => ?_) | refine ZC ?_)
        exact ⟨i + 1, ⟨by omega, hstep fun g => by simp [g.2.1] at h4⟩, by omega, by repeat (first | exact SubL.nil | refine SubL.cons rfl ?_), List.Sublist.refl _⟩
    · rw [show (x.a0 == bd) = false by simpa using h0]
      repeat (first | refine Z0 ?_ | (refine ZR ?_; first | refine x1 ?_ | refine x2 ?_ | refine x8 ?_ | refine Z1 ?_ | refine Z2 ?_ | refine x3 fun _ => ?_ | refine x4 fun _ => ?_ | refine x5 fun _ => ?_ | refine Z3 fun _ => ?_ | refine Z4 fun _ => ?_) | refine ZC ?_)
      exact ⟨i + 1, ⟨by omega, hstep fun g => h0 g.1⟩, by omega, by repeat (first | exact SubL.nil | refine SubL.cons rfl ?_), List.Sublist.refl _⟩
  · have e : findIP L bd ip = none := by
      unfold findIP
      rw [List.find?_eq_none]
      intro x hx
      obtain ⟨j, hj⟩ := List.mem_iff_getElem?.1 hx
      have := (List.getElem?_eq_some_iff.1 hj).1
      rw [hall j x (by omega) hj]
      decide
    rw [e] at h
    repeat (first | refine Z0 ?_ | (refine ZR ?_; first | refine x1 ?_ | refine x2 ?_ | refine x8 ?_ | refine Z1 ?_ | refine Z2 ?_ | refine x3 fun _ => ?_ | refine x4 fun _ => ?_ | refine x5 fun _ => ?_ | refine Z3 fun _ => ?_ | refine Z4 fun _ => ?_) | refine ZC ?_)
    exact re_c2 rfl rfl (.own _ _ hm0) rfl (sz rfl) rfl rfl (by exact drop_auto) h
end
end Go.Proofs.Ytojnbjandkbkmaa.Abs

/- Contract of the reference's Learn. -/
namespace Go.Proofs.Ytojnbjandkbkmaa.Abs
open Go
set_option linter.unusedVariables false
theorem stN_snoc {e x : S37} {R : List S37} {i : Nat} (hx : R[i]? = some x) : ((R.take i).map (stN e) ++ R.drop i).set i (stN e x) = (R.take (i + 1)).map (stN e) ++ R.drop (i + 1) := by
  obtain ⟨hi, hxi⟩ := List.getElem?_eq_some_iff.1 hx
  have hl : ((R.take i).map (stN e)).length = i := by rw [List.length_map, List.length_take]; omega
  rw [List.set_append, if_neg (by omega), hl, Nat.sub_self, List.drop_eq_getElem_cons hi, List.set_cons_zero, List.take_add_one, hx, List.map_append]
  simp
theorem stN_get {e x : S37} {R : List S37} {i : Nat} (hx : R[i]? = some x) : ((R.take i).map (stN e) ++ R.drop i)[i]? = some x := by
  obtain ⟨hi, hxi⟩ := List.getElem?_eq_some_iff.1 hx
  have hl : ((R.take i).map (stN e)).length = i := by rw [List.length_map, List.length_take]; omega
  rw [List.getElem?_append_right (by omega), hl, Nat.sub_self, List.getElem?_drop, Nat.add_zero, hx]
theorem stN_lenD (e : S37) (R : List S37) (i : Nat) : ((R.take i).map (stN e) ++ R.drop i).length = R.length := by
  rw [List.length_append, List.length_map, List.length_take, List.length_drop]
  omega
theorem stN_yes {e x : S37} (h : e.a4 = true ∧ x.a0 = e.a0 ∧ x.a4 = true ∧ x.a3 = e.a3) : stN e x = { x with a3 := 0, a4 := false } := if_pos h
theorem stN_none {e x : S37} (h : ¬ (e.a4 = true ∧ x.a0 = e.a0 ∧ x.a4 = true ∧ x.a3 = e.a3)) : stN e x = x := if_neg h
theorem mrg_wf {o e : S37} (ho : o.wf) (he : e.wf) : (mrg o e).wf := by
  unfold mrg
  split
  · refine ⟨he.1, he.2.1, he.2.2.1, ?_, ?_⟩
    · dsimp only
      split
      · exact he.2.2.2.1
      · exact ho.2.2.2.1
    · dsimp only
      split
      · exact he.2.2.2.2
      · exact ho.2.2.2.2
  · exact he
theorem set_self {l : List S37} {i : Nat} {x : S37} (h : l[i]? = some x) : l.set i x = l := by
  obtain ⟨hi, rfl⟩ := List.getElem?_eq_some_iff.1 h
  exact List.set_getElem_self hi
theorem rkN_st (e x : S37) : rkN (stN e x) = rkN x := by unfold rkN; rw [kOf_st1]
section
variable {B0 : Nat} {old : Nat → Option (List Value)} {n : Nat} {H G : Hp} {Q : Value → Hp → Prop} {v : Value} {ol : Int} {L : List S37} {q : Nat}
set_option maxRecDepth 10000
set_option maxHeartbeats 8000000
theorem rlearn16_ct (hs : SrtN L) (hv : ∀ x ∈ L, okE x) (ho : Own en37 6 L v G) (hL : L.length ≤ 2000) (e : S37) (he : e.wf) (fz : Bool)
    (hQ : ∀ v' G', Own en37 6 (learnN L e fz).1 v' G' → Q (.tuple #[.bool (learnN L e fz).2.1, .int .i64 (learnN L e fz).2.2]) ((q, .row [.int .i64 ol, v'] 2 false) :: (G' ++ H))) :
    CallT (cx B0 old) (acall (cx B0 old) ansP (n + 2)) 16 [.pointer (some ⟨q, 0, none⟩), .agg ⟨en37 e⟩, .bool fz] ((q, .row [.int .i64 ol, v] 2 false) :: (G ++ H)) Q := by
  refine call_in3 204 rfl Try.func16 rfl rfl ?_
  obtain ⟨ad, c, ev, ga⟩ := ho.arrW (C := cx B0 old) en37_len
  subst ev
  have haw : Arr (cx B0 old) (G ++ H) ad 6 en37 L := (ga [] H).arr en37_len
  have hck := fun {H' : Hp} {Q' : Value → Hp → Prop} => rcheck37_ct (B0 := B0) (old := old) (n := n) (H := H') (Q := Q') e he
  have hen : en37 e = [.int .i64 e.a0, .int .i64 e.a1, .int .u64 e.a2, .int .u32 e.a3, .bool e.a4, .int .i64 e.a5] := rfl
  rw [hen] at hck ⊢
  repeat (first | refine Z0 ?_ | (refine ZR ?_; first | refine x1 ?_ | refine x2 ?_ | refine x8 ?_ | refine Z1 ?_ | refine Z2 ?_ | refine x3 fun _ => ?_ | refine x4 fun _ => ?_ | refine x5 fun _ => ?_ | refine Z3 fun _ => ?_ | refine Z4 fun _ => ?_) | refine ZC ?_)
  rename_i t4
  refine rt_step rfl rfl rfl (st_call rfl rfl rfl rfl (hck ?_))
  repeat (first | refine Z0 ?_ | (refine ZR ?_; first | refine x1 ?_ | refine x2 ?_ | refine x8 ?_ | refine Z1 ?_ | refine Z2 ?_ | refine x3 fun _ => ?_ | refine x4 fun _ => ?_ | refine x5 fun _ => ?_ | refine Z3 fun _ => ?_ | refine Z4 fun _ => ?_) | refine ZC ?_)
  refine rt_midE (ι := Int × Option (Nat × S37)) (fun i => match i.2 with | none => i.1 = -1 ∧ ∀ x ∈ L, kOf x ≠ kOf e | some j => i.1 = j.1 ∧ L[j.1]? = some j.2 ∧ kOf j.2 = kOf e) (fun i => [(9, .int .i64 i.1), (8, .int .i64 (chkN e)), (0, .pointer (some ⟨q, 0, none⟩)), (2, .bool fz), (4, .pointer (some ⟨t4, 0, none⟩)), (6, .bool false), (7, .int .i64 0)])
    (fun _ => (t4, .row [.int .i64 e.a0, .int .i64 e.a1, .int .u64 e.a2, .int .u32 e.a3, .bool e.a4, .int .i64 e.a5] 6 false) :: (q, .row [.int .i64 ol, .slice ad L.length c] 2 false) :: (G ++ H)) ?_ ?_
  · refine rt_step rfl rfl rfl (st_call rfl rfl rfl rfl (rat38_ct (ol := ol) (L := L) (ad := ad) (c := c) (List.Mem.tail _ (List.Mem.head _)) (haw.weak (by exact drop_auto)) (by omega) e.a0 e.a2 (fun i x hx hk => ?_) (fun hno => ?_)))
    · repeat (first | refine Z0 ?_ | (refine ZR ?_; first | refine x1 ?_ | refine x2 ?_ | refine x8 ?_ | refine Z1 ?_ | refine Z2 ?_ | refine x3 fun _ => ?_ | refine x4 fun _ => ?_ | refine x5 fun _ => ?_ | refine Z3 fun _ => ?_ | refine Z4 fun _ => ?_) | refine ZC ?_)
      exact ⟨((i : Int), some (i, x)), ⟨rfl, hx, hk⟩, by repeat (first | exact SubL.nil | refine SubL.cons rfl ?_), List.Sublist.refl _⟩
    · repeat (first | refine Z0 ?_ | (refine ZR ?_; first | refine x1 ?_ | refine x2 ?_ | refine x8 ?_ | refine Z1 ?_ | refine Z2 ?_ | refine x3 fun _ => ?_ | refine x4 fun _ => ?_ | refine x5 fun _ => ?_ | refine Z3 fun _ => ?_ | refine Z4 fun _ => ?_) | refine ZC ?_)
      exact ⟨(-1, none), ⟨rfl, hno⟩, by repeat (first | exact SubL.nil | refine SubL.cons rfl ?_), List.Sublist.refl _⟩
  rintro ⟨ix, o⟩ hP
  dsimp only at hP ⊢
  refine ct_seq ?_
  -- the three errors
  refine ct_midE (ι := Unit) (fun _ => chkN e = 0 ∧ (o = none → L.length < 1024) ∧ (∀ j x, o = some (j, x) → ¬ (x.a1 ≠ e.a1 ∧ fz = true))) (fun _ => [(9, .int .i64 ix), (0, .pointer (some ⟨q, 0, none⟩)), (4, .pointer (some ⟨t4, 0, none⟩))])
    (fun _ => (t4, .row [.int .i64 e.a0, .int .i64 e.a1, .int .u64 e.a2, .int .u32 e.a3, .bool e.a4, .int .i64 e.a5] 6 false) :: (q, .row [.int .i64 ol, .slice ad L.length c] 2 false) :: (G ++ H)) ?_ ?_
  · repeat (first | refine Z0 ?_ | (refine ZR ?_; first | refine x1 ?_ | refine x2 ?_ | refine x8 ?_ | refine Z1 ?_ | refine Z2 ?_ | refine x3 fun _ => ?_ | refine x4 fun _ => ?_ | refine x5 fun _ => ?_ | refine Z3 fun _ => ?_ | refine Z4 fun _ => ?_) | refine ZC ?_)
    refine ct_condT te_ne rfl (fun hc => ?_) (fun hc => ?_)
    · have hr : learnN L e fz = (L, false, chkN e) := by unfold learnN; rw [if_pos hc]
      rw [hr] at hQ
      repeat (first | refine Z0 ?_ | (refine ZR ?_; first | refine x1 ?_ | refine x2 ?_ | refine x8 ?_ | refine Z1 ?_ | refine Z2 ?_ | refine x3 fun _ => ?_ | refine x4 fun _ => ?_ | refine x5 fun _ => ?_ | refine Z3 fun _ => ?_ | refine Z4 fun _ => ?_) | refine ZC ?_)
      exact re_2 rfl rfl rfl (List.Sublist.cons _ (List.Sublist.refl _)) (hQ _ _ ho)
    have hc0 : chkN e = 0 := by simpa using hc
    rcases o with _ | ⟨j, x⟩
    · obtain ⟨rfl, hno⟩ := hP
      have hf : findN L (kOf e) = none := by
        unfold findN
        rw [List.find?_eq_none]
        intro x hx
        simpa using hno x hx
      repeat (first | refine Z0 ?_ | (refine ZR ?_; first | refine x1 ?_ | refine x2 ?_ | refine x8 ?_ | refine Z1 ?_ | refine Z2 ?_ | refine x3 fun _ => ?_ | refine x4 fun _ => ?_ | refine x5 fun _ => ?_ | refine Z3 fun _ => ?_ | refine Z4 fun _ => ?_) | refine ZC ?_)
      refine ct_draw (masks := [0, 1, 3, 7, 15, 31, 63, 127, 255, 511, 63, 2047, 4095, 8191, 63, 16447, 65535, 131071, 262143]) (plan := [0, 1, 2, 3, 4, 5, 6, 7, 8, 9, 10, 11, 12, 13, 14, 15, 16, 17, 18]) (E := []) (by kernel_rfl) (by kernel_rfl) (by kernel_rfl) (by kernel_rfl) ?_
      repeat (first | refine Y0 ?_ | (refine YP ?_; first | refine y1 ?_ | refine y2 ?_ | refine Y1 ?_ | refine Y2 ?_))
      repeat (first | refine Z0 ?_ | (refine ZR ?_; first | refine x1 ?_ | refine x2 ?_ | refine x8 ?_ | refine Z1 ?_ | refine Z2 ?_ | refine x3 fun _ => ?_ | refine x4 fun _ => ?_ | refine x5 fun _ => ?_ | refine Z3 fun _ => ?_ | refine Z4 fun _ => ?_) | refine ZC ?_)
      refine ct_condT te_d rfl (fun hl => ?_) (fun hl => ?_)
      · have hr : learnN L e fz = (L, false, 7) := by unfold learnN; rw [if_neg (fun g => g hc0), hf]; dsimp only; rw [if_pos (by omega)]
        rw [hr] at hQ
        repeat (first | refine Z0 ?_ | (refine ZR ?_; first | refine x1 ?_ | refine x2 ?_ | refine x8 ?_ | refine Z1 ?_ | refine Z2 ?_ | refine x3 fun _ => ?_ | refine x4 fun _ => ?_ | refine x5 fun _ => ?_ | refine Z3 fun _ => ?_ | refine Z4 fun _ => ?_) | refine ZC ?_)
        exact re_2 rfl rfl rfl (List.Sublist.cons _ (List.Sublist.refl _)) (hQ _ _ ho)
      · repeat (first | refine Z0 ?_ | (refine ZR ?_; first | refine x1 ?_ | refine x2 ?_ | refine x8 ?_ | refine Z1 ?_ | refine Z2 ?_ | refine x3 fun _ => ?_ | refine x4 fun _ => ?_ | refine x5 fun _ => ?_ | refine Z3 fun _ => ?_ | refine Z4 fun _ => ?_) | refine ZC ?_)
        exact ⟨(), ⟨hc0, fun _ => by omega, fun j x g => by cases g⟩, by repeat (first | exact SubL.nil | refine SubL.cons rfl ?_), List.Sublist.refl _⟩
    · obtain ⟨rfl, hx, hk⟩ := hP
      dsimp only at hx hk
      have hf : findN L (kOf e) = some x := (findN_iff hs).2 ⟨List.mem_of_getElem? hx, hk⟩
      have hjl : j < L.length := (List.getElem?_eq_some_iff.1 hx).1
      obtain ⟨b1, o1, e1, hL0⟩ := arr_ldR haw 3 1 hx rfl rfl rfl (sz rfl)
      subst e1
      repeat (first | refine Z0 ?_ | (refine ZR ?_; first | refine x1 ?_ | refine x2 ?_ | refine x8 ?_ | refine Z1 ?_ | refine Z2 ?_ | refine x3 fun _ => ?_ | refine x4 fun _ => ?_ | refine x5 fun _ => ?_ | refine Z3 fun _ => ?_ | refine Z4 fun _ => ?_) | refine ZC ?_)
      refine ct_midE (ι := Bool) (fun b => b = decide (x.a1 ≠ e.a1 ∧ fz = true)) (fun b => [(27, .bool b), (9, .int .i64 (j : Int)), (0, .pointer (some ⟨q, 0, none⟩)), (4, .pointer (some ⟨t4, 0, none⟩)), (6, .bool false), (7, .int .i64 0)])
        (fun _ => (t4, .row [.int .i64 e.a0, .int .i64 e.a1, .int .u64 e.a2, .int .u32 e.a3, .bool e.a4, .int .i64 e.a5] 6 false) :: (q, .row [.int .i64 ol, .slice (some ⟨b1, o1, none⟩) L.length c] 2 false) :: (G ++ H)) ?_ ?_
      · refine ct_draw (masks := [0, 1, 3, 7, 15, 31, 63, 127, 255, 511, 63, 2047, 4095, 8191, 63, 16447, 65535, 131071, 262143]) (plan := [0, 1, 2, 3, 4, 5, 6, 7, 8, 9, 10, 11, 12, 13, 14, 15, 16, 17, 18]) (E := []) (by kernel_rfl) (by kernel_rfl) (by kernel_rfl) (by kernel_rfl) ?_
        repeat (first | refine Y0 ?_ | (refine YP ?_; first | refine y1 ?_ | refine y2 ?_ | refine Y1 ?_ | refine Y2 ?_))
        rw [show decide ((j : Int) ≥ 0) = true by simp]
        repeat (first | refine Y0 ?_ | (refine YP ?_; first | refine y1 ?_ | refine y2 ?_ | refine Y1 ?_ | refine Y2 ?_))
        cases fz
        · repeat (first | refine Y0 ?_ | (refine YP ?_; first | refine y1 ?_ | refine y2 ?_ | refine Y1 ?_ | refine Y2 ?_))
          repeat (first | refine Z0 ?_ | (refine ZR ?_; first | refine x1 ?_ | refine x2 ?_ | refine x8 ?_ | refine Z1 ?_ | refine Z2 ?_ | refine x3 fun _ => ?_ | refine x4 fun _ => ?_ | refine x5 fun _ => ?_ | refine Z3 fun _ => ?_ | refine Z4 fun _ => ?_) | refine ZC ?_)
          exact ⟨false, by simp, by repeat (first | exact SubL.nil | refine SubL.cons rfl ?_), List.Sublist.refl _⟩
        · repeat (first | refine Y0 ?_ | (refine YP ?_; first | refine y1 ?_ | refine y2 ?_ | refine Y1 ?_ | refine Y2 ?_))
          repeat (first | refine Z0 ?_ | (refine ZR ?_; first | refine x1 ?_ | refine x2 ?_ | refine x8 ?_ | refine Z1 ?_ | refine Z2 ?_ | refine x3 fun _ => ?_ | refine x4 fun _ => ?_ | refine x5 fun _ => ?_ | refine Z3 fun _ => ?_ | refine Z4 fun _ => ?_) | refine ZC ?_)
          exact ⟨(x.a1 != e.a1), by by_cases g : x.a1 = e.a1 <;> simp [g], by repeat (first | exact SubL.nil | refine SubL.cons rfl ?_), List.Sublist.refl _⟩
      rintro (_ | _) hb
      · repeat (first | refine Z0 ?_ | (refine ZR ?_; first | refine x1 ?_ | refine x2 ?_ | refine x8 ?_ | refine Z1 ?_ | refine Z2 ?_ | refine x3 fun _ => ?_ | refine x4 fun _ => ?_ | refine x5 fun _ => ?_ | refine Z3 fun _ => ?_ | refine Z4 fun _ => ?_) | refine ZC ?_)
        rw [show decide ((j : Int) < 0) = false by simp]
        repeat (first | refine Z0 ?_ | (refine ZR ?_; first | refine x1 ?_ | refine x2 ?_ | refine x8 ?_ | refine Z1 ?_ | refine Z2 ?_ | refine x3 fun _ => ?_ | refine x4 fun _ => ?_ | refine x5 fun _ => ?_ | refine Z3 fun _ => ?_ | refine Z4 fun _ => ?_) | refine ZC ?_)
        exact ⟨(), ⟨hc0, fun g => (by cases g), fun j' x' g => by cases g; exact of_decide_eq_false hb.symm⟩, by repeat (first | exact SubL.nil | refine SubL.cons rfl ?_), List.Sublist.refl _⟩
      · have hb := of_decide_eq_true hb.symm
        have hr : learnN L e fz = (L, false, 9) := by unfold learnN; rw [if_neg (fun g => g hc0), hf]; dsimp only; rw [if_pos hb]
        rw [hr] at hQ
        repeat (first | refine Z0 ?_ | (refine ZR ?_; first | refine x1 ?_ | refine x2 ?_ | refine x8 ?_ | refine Z1 ?_ | refine Z2 ?_ | refine x3 fun _ => ?_ | refine x4 fun _ => ?_ | refine x5 fun _ => ?_ | refine Z3 fun _ => ?_ | refine Z4 fun _ => ?_) | refine ZC ?_)
        exact re_2 rfl rfl rfl (List.Sublist.cons _ (List.Sublist.refl _)) (hQ _ _ ho)
  rintro _ ⟨hc0, hnl, hnf⟩
  repeat (first | refine Z0 ?_ | (refine ZR ?_; first | refine x1 ?_ | refine x2 ?_ | refine x8 ?_ | refine Z1 ?_ | refine Z2 ?_ | refine x3 fun _ => ?_ | refine x4 fun _ => ?_ | refine x5 fun _ => ?_ | refine Z3 fun _ => ?_ | refine Z4 fun _ => ?_) | refine ZC ?_)
  -- the old entry is taken out
  refine ct_midE (ι := S37 × Bool × Value × Hp) (fun i => learnN L e fz = (putN L i.1, i.2.1, 0) ∧ kOf i.1 = kOf e ∧ i.1.wf ∧ Own en37 6 (rmN (kOf e) L) i.2.2.1 i.2.2.2) (fun i => [(10, .bool i.2.1), (0, .pointer (some ⟨q, 0, none⟩)), (4, .pointer (some ⟨t4, 0, none⟩))])
    (fun i => (t4, .row (en37 i.1) 6 false) :: (q, .row [.int .i64 ol, i.2.2.1] 2 false) :: (i.2.2.2 ++ H)) ?_ ?_
  · rcases o with _ | ⟨j, x⟩
    · obtain ⟨rfl, hno⟩ := hP
      have hf : findN L (kOf e) = none := by
        unfold findN
        rw [List.find?_eq_none]
        intro x hx
        simpa using hno x hx
      have hl := hnl rfl
      repeat (first | refine Z0 ?_ | (refine ZR ?_; first | refine x1 ?_ | refine x2 ?_ | refine x8 ?_ | refine Z1 ?_ | refine Z2 ?_ | refine x3 fun _ => ?_ | refine x4 fun _ => ?_ | refine x5 fun _ => ?_ | refine Z3 fun _ => ?_ | refine Z4 fun _ => ?_) | refine ZC ?_)
      exact ⟨(e, false, _, G), ⟨by unfold learnN; rw [if_neg (fun g => g hc0), hf]; dsimp only; rw [if_neg (by omega)], rfl, he, by rw [rmN_none hno]; exact ho⟩, by repeat (first | exact SubL.nil | refine SubL.cons rfl ?_), List.Sublist.refl _⟩
    · obtain ⟨rfl, hx, hk⟩ := hP
      dsimp only at hx hk
      have hf : findN L (kOf e) = some x := (findN_iff hs).2 ⟨List.mem_of_getElem? hx, hk⟩
      have hjl : j < L.length := (List.getElem?_eq_some_iff.1 hx).1
      have hxw := (hv x (List.mem_of_getElem? hx)).1
      have hr : learnN L e fz = (putN L (mrg x e), decide (x.a1 ≠ e.a1), 0) := by unfold learnN; rw [if_neg (fun g => g hc0), hf]; dsimp only; rw [if_neg (hnf j x rfl)]
      have hmw : (mrg x e).wf := mrg_wf hxw he
      rw [show decide ((j : Int) ≥ 0) = true by simp]
      obtain ⟨b1, o1, e1, hL0⟩ := haw.ldW 37 hx rfl (sz rfl)
      subst e1
      unfold en37 at hL0
      repeat (first | refine Z0 ?_ | (refine ZR ?_; first | refine x1 ?_ | refine x2 ?_ | refine x8 ?_ | refine Z1 ?_ | refine Z2 ?_ | refine x3 fun _ => ?_ | refine x4 fun _ => ?_ | refine x5 fun _ => ?_ | refine Z3 fun _ => ?_ | refine Z4 fun _ => ?_) | refine ZC ?_)
      rename_i t11
      refine ct_midE (ι := Int) (fun t => t = if x.a1 = e.a1 then (if e.a5 > x.a5 then e.a5 else x.a5) else e.a5) (fun _ => [(10, .bool (x.a1 != e.a1)), (9, .int .i64 (j : Int)), (0, .pointer (some ⟨q, 0, none⟩)), (11, .pointer (some ⟨t11, 0, none⟩)), (4, .pointer (some ⟨t4, 0, none⟩))])
        (fun t => (t11, .row [.int .i64 x.a0, .int .i64 x.a1, .int .u64 x.a2, .int .u32 x.a3, .bool x.a4, .int .i64 x.a5] 6 false) :: (t4, .row [.int .i64 e.a0, .int .i64 e.a1, .int .u64 e.a2, .int .u32 e.a3, .bool e.a4, .int .i64 t] 6 false) :: (q, .row [.int .i64 ol, .slice (some ⟨b1, o1, none⟩) L.length c] 2 false) :: (G ++ H)) ?_ ?_
      · by_cases hm : x.a1 = e.a1
        · rw [show (x.a1 != e.a1) = false by simp [hm]]
          repeat (first | refine Z0 ?_ | (refine ZR ?_; first | refine x1 ?_ | refine x2 ?_ | refine x8 ?_ | refine Z1 ?_ | refine Z2 ?_ | refine x3 fun _ => ?_ | refine x4 fun _ => ?_ | refine x5 fun _ => ?_ | refine Z3 fun _ => ?_ | refine Z4 fun _ => ?_) | refine ZC ?_)
          exact ⟨_, by rw [if_pos hm]; split <;> split <;> omega, by repeat (first | exact SubL.nil | refine SubL.cons rfl ?_), List.Sublist.refl _⟩
        · rw [show (x.a1 != e.a1) = true by simp [hm]]
          repeat (first | refine Z0 ?_ | (refine ZR ?_; first | refine x1 ?_ | refine x2 ?_ | refine x8 ?_ | refine Z1 ?_ | refine Z2 ?_ | refine x3 fun _ => ?_ | refine x4 fun _ => ?_ | refine x5 fun _ => ?_ | refine Z3 fun _ => ?_ | refine Z4 fun _ => ?_) | refine ZC ?_)
          exact ⟨_, by rw [if_neg hm], by repeat (first | exact SubL.nil | refine SubL.cons rfl ?_), List.Sublist.refl _⟩
      intro t ht
      repeat (first | refine Z0 ?_ | (refine ZR ?_; first | refine x1 ?_ | refine x2 ?_ | refine x8 ?_ | refine Z1 ?_ | refine Z2 ?_ | refine x3 fun _ => ?_ | refine x4 fun _ => ?_ | refine x5 fun _ => ?_ | refine Z3 fun _ => ?_ | refine Z4 fun _ => ?_) | refine ZC ?_)
      refine rt_midE (ι := Bool) (fun b => b = (decide (x.a1 = e.a1) && !e.a4)) (fun b => [(85, .bool b), (10, .bool (x.a1 != e.a1)), (9, .int .i64 (j : Int)), (0, .pointer (some ⟨q, 0, none⟩)), (11, .pointer (some ⟨t11, 0, none⟩)), (4, .pointer (some ⟨t4, 0, none⟩))])
        (fun _ => (t11, .row [.int .i64 x.a0, .int .i64 x.a1, .int .u64 x.a2, .int .u32 x.a3, .bool x.a4, .int .i64 x.a5] 6 false) :: (t4, .row [.int .i64 e.a0, .int .i64 e.a1, .int .u64 e.a2, .int .u32 e.a3, .bool e.a4, .int .i64 t] 6 false) :: (q, .row [.int .i64 ol, .slice (some ⟨b1, o1, none⟩) L.length c] 2 false) :: (G ++ H)) ?_ ?_
      · by_cases hm : x.a1 = e.a1
        · rw [show (x.a1 != e.a1) = false by simp [hm]]
          repeat (first | refine Z0 ?_ | (refine ZR ?_; first | refine x1 ?_ | refine x2 ?_ | refine x8 ?_ | refine Z1 ?_ | refine Z2 ?_ | refine x3 fun _ => ?_ | refine x4 fun _ => ?_ | refine x5 fun _ => ?_ | refine Z3 fun _ => ?_ | refine Z4 fun _ => ?_) | refine ZC ?_)
          exact ⟨!e.a4, by simp [hm], by repeat (first | exact SubL.nil | refine SubL.cons rfl ?_), List.Sublist.refl _⟩
        · rw [show (x.a1 != e.a1) = true by simp [hm]]
          repeat (first | refine Z0 ?_ | (refine ZR ?_; first | refine x1 ?_ | refine x2 ?_ | refine x8 ?_ | refine Z1 ?_ | refine Z2 ?_ | refine x3 fun _ => ?_ | refine x4 fun _ => ?_ | refine x5 fun _ => ?_ | refine Z3 fun _ => ?_ | refine Z4 fun _ => ?_) | refine ZC ?_)
          exact ⟨false, by simp [hm], by repeat (first | exact SubL.nil | refine SubL.cons rfl ?_), List.Sublist.refl _⟩
      intro b hb
      repeat (first | refine Z0 ?_ | (refine ZR ?_; first | refine x1 ?_ | refine x2 ?_ | refine x8 ?_ | refine Z1 ?_ | refine Z2 ?_ | refine x3 fun _ => ?_ | refine x4 fun _ => ?_ | refine x5 fun _ => ?_ | refine Z3 fun _ => ?_ | refine Z4 fun _ => ?_) | refine ZC ?_)
      refine ct_midE (ι := Unit) (fun _ => True) (fun _ => [(10, .bool (x.a1 != e.a1)), (9, .int .i64 (j : Int)), (0, .pointer (some ⟨q, 0, none⟩)), (4, .pointer (some ⟨t4, 0, none⟩))])
        (fun _ => (t4, .row (en37 (mrg x e)) 6 false) :: (q, .row [.int .i64 ol, .slice (some ⟨b1, o1, none⟩) L.length c] 2 false) :: (G ++ H)) ?_ ?_
      · cases b
        · have hmr : mrg x e = { e with a5 := t } := by
            unfold mrg
            by_cases hm : x.a1 = e.a1
            · rw [if_pos hm] at ht ⊢
              have h4 : e.a4 = true := by cases g : e.a4 <;> simp [hm, g] at hb ⊢
              rw [ht, h4]
              simp
            · rw [if_neg hm] at ht ⊢
              rw [ht]
          rw [hmr]
          repeat (first | refine Z0 ?_ | (refine ZR ?_; first | refine x1 ?_ | refine x2 ?_ | refine x8 ?_ | refine Z1 ?_ | refine Z2 ?_ | refine x3 fun _ => ?_ | refine x4 fun _ => ?_ | refine x5 fun _ => ?_ | refine Z3 fun _ => ?_ | refine Z4 fun _ => ?_) | refine ZC ?_)
          exact ⟨(), trivial, by repeat (first | exact SubL.nil | refine SubL.cons rfl ?_), List.Sublist.cons _ (List.Sublist.refl _)⟩
        · have hmr : mrg x e = { e with a5 := t, a3 := x.a3, a4 := x.a4 } := by
            have hm : x.a1 = e.a1 := by
              apply Classical.byContradiction
              intro g
              simp [g] at hb
            have h4 : e.a4 = false := by cases g : e.a4 <;> simp [hm, g] at hb ⊢
            unfold mrg
            rw [if_pos hm] at ht ⊢
            rw [ht, h4]
            simp
          rw [hmr]
          repeat (first | refine Z0 ?_ | (refine ZR ?_; first | refine x1 ?_ | refine x2 ?_ | refine x8 ?_ | refine Z1 ?_ | refine Z2 ?_ | refine x3 fun _ => ?_ | refine x4 fun _ => ?_ | refine x5 fun _ => ?_ | refine Z3 fun _ => ?_ | refine Z4 fun _ => ?_) | refine ZC ?_)
          refine ct_draw (masks := [0, 1, 0, 4, 3, 19, 63, 127]) (plan := [0, 1, 2, 3, 4, 5, 6, 7]) (E := []) (by kernel_rfl) (by kernel_rfl) (by kernel_rfl) (by kernel_rfl) ?_
          repeat (first | refine Y0 ?_ | (refine YP ?_; first | refine y1 ?_ | refine y2 ?_ | refine Y1 ?_ | refine Y2 ?_))
          refine y3 ?_
          repeat (first | refine Y0 ?_ | (refine YP ?_; first | refine y1 ?_ | refine y2 ?_ | refine Y1 ?_ | refine Y2 ?_))
          refine y3 ?_
          repeat (first | refine Y0 ?_ | (refine YP ?_; first | refine y1 ?_ | refine y2 ?_ | refine Y1 ?_ | refine Y2 ?_))
          repeat (first | refine Z0 ?_ | (refine ZR ?_; first | refine x1 ?_ | refine x2 ?_ | refine x8 ?_ | refine Z1 ?_ | refine Z2 ?_ | refine x3 fun _ => ?_ | refine x4 fun _ => ?_ | refine x5 fun _ => ?_ | refine Z3 fun _ => ?_ | refine Z4 fun _ => ?_) | refine ZC ?_)
          exact ⟨(), trivial, by repeat (first | exact SubL.nil | refine SubL.cons rfl ?_), List.Sublist.cons _ (List.Sublist.refl _)⟩
      intro _ _
      clear ht hb hL0
      have hcut := ho.cuts (C := cx B0 old) (pre := [(t4, .row (en37 (mrg x e)) 6 false), (q, .row [.int .i64 ol, .slice (some ⟨b1, o1, none⟩) L.length c] 2 false)]) (H0 := H) en37_len
      obtain ⟨ad3, c3, hs3, hw3⟩ := hcut.part 22 37 none (some (.int .i64 (j : Int))) 0 j rfl (sz rfl) (Nat.zero_le _) (by omega) (.inr ⟨rfl, rfl⟩) (.inl (by simp [natOf]))
      obtain ⟨ad4, c4, hs4, hw4⟩ := hcut.part 22 37 (some (.int .i64 ((j : Int) + 1))) none (j + 1) L.length rfl (sz rfl) (by omega) (Nat.le_refl _) (.inl rfl) (.inr ⟨rfl, rfl⟩)
      rw [List.drop_zero, Nat.sub_zero] at hw3
      rw [Nat.sub_zero] at hs3
      have hl3 : (L.take j).length = j := by rw [List.length_take]; omega
      have hl4 : ((L.drop (j + 1)).take (L.length - (j + 1))).length = L.length - (j + 1) := by rw [List.length_take, List.length_drop]; omega
      repeat (first | refine Z0 ?_ | (refine ZR ?_; first | refine x1 ?_ | refine x2 ?_ | refine x8 ?_ | refine Z1 ?_ | refine Z2 ?_ | refine x3 fun _ => ?_ | refine x4 fun _ => ?_ | refine x5 fun _ => ?_ | refine Z3 fun _ => ?_ | refine Z4 fun _ => ?_) | refine ZC ?_)
      refine ct_draw (masks := [0, 0, 0, 4, 12, 28, 0, 124, 254, 0, 512, 1536, 3584, 0, 8192, 32256, 65534, 131071, 262143, 524287]) (plan := [0, 2, 3, 4, 5, 6, 7, 9, 10, 11, 12, 13, 14, 15, 1, 8, 16, 17, 18, 19]) (E := []) (by kernel_rfl) (by kernel_rfl) (by kernel_rfl) (by kernel_rfl) ?_
      repeat (first | refine Y0 ?_ | (refine YP ?_; first | refine y1 ?_ | refine y2 ?_ | refine Y1 ?_ | refine Y2 ?_))
      refine pl_p rfl rfl rfl rfl rfl rfl (p_slc rfl rfl rfl hs3) ?_
      repeat (first | refine Y0 ?_ | (refine YP ?_; first | refine y1 ?_ | refine y2 ?_ | refine Y1 ?_ | refine Y2 ?_))
      refine pl_p rfl rfl rfl rfl rfl rfl (p_slc rfl rfl rfl hs4) ?_
      repeat (first | refine Y0 ?_ | (refine YP ?_; first | refine y1 ?_ | refine y2 ?_ | refine Y1 ?_ | refine Y2 ?_))
      refine pl_S rfl rfl rfl rfl rfl rfl (st_buildSlice rfl (zr rfl) rfl rfl rfl rfl rfl rfl fun b0 => ⟨by exact rec_auto, ?_⟩)
      repeat (first | refine Y0 ?_ | (refine YP ?_; first | refine y1 ?_ | refine y2 ?_ | refine Y1 ?_ | refine Y2 ?_))
      refine pl_S rfl rfl rfl rfl rfl rfl (st_appO (M := L.take j) (c := c3) (pre := []) (Hs := [_]) (Own.emp _ _) en37_len en37_one rfl (by rw [hl3]; rfl) (ap rfl) (hw3.weak (List.sublist_cons_self _ _)) (Nat.le_trans (Nat.mul_le_mul_right _ (show 2 * (([] : List S37).length + (L.take j).length) + 192 ≤ 6000 by rw [hl3, List.length_nil]; omega)) (by decide)) fun v3 H3 ho3 => ⟨by exact rec_auto, ?_⟩)
      repeat (first | refine Y0 ?_ | (refine YP ?_; first | refine y1 ?_ | refine y2 ?_ | refine Y1 ?_ | refine Y2 ?_))
      refine pl_S rfl rfl rfl rfl rfl rfl (st_appO (M := (L.drop (j + 1)).take (L.length - (j + 1))) (c := c4) (pre := []) (Hs := H3) ho3 en37_len en37_one rfl (by rw [hl4]; rfl) (ap rfl) (hw4.weak (by exact drop_auto)) (Nat.le_trans (Nat.mul_le_mul_right _ (show 2 * (([] ++ L.take j).length + ((L.drop (j + 1)).take (L.length - (j + 1))).length) + 192 ≤ 6000 by rw [hl4, List.nil_append, hl3]; omega)) (by decide)) fun v4 H4 ho4 => ⟨by exact rec_auto, ?_⟩)
      have ho5 := ho4
      obtain ⟨ad5, c5, rfl, _⟩ := ho4.arrW (C := cx B0 old) en37_len
      refine PlanT.perm ?_ (List.perm_append_comm_assoc [_, _] H4 _)
      repeat (first | refine Y0 ?_ | (refine YP ?_; first | refine y1 ?_ | refine y2 ?_ | refine Y1 ?_ | refine Y2 ?_))
      refine y3 ?_
      repeat (first | refine Y0 ?_ | (refine YP ?_; first | refine y1 ?_ | refine y2 ?_ | refine Y1 ?_ | refine Y2 ?_))
      repeat (first | refine Z0 ?_ | (refine ZR ?_; first | refine x1 ?_ | refine x2 ?_ | refine x8 ?_ | refine Z1 ?_ | refine Z2 ?_ | refine x3 fun _ => ?_ | refine x4 fun _ => ?_ | refine x5 fun _ => ?_ | refine Z3 fun _ => ?_ | refine Z4 fun _ => ?_) | refine ZC ?_)
      have hR : rmN (kOf e) L = [] ++ L.take j ++ (L.drop (j + 1)).take (L.length - (j + 1)) := by
        rw [rmN_at hs hx hk, List.nil_append, List.take_of_length_le (l := L.drop (j + 1)) (by rw [List.length_drop]; omega)]
      exact ⟨(mrg x e, x.a1 != e.a1, _, H4), ⟨by rw [hr]; by_cases g : x.a1 = e.a1 <;> simp [g], kOf_mrg, hmw, by dsimp only; rw [hR]; exact ho5⟩, by repeat (first | exact SubL.nil | refine SubL.cons rfl ?_), by exact drop_auto⟩
  clear haw ga ho hck hnf hnl hP
  rintro ⟨e2, mv, v2, G2⟩ ⟨hr, hk2, hw2, o2⟩
  dsimp only at hr hk2 hw2 o2 ⊢
  rw [hr] at hQ
  unfold putN at hQ
  rw [hk2] at hQ
  have hsR : SrtN (rmN (kOf e) L) := hs.sub List.filter_sublist
  have hvR : ∀ x ∈ rmN (kOf e) L, x.wf := fun x hx => (hv x (List.mem_filter.1 hx).1).1
  have hlR : (rmN (kOf e) L).length ≤ 2000 := Nat.le_trans (List.length_filter_le _ _) hL
  generalize rmN (kOf e) L = R at *
  clear hr hs hv hL
  obtain ⟨ad2, c2, ev2, _⟩ := o2.arrW (C := cx B0 old) en37_len
  subst ev2
  unfold en37
  repeat (first | refine Z0 ?_ | (refine ZR ?_; first | refine x1 ?_ | refine x2 ?_ | refine x8 ?_ | refine Z1 ?_ | refine Z2 ?_ | refine x3 fun _ => ?_ | refine x4 fun _ => ?_ | refine x5 fun _ => ?_ | refine Z3 fun _ => ?_ | refine Z4 fun _ => ?_) | refine ZC ?_)
  refine loop_ind (ι := Nat × Nat × Hp) (0, 0, G2) (fun i => R.length - i.1) (fun i => i.1 ≤ R.length ∧ i.2.1 ≤ i.1 ∧ (∀ j x, j < i.2.1 → R[j]? = some x → rkN x < rkN e2) ∧ (∀ j x, i.2.1 ≤ j → j < i.1 → R[j]? = some x → ¬ rkN x < rkN e2) ∧ Own en37 6 ((R.take i.1).map (stN e2) ++ R.drop i.1) (.slice ad2 R.length c2) i.2.2)
    (fun i => [(13, .int .i64 (i.1 : Int)), (12, .int .i64 (i.2.1 : Int)), (10, .bool mv), (0, .pointer (some ⟨q, 0, none⟩)), (4, .pointer (some ⟨t4, 0, none⟩))])
    (fun i => (t4, .row [.int .i64 e2.a0, .int .i64 e2.a1, .int .u64 e2.a2, .int .u32 e2.a3, .bool e2.a4, .int .i64 e2.a5] 6 false) :: (q, .row [.int .i64 ol, .slice ad2 R.length c2] 2 false) :: (i.2.2 ++ H)) ⟨Nat.zero_le _, Nat.le_refl _, fun j x hj => absurd hj (Nat.not_lt_zero _), fun j x _ hj => absurd hj (Nat.not_lt_zero _), o2⟩ (by repeat (first | exact SubL.nil | refine SubL.cons rfl ?_)) (List.Sublist.refl _) ?_
  clear o2
  rintro ⟨i, k, G3⟩ ⟨hi, hki, hlt, hge, o3⟩
  dsimp only at hi hki hlt hge o3 ⊢
  repeat (first | refine Z0 ?_ | (refine ZR ?_; first | refine x1 ?_ | refine x2 ?_ | refine x8 ?_ | refine Z1 ?_ | refine Z2 ?_ | refine x3 fun _ => ?_ | refine x4 fun _ => ?_ | refine x5 fun _ => ?_ | refine Z3 fun _ => ?_ | refine Z4 fun _ => ?_) | refine ZC ?_)
  refine ct_condT te_d rfl (fun hil => ?_) (fun hil => ?_)
  · have hil' : i < R.length := by omega
    obtain ⟨x, hx⟩ : ∃ x, R[i]? = some x := ⟨_, List.getElem?_eq_getElem hil'⟩
    have hxw := hvR x (List.mem_of_getElem? hx)
    have hx' := stN_get (e := e2) hx
    obtain ⟨ad', c', ev', aw⟩ := o3.arrW (C := cx B0 old) en37_len
    rw [stN_lenD] at ev'
    cases ev'
    have ha3 : Arr (cx B0 old) (G3 ++ H) ad2 6 en37 _ := (aw [] H).arr en37_len
    obtain ⟨b1, o1, e1, hL0⟩ := ha3.ldW 37 hx' rfl (sz rfl)
    subst e1
    clear aw ha3
    unfold en37 at hL0
    repeat (first | refine Z0 ?_ | (refine ZR ?_; first | refine x1 ?_ | refine x2 ?_ | refine x8 ?_ | refine Z1 ?_ | refine Z2 ?_ | refine x3 fun _ => ?_ | refine x4 fun _ => ?_ | refine x5 fun _ => ?_ | refine Z3 fun _ => ?_ | refine Z4 fun _ => ?_) | refine ZC ?_)
    rename_i t14
    refine rt_midE (ι := Bool) (fun b => b = decide (e2.a4 = true ∧ x.a0 = e2.a0 ∧ x.a4 = true ∧ x.a3 = e2.a3)) (fun b => [(146, .bool b), (13, .int .i64 (i : Int)), (12, .int .i64 (k : Int)), (10, .bool mv), (0, .pointer (some ⟨q, 0, none⟩)), (4, .pointer (some ⟨t4, 0, none⟩)), (14, .pointer (some ⟨t14, 0, none⟩))]) (fun _ => (t14, .row [.int .i64 x.a0, .int .i64 x.a1, .int .u64 x.a2, .int .u32 x.a3, .bool x.a4, .int .i64 x.a5] 6 false) :: (t4, .row [.int .i64 e2.a0, .int .i64 e2.a1, .int .u64 e2.a2, .int .u32 e2.a3, .bool e2.a4, .int .i64 e2.a5] 6 false) :: (q, .row [.int .i64 ol, .slice (some ⟨b1, o1, none⟩) R.length c2] 2 false) :: (G3 ++ H)) ?_ ?_
    · refine isRun ?_
      refine z1 (fun h4 => ?_) (fun h4 => ?_)
      · repeat (first | refine Z0 ?_ | (refine ZR ?_; first | refine x1 ?_ | refine x2 ?_ | refine x8 ?_ | refine Z1 ?_ | refine Z2 ?_ | refine x3 fun _ => ?_ | refine x4 fun _ => ?_ | refine x5 fun _ => ?_ | refine Z3 fun _ => ?_ | refine Z4 fun _ => ?_) | refine ZC ?_)
        by_cases h0 : x.a0 = e2.a0
        · rw [show (x.a0 == e2.a0) = true by simp [h0]]
          repeat (first | refine Z0 ?_ | (refine ZR ?_; first | refine x1 ?_ | refine x2 ?_ | refine x8 ?_ | refine Z1 ?_ | refine Z2 ?_ | refine x3 fun _ => ?_ | refine x4 fun _ => ?_ | refine x5 fun _ => ?_ | refine Z3 fun _ => ?_ | refine Z4 fun _ => ?_) | refine ZC ?_)
          refine isRun ?_
          refine z1 (fun hx4 => ?_) (fun hx4 => ?_)
          · repeat (first | refine Z0 ?_ | (refine ZR ?_; first | refine x1 ?_ | refine x2 ?_ | refine x8 ?_ | refine Z1 ?_ | refine Z2 ?_ | refine x3 fun _ => ?_ | refine x4 fun _ => ?_ | refine x5 fun _ => ?_ | refine Z3 fun _ => ?_ | refine Z4 fun _ => ?_) | refine ZC ?_)
            by_cases h3 : x.a3 = e2.a3
            · rw [show (x.a3 == e2.a3) = true by simp [h3]]
              repeat (first | refine Z0 ?_ | (refine ZR ?_; first | refine x1 ?_ | refine x2 ?_ | refine x8 ?_ | refine Z1 ?_ | refine Z2 ?_ | refine x3 fun _ => ?_ | refine x4 fun _ => ?_ | refine x5 fun _ => ?_ | refine Z3 fun _ => ?_ | refine Z4 fun _ => ?_) | refine ZC ?_)
              exact ⟨true, by simp [h4, h0, hx4, h3], by repeat (first | exact SubL.nil | refine SubL.cons rfl ?_), List.Sublist.refl _⟩
            · rw [show (x.a3 == e2.a3) = false by simpa using h3]
              repeat (first | refine Z0 ?_ | (refine ZR ?_; first | refine x1 ?_ | refine x2 ?_ | refine x8 ?_ | refine Z1 ?_ | refine Z2 ?_ | refine x3 fun _ => ?_ | refine x4 fun _ => ?_ | refine x5 fun _ => ?_ | refine Z3 fun _ => ?_ | refine Z4 fun _ => ?_) | refine ZC ?_)
              exact ⟨false, by simp [h3], by repeat (first | exact SubL.nil | refine SubL.cons rfl ?_), List.Sublist.refl _⟩
          · repeat (first | refine Z0 ?_ | (refine ZR ?_; first | refine x1 ?_ | refine x2 ?_ | refine x8 ?_ | refine Z1 ?_ | refine Z2 ?_ | refine x3 fun _ => ?_ | refine x4 fun _ => ?_ | refine x5 fun _ => ?_ | refine Z3 fun _ => ?_ | refine Z4 fun _ => ?_) | refine ZC ?_)
            exact ⟨false, by simp [hx4], by repeat (first | exact SubL.nil | refine SubL.cons rfl ?_), List.Sublist.refl _⟩
        · rw [show (x.a0 == e2.a0) = false by simpa using h0]
          repeat (first | refine Z0 ?_ | (refine ZR ?_; first | refine x1 ?_ | refine x2 ?_ | refine x8 ?_ | refine Z1 ?_ | refine Z2 ?_ | refine x3 fun _ => ?_ | refine x4 fun _ => ?_ | refine x5 fun _ => ?_ | refine Z3 fun _ => ?_ | refine Z4 fun _ => ?_) | refine ZC ?_)
          exact ⟨false, by simp [h0], by repeat (first | exact SubL.nil | refine SubL.cons rfl ?_), List.Sublist.refl _⟩
      · repeat (first | refine Z0 ?_ | (refine ZR ?_; first | refine x1 ?_ | refine x2 ?_ | refine x8 ?_ | refine Z1 ?_ | refine Z2 ?_ | refine x3 fun _ => ?_ | refine x4 fun _ => ?_ | refine x5 fun _ => ?_ | refine Z3 fun _ => ?_ | refine Z4 fun _ => ?_) | refine ZC ?_)
        exact ⟨false, by simp [h4], by repeat (first | exact SubL.nil | refine SubL.cons rfl ?_), List.Sublist.refl _⟩
    intro b hb
    repeat (first | refine Z0 ?_ | (refine ZR ?_; first | refine x1 ?_ | refine x2 ?_ | refine x8 ?_ | refine Z1 ?_ | refine Z2 ?_ | refine x3 fun _ => ?_ | refine x4 fun _ => ?_ | refine x5 fun _ => ?_ | refine Z3 fun _ => ?_ | refine Z4 fun _ => ?_) | refine ZC ?_)
    refine ct_midE (ι := Hp) (fun G4 => Own en37 6 ((R.take (i + 1)).map (stN e2) ++ R.drop (i + 1)) (.slice (some ⟨b1, o1, none⟩) R.length c2) G4) (fun _ => [(13, .int .i64 (i : Int)), (12, .int .i64 (k : Int)), (10, .bool mv), (0, .pointer (some ⟨q, 0, none⟩)), (4, .pointer (some ⟨t4, 0, none⟩)), (14, .pointer (some ⟨t14, 0, none⟩))]) (fun G4 => (t14, .row [.int .i64 x.a0, .int .i64 x.a1, .int .u64 x.a2, .int .u32 x.a3, .bool x.a4, .int .i64 x.a5] 6 false) :: (t4, .row [.int .i64 e2.a0, .int .i64 e2.a1, .int .u64 e2.a2, .int .u32 e2.a3, .bool e2.a4, .int .i64 e2.a5] 6 false) :: (q, .row [.int .i64 ol, .slice (some ⟨b1, o1, none⟩) R.length c2] 2 false) :: (G4 ++ H)) ?_ ?_
    · rw [← stN_snoc hx]
      cases b
      · rw [stN_none (of_decide_eq_false hb.symm), set_self hx']
        repeat (first | refine Z0 ?_ | (refine ZR ?_; first | refine x1 ?_ | refine x2 ?_ | refine x8 ?_ | refine Z1 ?_ | refine Z2 ?_ | refine x3 fun _ => ?_ | refine x4 fun _ => ?_ | refine x5 fun _ => ?_ | refine Z3 fun _ => ?_ | refine Z4 fun _ => ?_) | refine ZC ?_)
        exact ⟨G3, o3, by repeat (first | exact SubL.nil | refine SubL.cons rfl ?_), List.Sublist.refl _⟩
      · rw [stN_yes (of_decide_eq_true hb.symm)]
        obtain ⟨G4, o4, bb, cb, eb, hst1⟩ := o3.set (C := cx B0 old) (t := 35) (f := 3) (a' := { x with a3 := 0 }) (u := .int .u32 0) en37_len hx' (sz rfl) rfl rfl
        obtain ⟨G5, o5, bb2, cb2, eb2, hst2⟩ := o4.set (C := cx B0 old) (t := 4) (f := 4) (i := i) (a := { x with a3 := 0 }) (a' := { x with a3 := 0, a4 := false }) (u := .bool false) en37_len (by rw [List.getElem?_set_self (by rw [stN_lenD]; exact hil')]) (sz rfl) rfl rfl
        rw [List.set_set] at o5
        rw [stN_lenD] at eb
        rw [List.length_set, stN_lenD] at eb2
        cases eb
        cases eb2
        repeat (first | refine Z0 ?_ | (refine ZR ?_; first | refine x1 ?_ | refine x2 ?_ | refine x8 ?_ | refine Z1 ?_ | refine Z2 ?_ | refine x3 fun _ => ?_ | refine x4 fun _ => ?_ | refine x5 fun _ => ?_ | refine Z3 fun _ => ?_ | refine Z4 fun _ => ?_) | refine ZC ?_)
        refine ct_draw (masks := [0, 1, 3, 7, 0, 0, 32, 96, 224, 0, 511, 1535, 3583, 8191, 16383, 32767]) (plan := [0, 1, 2, 3, 4, 5, 6, 7, 8, 9, 10, 11, 12, 13, 14, 15]) (E := []) (by kernel_rfl) (by kernel_rfl) (by kernel_rfl) (by kernel_rfl) ?_
        repeat (first | refine Y0 ?_ | (refine YP ?_; first | refine y1 ?_ | refine y2 ?_ | refine Y1 ?_ | refine Y2 ?_))
        refine pl_st rfl rfl rfl rfl rfl rfl rfl rfl (hst1 [_, _, _] _) (by exact rec_auto) ?_
        repeat (first | refine Y0 ?_ | (refine YP ?_; first | refine y1 ?_ | refine y2 ?_ | refine Y1 ?_ | refine Y2 ?_))
        refine pl_st rfl rfl rfl rfl rfl rfl rfl rfl (hst2 [_, _, _] _) (by exact rec_auto) ?_
        repeat (first | refine Y0 ?_ | (refine YP ?_; first | refine y1 ?_ | refine y2 ?_ | refine Y1 ?_ | refine Y2 ?_))
        repeat (first | refine Z0 ?_ | (refine ZR ?_; first | refine x1 ?_ | refine x2 ?_ | refine x8 ?_ | refine Z1 ?_ | refine Z2 ?_ | refine x3 fun _ => ?_ | refine x4 fun _ => ?_ | refine x5 fun _ => ?_ | refine Z3 fun _ => ?_ | refine Z4 fun _ => ?_) | refine ZC ?_)
        exact ⟨G5, o5, by repeat (first | exact SubL.nil | refine SubL.cons rfl ?_), List.Sublist.refl _⟩
    clear hb hL0 o3
    intro G4 o4
    repeat (first | refine Z0 ?_ | (refine ZR ?_; first | refine x1 ?_ | refine x2 ?_ | refine x8 ?_ | refine Z1 ?_ | refine Z2 ?_ | refine x3 fun _ => ?_ | refine x4 fun _ => ?_ | refine x5 fun _ => ?_ | refine Z3 fun _ => ?_ | refine Z4 fun _ => ?_) | refine ZC ?_)
    have hrk := rk_less hxw hw2
    refine rt_midE (ι := Bool) (fun b => b = decide (rkN x < rkN e2)) (fun b => [(179, .bool b), (13, .int .i64 (i : Int)), (12, .int .i64 (k : Int)), (10, .bool mv), (0, .pointer (some ⟨q, 0, none⟩)), (4, .pointer (some ⟨t4, 0, none⟩)), (14, .pointer (some ⟨t14, 0, none⟩))]) (fun _ => (t4, .row [.int .i64 e2.a0, .int .i64 e2.a1, .int .u64 e2.a2, .int .u32 e2.a3, .bool e2.a4, .int .i64 e2.a5] 6 false) :: (q, .row [.int .i64 ol, .slice (some ⟨b1, o1, none⟩) R.length c2] 2 false) :: (G4 ++ H)) ?_ ?_
    · by_cases h0 : x.a0 < e2.a0
      · rw [show decide (x.a0 < e2.a0) = true from decide_eq_true h0]
        repeat (first | refine Z0 ?_ | (refine ZR ?_; first | refine x1 ?_ | refine x2 ?_ | refine x8 ?_ | refine Z1 ?_ | refine Z2 ?_ | refine x3 fun _ => ?_ | refine x4 fun _ => ?_ | refine x5 fun _ => ?_ | refine Z3 fun _ => ?_ | refine Z4 fun _ => ?_) | refine ZC ?_)
        exact ⟨true, (decide_eq_true (hrk.2 (.inl h0))).symm, by repeat (first | exact SubL.nil | refine SubL.cons rfl ?_), List.Sublist.cons _ (List.Sublist.refl _)⟩
      · rw [show decide (x.a0 < e2.a0) = false from decide_eq_false h0]
        repeat (first | refine Z0 ?_ | (refine ZR ?_; first | refine x1 ?_ | refine x2 ?_ | refine x8 ?_ | refine Z1 ?_ | refine Z2 ?_ | refine x3 fun _ => ?_ | refine x4 fun _ => ?_ | refine x5 fun _ => ?_ | refine Z3 fun _ => ?_ | refine Z4 fun _ => ?_) | refine ZC ?_)
        by_cases h00 : x.a0 = e2.a0
        · rw [show (x.a0 == e2.a0) = true by simp [h00]]
          repeat (first | refine Z0 ?_ | (refine ZR ?_; first | refine x1 ?_ | refine x2 ?_ | refine x8 ?_ | refine Z1 ?_ | refine Z2 ?_ | refine x3 fun _ => ?_ | refine x4 fun _ => ?_ | refine x5 fun _ => ?_ | refine Z3 fun _ => ?_ | refine Z4 fun _ => ?_) | refine ZC ?_)
          exact ⟨decide (x.a2 < e2.a2), by rw [decide_eq_decide, hrk]; omega, by repeat (first | exact SubL.nil | refine SubL.cons rfl ?_), List.Sublist.cons _ (List.Sublist.refl _)⟩
        · rw [show (x.a0 == e2.a0) = false by simpa using h00]
          repeat (first | refine Z0 ?_ | (refine ZR ?_; first | refine x1 ?_ | refine x2 ?_ | refine x8 ?_ | refine Z1 ?_ | refine Z2 ?_ | refine x3 fun _ => ?_ | refine x4 fun _ => ?_ | refine x5 fun _ => ?_ | refine Z3 fun _ => ?_ | refine Z4 fun _ => ?_) | refine ZC ?_)
          exact ⟨false, (decide_eq_false (fun g => by have := hrk.1 g; omega)).symm, by repeat (first | exact SubL.nil | refine SubL.cons rfl ?_), List.Sublist.cons _ (List.Sublist.refl _)⟩
    rintro (_ | _) hb
    · have hb := of_decide_eq_false hb.symm
      repeat (first | refine Z0 ?_ | (refine ZR ?_; first | refine x1 ?_ | refine x2 ?_ | refine x8 ?_ | refine Z1 ?_ | refine Z2 ?_ | refine x3 fun _ => ?_ | refine x4 fun _ => ?_ | refine x5 fun _ => ?_ | refine Z3 fun _ => ?_ | refine Z4 fun _ => ?_) | refine ZC ?_)
      exact ⟨(i + 1, k, G4), ⟨by dsimp only; omega, by dsimp only; omega, hlt, fun j y h1 h2 hy => by
        by_cases g : j = i
        · subst g
          obtain rfl := Option.some.inj (hx.symm.trans hy)
          exact hb
        · exact hge j y h1 (by dsimp only at h2; omega) hy, o4⟩, by dsimp only; omega, by repeat (first | exact SubL.nil | refine SubL.cons rfl ?_), by exact drop_auto⟩
    · have hb := of_decide_eq_true hb.symm
      repeat (first | refine Z0 ?_ | (refine ZR ?_; first | refine x1 ?_ | refine x2 ?_ | refine x8 ?_ | refine Z1 ?_ | refine Z2 ?_ | refine x3 fun _ => ?_ | refine x4 fun _ => ?_ | refine x5 fun _ => ?_ | refine Z3 fun _ => ?_ | refine Z4 fun _ => ?_) | refine ZC ?_)
      exact ⟨(i + 1, i + 1, G4), ⟨by dsimp only; omega, Nat.le_refl _, fun j y h1 hy => by
        by_cases g : j = i
        · subst g
          obtain rfl := Option.some.inj (hx.symm.trans hy)
          exact hb
        · have := srtR_lt hsR hy hx (by dsimp only at h1; omega)
          omega, fun j y h1 h2 => absurd h2 (by dsimp only at h1 h2 ⊢; omega), o4⟩, by dsimp only; omega, by repeat (first | exact SubL.nil | refine SubL.cons rfl ?_), by exact drop_auto⟩
  obtain rfl : i = R.length := by omega
  rw [List.take_length, List.drop_length, List.append_nil] at o3
  have hins : insN e2 (R.map (stN e2)) = (R.map (stN e2)).take k ++ e2 :: (R.map (stN e2)).drop k := ins_take (by rw [List.length_map]; exact hki) (fun j x hj hx => by
    rw [List.getElem?_map] at hx
    obtain ⟨y, hy, rfl⟩ := Option.map_eq_some_iff.1 hx
    rw [rkN_st]
    exact hlt j y hj hy) (fun x hx => by
    rw [List.getElem?_map] at hx
    obtain ⟨y, hy, rfl⟩ := Option.map_eq_some_iff.1 hx
    rw [rkN_st]
    exact hge k y (Nat.le_refl _) (List.getElem?_eq_some_iff.1 hy).1 hy)
  have hlm : (R.map (stN e2)).length = R.length := List.length_map _
  generalize R.map (stN e2) = M at *
  rw [← hlm] at hlR hki ⊢
  clear hlt hge hsR hvR hil hi
  have hcut := o3.cuts (C := cx B0 old) (pre := [(t4, .row [.int .i64 e2.a0, .int .i64 e2.a1, .int .u64 e2.a2, .int .u32 e2.a3, .bool e2.a4, .int .i64 e2.a5] 6 false), (q, .row [.int .i64 ol, .slice ad2 M.length c2] 2 false)]) (H0 := H) en37_len
  rw [← hlm] at hcut
  obtain ⟨ad3, c3, hs3, hw3⟩ := hcut.part 22 37 none (some (.int .i64 (k : Int))) 0 k rfl (sz rfl) (Nat.zero_le _) (by omega) (.inr ⟨rfl, rfl⟩) (.inl (by simp [natOf]))
  obtain ⟨ad4, c4, hs4, hw4⟩ := hcut.part 22 37 (some (.int .i64 (k : Int))) none k M.length rfl (sz rfl) (by omega) (Nat.le_refl _) (.inl (by simp [natOf])) (.inr ⟨rfl, rfl⟩)
  rw [List.drop_zero, Nat.sub_zero] at hw3
  rw [Nat.sub_zero] at hs3
  have hl3 : (M.take k).length = k := by rw [List.length_take]; omega
  have hl4 : ((M.drop k).take (M.length - k)).length = M.length - k := by rw [List.length_take, List.length_drop]; omega
  repeat (first | refine Z0 ?_ | (refine ZR ?_; first | refine x1 ?_ | refine x2 ?_ | refine x8 ?_ | refine Z1 ?_ | refine Z2 ?_ | refine x3 fun _ => ?_ | refine x4 fun _ => ?_ | refine x5 fun _ => ?_ | refine Z3 fun _ => ?_ | refine Z4 fun _ => ?_) | refine ZC ?_)
  refine ct_draw (masks := [0, 0, 0, 4, 12, 28, 0, 124, 254, 0, 512, 2046, 0, 4096, 12288, 28672, 0, 126976, 262142, 524287, 1048575, 2097151]) (plan := [0, 2, 3, 4, 5, 6, 7, 9, 12, 13, 14, 15, 16, 17, 1, 8, 10, 11, 18, 19, 20, 21]) (E := [10]) (by kernel_rfl) (by kernel_rfl) (by kernel_rfl) (by kernel_rfl) ?_
  repeat (first | refine Y0 ?_ | (refine YP ?_; first | refine y1 ?_ | refine y2 ?_ | refine Y1 ?_ | refine Y2 ?_))
  refine pl_p rfl rfl rfl rfl rfl rfl (p_slc rfl rfl rfl hs3) ?_
  repeat (first | refine Y0 ?_ | (refine YP ?_; first | refine y1 ?_ | refine y2 ?_ | refine Y1 ?_ | refine Y2 ?_))
  refine pl_p rfl rfl rfl rfl rfl rfl (p_slc rfl rfl rfl hs4) ?_
  repeat (first | refine Y0 ?_ | (refine YP ?_; first | refine y1 ?_ | refine y2 ?_ | refine Y1 ?_ | refine Y2 ?_))
  refine pl_S' (late_has 10 rfl (made_slice rfl rfl rfl (zr rfl) rfl rfl rfl rfl rfl rfl)) rfl rfl rfl rfl rfl rfl (st_buildSlice rfl (zr rfl) rfl rfl rfl rfl rfl rfl fun b0 => ⟨by exact rec_auto, ?_⟩)
  repeat (first | refine Y0 ?_ | (refine YP ?_; first | refine y1 ?_ | refine y2 ?_ | refine Y1 ?_ | refine Y2 ?_))
  refine pl_S' (late_has 10 rfl (made_slice rfl rfl rfl (zr rfl) rfl rfl rfl rfl rfl rfl)) rfl rfl rfl rfl rfl rfl (st_appO (M := M.take k) (c := c3) (pre := []) (Hs := [_]) (Own.emp _ _) en37_len en37_one rfl (by rw [hl3]; rfl) (ap rfl) (hw3.weak (List.sublist_cons_self _ _)) (Nat.le_trans (Nat.mul_le_mul_right _ (show 2 * (([] : List S37).length + (M.take k).length) + 192 ≤ 6000 by rw [hl3, List.length_nil]; omega)) (by decide)) fun v3 H3 ho3 => ⟨by exact rec_auto, ?_⟩)
  repeat (first | refine Y0 ?_ | (refine YP ?_; first | refine y1 ?_ | refine y2 ?_ | refine Y1 ?_ | refine Y2 ?_))
  refine pl_S' (late_has 10 rfl (made_slice rfl rfl rfl (zr rfl) rfl rfl rfl rfl rfl rfl)) rfl rfl rfl rfl rfl rfl (st_buildSlice rfl (zr rfl) rfl rfl rfl rfl rfl rfl fun bo => ⟨by exact rec_auto, ?_⟩)
  repeat (first | refine Y0 ?_ | (refine YP ?_; first | refine y1 ?_ | refine y2 ?_ | refine Y1 ?_ | refine Y2 ?_))
  refine pl_S' (late_no rfl) rfl rfl rfl rfl rfl rfl (st_appO (M := [e2]) (c := 1) (pre := [_]) (Hs := H3) ho3 en37_len en37_one rfl rfl (ap rfl) (arrW_one en37_len (List.Mem.head _)) (Nat.le_trans (Nat.mul_le_mul_right _ (show 2 * (([] ++ M.take k).length + [e2].length) + 192 ≤ 6000 by rw [List.nil_append, hl3, List.length_singleton]; omega)) (by decide)) fun v4 H4 ho4 => ⟨by exact rec_auto, ?_⟩)
  repeat (first | refine Y0 ?_ | (refine YP ?_; first | refine y1 ?_ | refine y2 ?_ | refine Y1 ?_ | refine Y2 ?_))
  refine pl_S' (late_no rfl) rfl rfl rfl rfl rfl rfl (st_appO (M := (M.drop k).take (M.length - k)) (c := c4) (pre := []) (Hs := H4) ho4 en37_len en37_one rfl (by rw [hl4]; rfl) (ap rfl) (hw4.weak (by exact drop_auto)) (Nat.le_trans (Nat.mul_le_mul_right _ (show 2 * (([] ++ M.take k ++ [e2]).length + ((M.drop k).take (M.length - k)).length) + 192 ≤ 6000 by rw [hl4, List.nil_append, List.length_append, hl3, List.length_singleton]; omega)) (by decide)) fun v5 H5 ho5 => ⟨by exact rec_auto, ?_⟩)
  have ho6 := ho5
  obtain ⟨ad5, c5, rfl, _⟩ := ho5.arrW (C := cx B0 old) en37_len
  refine PlanT.perm ?_ (List.perm_append_comm_assoc [_, _, _] H5 _)
  repeat (first | refine Y0 ?_ | (refine YP ?_; first | refine y1 ?_ | refine y2 ?_ | refine Y1 ?_ | refine Y2 ?_))
  refine pl_st' (late_no rfl) rfl rfl rfl rfl rfl rfl rfl rfl (by repeat (first | exact sV (sz rfl) rfl rfl | exact sW (sz rfl) rfl rfl rfl | exact sF (sz rfl) rfl rfl rfl | exact sG (sz rfl) rfl rfl | exact sM (f := vV) (sz rfl) rfl rfl (by omega) | exact sM (sz rfl) rfl rfl (by omega) | apply sS | apply sA)) (by exact rec_auto) ?_
  repeat (first | refine Y0 ?_ | (refine YP ?_; first | refine y1 ?_ | refine y2 ?_ | refine Y1 ?_ | refine Y2 ?_))
  repeat (first | refine Z0 ?_ | (refine ZR ?_; first | refine x1 ?_ | refine x2 ?_ | refine x8 ?_ | refine Z1 ?_ | refine Z2 ?_ | refine x3 fun _ => ?_ | refine x4 fun _ => ?_ | refine x5 fun _ => ?_ | refine Z3 fun _ => ?_ | refine Z4 fun _ => ?_) | refine ZC ?_)
  have hfin : insN e2 M = [] ++ M.take k ++ [e2] ++ (M.drop k).take (M.length - k) := by
    rw [hins, List.nil_append, List.take_of_length_le (l := M.drop k) (by rw [List.length_drop]; omega), List.append_assoc]
    rfl
  rw [hfin] at hQ
  exact re_2 rfl rfl rfl (by exact drop_auto) (hQ _ _ ho6)
end
end Go.Proofs.Ytojnbjandkbkmaa.Abs

/- The contract of the statement LearnMany. -/
namespace Go.Proofs.Ytojnbjandkbkmaa.Abs
open Go
set_option linter.unusedVariables false
theorem mn_a {t u : Nat × AObj} {G R H : Hp} : (G ++ (t :: u :: (R ++ H))).Perm (t :: u :: (R ++ (G ++ H))) :=
  List.perm_middle.trans (List.Perm.cons _ (List.perm_middle.trans (List.Perm.cons _ (List.perm_append_comm_assoc _ _ _))))
theorem mn_b {t u : Nat × AObj} {G R H : Hp} : (u :: (R ++ (G ++ (t :: H)))).Perm (G ++ (t :: u :: (R ++ H))) := by
  refine List.Perm.trans (List.Perm.cons _ (List.perm_append_comm_assoc _ _ _)) ?_
  refine List.Perm.trans (List.perm_middle.symm) (List.Perm.append_left G ?_)
  refine List.Perm.trans (List.Perm.cons _ List.perm_middle) ?_
  exact List.Perm.swap _ _ _
theorem mn_c {u : Nat × AObj} {G R H : Hp} : (G ++ (u :: (R ++ H))).Perm (u :: (R ++ (G ++ H))) := List.perm_middle.trans (List.Perm.cons _ (List.perm_append_comm_assoc _ _ _))
section
variable {B0 : Nat} {old : Nat → Option (List Value)} {n : Nat} {H G : Hp} {Q : Value → Hp → Prop} {v : Value} {age ol : Int} {L A : List S37} {p q c : Nat} {ad : Option Addr}
set_option maxRecDepth 10000
set_option maxHeartbeats 8000000
theorem near17_ct (hT : TbP (.pointer (some ⟨p, 0, none⟩)) age L G) (hq : (q, AObj.row [.int .i64 ol, .slice ad L.length c] 2 false) ∈ H) (ha : Arr (cx B0 old) H ad 6 en37 L) (hl : L.length ≤ 100000) (e : S37) (hQ : Q (.bool true) (G ++ H)) :
    CallT (cx B0 old) (acall (cx B0 old) ansP (n + 4)) 17 [.pointer (some ⟨p, 0, none⟩), .pointer (some ⟨q, 0, none⟩), .agg ⟨en37 e⟩] (G ++ H) Q := by
  refine call_in3 69 rfl Try.func17 rfl rfl ?_
  have hlk := fun {H' : Hp} {Q' : Value → Hp → Prop} h' => lookW (B0 := B0) (old := old) (n := n + 1) (H := H') (Q := Q') hT e.a0 e.a2 h'
  have hfd := fun {H' : Hp} {Q' : Value → Hp → Prop} h' => findW (B0 := B0) (old := old) (n := n) (H := H') (Q := Q') hT e.a0 e.a3 h'
  have hrl := fun {H' : Hp} {Q' : Value → Hp → Prop} hq' ha' h' => rlook39_ct (B0 := B0) (old := old) (n := n + 1) (H := H') (Q := Q') (ol := ol) (c := c) (q := q) (ad := ad) hT.srt.1 hq' ha' hl e.a0 e.a2 h'
  have hrf := fun {H' : Hp} {Q' : Value → Hp → Prop} hq' ha' h' => rfind40_ct (B0 := B0) (old := old) (n := n + 2) (H := H') (Q := Q') (L := L) (ol := ol) (c := c) (q := q) (ad := ad) hq' ha' hl e.a0 e.a3 h'
  clear hT
  generalize (findN L ⟨e.a0, e.a2⟩).getD zN = x at *
  generalize (findN L ⟨e.a0, e.a2⟩).isSome = b at *
  generalize (findIP L e.a0 e.a3).getD zN = y at *
  generalize (findIP L e.a0 e.a3).isSome = d at *
  have hsx := leaf37 x x
  have hsy := leaf37 y y
  rw [decide_eq_true rfl] at hsx hsy
  unfold en37 at hlk hfd hrl hrf hsx hsy ⊢
  repeat (first | refine Z0 ?_ | (refine ZR ?_; first | refine x1 ?_ | refine x2 ?_ | refine x8 ?_ | refine Z1 ?_ | refine Z2 ?_ | refine x3 fun _ => ?_ | refine x4 fun _ => ?_ | refine x5 fun _ => ?_ | refine Z3 fun _ => ?_ | refine Z4 fun _ => ?_) | refine ZC ?_)
  refine rt_step rfl rfl rfl (st_call rfl rfl rfl rfl (CallT.perm (hlk ?_) List.perm_middle))
  repeat (first | refine Z0 ?_ | (refine ZR ?_; first | refine x1 ?_ | refine x2 ?_ | refine x8 ?_ | refine Z1 ?_ | refine Z2 ?_ | refine x3 fun _ => ?_ | refine x4 fun _ => ?_ | refine x5 fun _ => ?_ | refine Z3 fun _ => ?_ | refine Z4 fun _ => ?_) | refine ZC ?_)
  refine rt_step rfl rfl rfl (st_call rfl rfl rfl rfl (hrl (List.Mem.tail _ (List.mem_append_right _ (List.Mem.tail _ hq))) (ha.weak (by exact drop_auto)) ?_))
  repeat (first | refine Z0 ?_ | (refine ZR ?_; first | refine x1 ?_ | refine x2 ?_ | refine x8 ?_ | refine Z1 ?_ | refine Z2 ?_ | refine x3 fun _ => ?_ | refine x4 fun _ => ?_ | refine x5 fun _ => ?_ | refine Z3 fun _ => ?_ | refine Z4 fun _ => ?_) | refine ZC ?_)
  refine rt_step rfl rfl rfl (st_call rfl rfl rfl rfl (CallT.perm (hfd ?_) (List.perm_middle.trans (List.Perm.cons _ List.perm_middle))))
  repeat (first | refine Z0 ?_ | (refine ZR ?_; first | refine x1 ?_ | refine x2 ?_ | refine x8 ?_ | refine Z1 ?_ | refine Z2 ?_ | refine x3 fun _ => ?_ | refine x4 fun _ => ?_ | refine x5 fun _ => ?_ | refine Z3 fun _ => ?_ | refine Z4 fun _ => ?_) | refine ZC ?_)
  refine rt_step rfl rfl rfl (st_call rfl rfl rfl rfl (hrf (List.Mem.tail _ (List.mem_append_right _ (List.Mem.tail _ (List.Mem.tail _ (List.Mem.tail _ hq))))) (ha.weak (by exact drop_auto)) ?_))
  repeat (first | refine Z0 ?_ | (refine ZR ?_; first | refine x1 ?_ | refine x2 ?_ | refine x8 ?_ | refine Z1 ?_ | refine Z2 ?_ | refine x3 fun _ => ?_ | refine x4 fun _ => ?_ | refine x5 fun _ => ?_ | refine Z3 fun _ => ?_ | refine Z4 fun _ => ?_) | refine ZC ?_)
  rw [hsx]
  repeat (first | refine Z0 ?_ | (refine ZR ?_; first | refine x1 ?_ | refine x2 ?_ | refine x8 ?_ | refine Z1 ?_ | refine Z2 ?_ | refine x3 fun _ => ?_ | refine x4 fun _ => ?_ | refine x5 fun _ => ?_ | refine Z3 fun _ => ?_ | refine Z4 fun _ => ?_) | refine ZC ?_)
  rw [show (b == b) = true by simp]
  repeat (first | refine Z0 ?_ | (refine ZR ?_; first | refine x1 ?_ | refine x2 ?_ | refine x8 ?_ | refine Z1 ?_ | refine Z2 ?_ | refine x3 fun _ => ?_ | refine x4 fun _ => ?_ | refine x5 fun _ => ?_ | refine Z3 fun _ => ?_ | refine Z4 fun _ => ?_) | refine ZC ?_)
  rw [hsy]
  repeat (first | refine Z0 ?_ | (refine ZR ?_; first | refine x1 ?_ | refine x2 ?_ | refine x8 ?_ | refine Z1 ?_ | refine Z2 ?_ | refine x3 fun _ => ?_ | refine x4 fun _ => ?_ | refine x5 fun _ => ?_ | refine Z3 fun _ => ?_ | refine Z4 fun _ => ?_) | refine ZC ?_)
  rw [show (d == d) = true by simp]
  repeat (first | refine Z0 ?_ | (refine ZR ?_; first | refine x1 ?_ | refine x2 ?_ | refine x8 ?_ | refine Z1 ?_ | refine Z2 ?_ | refine x3 fun _ => ?_ | refine x4 fun _ => ?_ | refine x5 fun _ => ?_ | refine Z3 fun _ => ?_ | refine Z4 fun _ => ?_) | refine ZC ?_)
  exact re_1 rfl rfl (by exact drop_auto) hQ
end
end Go.Proofs.Ytojnbjandkbkmaa.Abs

/- The readings for the statement LearnMany. -/
