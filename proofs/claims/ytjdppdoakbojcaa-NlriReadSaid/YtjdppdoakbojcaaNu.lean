/- What the texts of chapter 04 lean on: numbers of bytes, views of slices, the writer under another block. -/
import Derived.Test.YtjdppdoakbojcaaWt1
import Derived.Test.YtjdppdoakbojcaaTop
namespace Go.Proofs.Ytjdppdoakbojcaa.Abs
open Go
set_option linter.unusedVariables false
def num (L : List Int) : Nat := L.foldl (fun a x => a * 256 + x.toNat) 0
theorem num_from (L : List Int) : ∀ a : Nat, L.foldl (fun a x => a * 256 + x.toNat) a = a * 256 ^ L.length + num L := by
  induction L with
  | nil => intro a; simp [num]
  | cons x L ih =>
    intro a
    have h : num (x :: L) = (0 * 256 + x.toNat) * 256 ^ L.length + num L := ih _
    rw [List.foldl_cons, ih, h, List.length_cons, Nat.pow_succ, Nat.add_mul, Nat.zero_mul, Nat.zero_add, Nat.mul_assoc a, Nat.mul_comm 256]
    omega
theorem num_cons (x : Int) (L : List Int) : num (x :: L) = x.toNat * 256 ^ L.length + num L := by
  rw [num, List.foldl_cons, num_from, Nat.zero_mul, Nat.zero_add]
theorem num_snoc (L : List Int) (x : Int) : num (L ++ [x]) = num L * 256 + x.toNat := by
  rw [num, List.foldl_append]; rfl
theorem num_be (x : Nat) : ∀ k, num (be x k) = x % 256 ^ k
  | 0 => by rw [be, Nat.pow_zero, Nat.mod_one]; rfl
  | k + 1 => by
    rw [be, num_cons, num_be x k, be_len, Int.toNat_natCast, Nat.pow_succ, Nat.mod_mul]
    rw [Nat.mul_comm (256 ^ k)]; omega
theorem num_bei {x : Int} {k : Nat} (h0 : 0 ≤ x) (h : x < 256 ^ k) : ((num (be x.toNat k) : Nat) : Int) = x := by
  obtain ⟨n, rfl⟩ := Int.eq_ofNat_of_zero_le h0
  rw [Int.toNat_natCast, num_be, Nat.mod_eq_of_lt (by rw [show (256 : Int) ^ k = ((256 ^ k : Nat) : Int) from (Int.natCast_pow 256 k).symm] at h; exact Int.ofNat_lt.1 h)]
theorem num_lt {L : List Int} (h : ∀ y ∈ L, isY y) : num L < 256 ^ L.length := by
  induction L with
  | nil => exact Nat.one_pos
  | cons x L ih =>
    have hx := h x (List.mem_cons_self ..)
    have := ih fun y hy => h y (List.mem_cons_of_mem _ hy)
    rw [num_cons, List.length_cons, Nat.pow_succ]
    unfold isY at hx
    have h1 : x.toNat ≤ 255 := by omega
    have := Nat.mul_le_mul_right (256 ^ L.length) h1
    omega
theorem be_mod (x : Nat) : ∀ k m, be (x + m * 256 ^ k) k = be x k
  | 0, m => rfl
  | k + 1, m => by
    have e : x + m * 256 ^ (k + 1) = x + (m * 256) * 256 ^ k := by rw [Nat.pow_succ, Nat.mul_comm (256 ^ k), Nat.mul_assoc]
    rw [be, be, e, be_mod x k (m * 256), Nat.add_mul_div_right _ _ (Nat.pow_pos (by decide))]
    congr 2
    omega
theorem be_num {L : List Int} (h : ∀ y ∈ L, isY y) : be (num L) L.length = L := by
  induction L with
  | nil => rfl
  | cons x L ih =>
    have hx := h x (List.mem_cons_self ..)
    have hL : ∀ y ∈ L, isY y := fun y hy => h y (List.mem_cons_of_mem _ hy)
    have hl := num_lt hL
    rw [List.length_cons, be, num_cons, Nat.add_comm, be_mod, ih hL, Nat.add_mul_div_right _ _ (Nat.pow_pos (by decide)), Nat.div_eq_of_lt hl]
    unfold isY at hx
    congr 1
    omega
theorem be_inj {x y k : Nat} (hx : x < 256 ^ k) (hy : y < 256 ^ k) (h : be x k = be y k) : x = y := by
  have := congrArg num h
  rwa [num_be, num_be, Nat.mod_eq_of_lt hx, Nat.mod_eq_of_lt hy] at this
/-- Some elements from a place on. -/
def sub (L : List Int) (i k : Nat) : List Int := (L.drop i).take k
theorem sub_len {L : List Int} {i k : Nat} (h : i + k ≤ L.length) : (sub L i k).length = k := by
  unfold sub; rw [List.length_take, List.length_drop]; omega
theorem sub_l {A B : List Int} {i k : Nat} (h : i + k ≤ A.length) : sub (A ++ B) i k = sub A i k := by
  unfold sub
  rw [List.drop_append_of_le_length (by omega), List.take_append_of_le_length (by rw [List.length_drop]; omega)]
theorem sub_r {A B : List Int} {i k : Nat} (h : A.length ≤ i) : sub (A ++ B) i k = sub B (i - A.length) k := by
  unfold sub
  rw [List.drop_append, List.drop_eq_nil_of_le h, List.nil_append]
theorem sub_e {A : List Int} {k : Nat} (h : A.length = k) : sub A 0 k = A := by
  unfold sub; rw [List.drop_zero, ← h, List.take_length]
theorem sub_mem {L : List Int} {i k : Nat} {y : Int} (h : y ∈ sub L i k) : y ∈ L := List.mem_of_mem_drop (List.mem_of_mem_take h)
theorem sub_take {L : List Int} {c i k : Nat} (h : i + k ≤ c) : sub (L.take c) i k = sub L i k := by
  unfold sub
  rw [List.drop_take, List.take_take, Nat.min_eq_left (by omega)]


theorem u64_eq (x : Int) : IntKind.u64.wrap x = x % 18446744073709551616 := by simp [IntKind.wrap, IntKind.bits, IntKind.signed]
theorem getY {L : List Int} (h : ∀ y ∈ L, isY y) {i : Nat} {x : Int} (hx : L[i]? = some x) : isY x := h x (List.mem_of_getElem? hx)
theorem take_Y {L : List Int} (h : ∀ y ∈ L, isY y) (i : Nat) : ∀ y ∈ L.take i, isY y := fun y hy => h y (List.mem_of_mem_take hy)
theorem shl64 {a : Nat} (h : a < 72057594037927936) : IntKind.u64.wrap (((a : Nat) : Int) * 2 ^ (min (8 : Int).toNat IntKind.u64.bits)) = ((a * 256 : Nat) : Int) := by
  rw [show ((2 : Int) ^ (min (8 : Int).toNat IntKind.u64.bits)) = 256 from rfl, u64_eq]; omega
theorem or64 {a : Nat} {y : Int} (ha : a < 72057594037927936) (h : isY y) : IntKind.u64.wrap ((BitVec.ofInt IntKind.u64.bits ((a * 256 : Nat) : Int) ||| BitVec.ofInt IntKind.u64.bits (IntKind.u64.wrap y)).toNat : Int) = ((a * 256 + y.toNat : Nat) : Int) := by
  unfold isY at h
  obtain ⟨b, rfl⟩ := Int.eq_ofNat_of_zero_le h.1
  have hb : b < 256 := by omega
  rw [u64_eq (b : Int), show ((b : Int) % 18446744073709551616) = ((b : Nat) : Int) by omega, Int.toNat_natCast]
  have e : (BitVec.ofInt IntKind.u64.bits ((a * 256 : Nat) : Int) ||| BitVec.ofInt IntKind.u64.bits (b : Int)).toNat = a * 256 + b := by
    rw [BitVec.toNat_or, BitVec.ofInt_natCast, BitVec.ofInt_natCast, BitVec.toNat_ofNat, BitVec.toNat_ofNat]
    show (a * 256) % 18446744073709551616 ||| b % 18446744073709551616 = a * 256 + b
    rw [Nat.mod_eq_of_lt (by omega), Nat.mod_eq_of_lt (by omega), Nat.mul_comm a, show (256 : Nat) = 2 ^ 8 from rfl, Nat.two_pow_add_eq_or_of_lt (by omega : b < 2 ^ 8)]
  rw [e, u64_eq]
  omega
theorem num_small {L : List Int} (h : ∀ y ∈ L, isY y) (hl : L.length < 8) : num L < 72057594037927936 := by
  have := num_lt h
  have h2 : 256 ^ L.length ≤ 256 ^ 7 := Nat.pow_le_pow_right (by decide) (by omega)
  omega
theorem num_u64 {L : List Int} (h : ∀ y ∈ L, isY y) (hl : L.length ≤ 8) : num L < 18446744073709551616 := by
  have := num_lt h
  have h2 : 256 ^ L.length ≤ 256 ^ 8 := Nat.pow_le_pow_right (by decide) hl
  omega
theorem sub_succ {L : List Int} {i k : Nat} {x : Int} (h : L[i + k]? = some x) : sub L i (k + 1) = sub L i k ++ [x] := by
  unfold sub
  rw [List.take_add_one, List.getElem?_drop, h]
  rfl
theorem sub_Y {L : List Int} (h : ∀ y ∈ L, isY y) (i k : Nat) : ∀ y ∈ sub L i k, isY y := fun y hy => h y (sub_mem hy)
theorem sub_le (L : List Int) (i k : Nat) : (sub L i k).length ≤ k := by unfold sub; rw [List.length_take]; omega
theorem num_subk {L : List Int} (h : ∀ y ∈ L, isY y) (i k : Nat) : num (sub L i k) < 256 ^ k := by
  have := num_lt (sub_Y h i k)
  have h2 : 256 ^ (sub L i k).length ≤ 256 ^ k := Nat.pow_le_pow_right (by decide) (sub_le L i k)
  omega
theorem CallT.permQ {C : Ctx} {hc : Abs.H Prop} {g : FuncId} {args : List Value} {H1 H : Hp} {Q : Value → Hp → Prop} (h : CallT C hc g args H1 fun v H' => ∃ H2 : Hp, H2.Perm H' ∧ Q v H2) (hs : H1.Perm H) : CallT C hc g args H Q := by
  unfold CallT at h ⊢
  intro s k hm hk
  exact h s k (hm.perm hs) fun v H' s' ⟨H2, h1, h2⟩ hm' => hk v H2 s' h2 (hm'.perm h1)
theorem app_Y {A B : List Int} (h1 : ∀ y ∈ A, isY y) (h2 : ∀ y ∈ B, isY y) : ∀ y ∈ A ++ B, isY y := fun y h => (List.mem_append.1 h).elim (h1 y) (h2 y)
theorem permB {a X x : Nat × AObj} {Hs H : Hp} : (a :: X :: (Hs ++ (x :: H))).Perm (x :: a :: X :: (Hs ++ H)) :=
  (List.Perm.cons a ((List.Perm.cons X List.perm_middle).trans (List.Perm.swap _ _ _))).trans (List.Perm.swap _ _ _)
theorem permG {a X x : Nat × AObj} {G Hs H : Hp} : (a :: X :: (Hs ++ (G ++ (x :: H)))).Perm (G ++ (x :: a :: X :: (Hs ++ H))) :=
  (mid_perm (pre := G) (Hs := a :: X :: Hs) (H0 := x :: H)).symm.trans (List.Perm.append_left G permB)
inductive CutV {α : Type} (C : Ctx) (H : Hp) (en : α → List Value) (k : Nat) : List α → Value → Prop where
  | nil : CutV C H en k [] (.slice none 0 0)
  | fx (b o cap : Nat) (L : List α) (h : ArrW C H (some ⟨b, o, none⟩) k en L) (h1 : L.length ≤ cap) (h2 : cap < EL) : CutV C H en k L (.slice (some ⟨b, o, none⟩) L.length cap)
  | el (b o : Nat) (L : List α) (h : ArrW C H (some ⟨b, o, none⟩) k en L) : CutV C H en k L (.slice (some ⟨b, o, none⟩) L.length (EL + k))
section
variable {C : Ctx} {H H' : Hp} {α : Type} {en : α → List Value} {k : Nat} {L : List α} {v : Value}
theorem CutV.weak (h : CutV C H en k L v) (hs : H.Sublist H') : CutV C H' en k L v := by
  cases h with
  | nil => exact .nil
  | fx b o cap L h h1 h2 => exact .fx b o cap L (h.weak hs) h1 h2
  | el b o L h => exact .el b o L (h.weak hs)
theorem CutV.arr (h : CutV C H en k L v) : ∃ ad c, v = .slice ad L.length c ∧ ArrW C H ad k en L ∧ (L ≠ [] ∨ ad = none ∨ ∃ b o, ad = some ⟨b, o, none⟩) := by
  cases h with
  | nil => exact ⟨none, 0, rfl, .nil, .inr (.inl rfl)⟩
  | fx b o cap L h h1 h2 => exact ⟨_, _, rfl, h, .inr (.inr ⟨b, o, rfl⟩)⟩
  | el b o L h => exact ⟨_, _, rfl, h, .inr (.inr ⟨b, o, rfl⟩)⟩
theorem CutV.part (h : CutV C H en k L v) (hl : ∀ x, (en x).length = k) {t e : TypeId} {lo hi : Option Value} (m q : Nat) (hu : C.P.underlying t = some (.slice e)) (hn : sizeAt C e = some k) (h1 : m ≤ q) (h2 : q ≤ L.length) (h5 : lo.bind natOf = some m ∨ lo = none ∧ m = 0) (h6 : hi.bind natOf = some q ∨ hi = none ∧ q = L.length) :
    ∃ v', aslice C t v lo hi none = some v' ∧ CutV C H en k ((L.drop m).take (q - m)) v' := by
  cases h with
  | nil =>
    have hq : q = 0 := by simpa using h2
    subst hq
    have hm0 : m = 0 := by omega
    subst hm0
    refine ⟨.slice none 0 0, ?_, .nil⟩
    simp only [aslice, hu, hn]
    rw [if_neg (by decide), bnds_is (len := 0) (Nat.le_refl _) (Nat.le_refl _) h5 h6]
    simp [cutSlice]
  | fx b o cap L ha hc hm =>
    have e : aslice C t (.slice (some ⟨b, o, none⟩) L.length cap) lo hi none = cutSlice C k cap false (some ⟨b, o, none⟩) (m, q, cap) := by
      simp only [aslice, hu, hn]
      rw [if_neg (Nat.not_le.2 hm), bnds_is h1 (by omega) h5 h6]
      rfl
    have hlen : ((L.drop m).take (q - m)).length = q - m := by rw [List.length_take, List.length_drop]; omega
    rw [e]
    by_cases c1 : cap = m
    · refine ⟨.slice (some ⟨b, o, none⟩) (q - m) (cap - m), by simp only [cutSlice]; rw [if_pos (by omega), if_pos c1], ?_⟩
      have := CutV.fx (C := C) (H := H) (en := en) (k := k) b o (cap - m) ((L.drop m).take (q - m)) (by
        have hq : q - m = 0 := by omega
        rw [hq, List.take_zero]
        exact ArrW.nil) (by omega) (by omega)
      rwa [hlen] at this
    · refine ⟨.slice (some ⟨b, o + m * k, none⟩) (q - m) (cap - m), by simp only [cutSlice]; rw [if_pos (by omega), if_neg c1], ?_⟩
      have := CutV.fx (C := C) (H := H) (en := en) (k := k) b (o + m * k) (cap - m) ((L.drop m).take (q - m)) (ha.part hl m (q - m) (by omega)) (by omega) (by omega)
      rwa [hlen] at this
  | el b o L ha =>
    have e : aslice C t (.slice (some ⟨b, o, none⟩) L.length (EL + k)) lo hi none = cutSlice C k (EL + k) true (some ⟨b, o, none⟩) (m, q, L.length) := by
      simp only [aslice, hu, hn]
      rw [if_pos (Nat.le_add_right _ _), if_pos trivial, bnds_is h1 h2 h5 h6]
      rfl
    have hlen : ((L.drop m).take (q - m)).length = q - m := by rw [List.length_take, List.length_drop]; omega
    rw [e]
    by_cases c1 : m = 0
    · subst c1
      refine ⟨.slice (some ⟨b, o, none⟩) q (EL + k), by simp [cutSlice], ?_⟩
      have h3 := ha.part hl 0 q (by omega)
      rw [Nat.zero_mul, Nat.add_zero] at h3
      have := CutV.el (C := C) (H := H) (en := en) (k := k) b o ((L.drop 0).take (q - 0)) (by simpa using h3)
      rwa [hlen] at this
    · by_cases c2 : m = q
      · subst c2
        refine ⟨.slice (some ⟨C.B0, 0, none⟩) 0 (EL + k), by simp [cutSlice, c1], ?_⟩
        rw [Nat.sub_self, List.take_zero]
        exact CutV.el (C := C) (H := H) (en := en) (k := k) C.B0 0 [] ArrW.nil
      · refine ⟨.slice (some ⟨b, o + m * k, none⟩) (q - m) (EL + k), by simp [cutSlice, c1, c2], ?_⟩
        have := CutV.el (C := C) (H := H) (en := en) (k := k) b (o + m * k) ((L.drop m).take (q - m)) (ha.part hl m (q - m) (by omega))
        rwa [hlen] at this
theorem CutV.cuts (h : CutV C H en k L v) (hl : ∀ x, (en x).length = k) : Cuts C H en k L v := by
  refine ⟨let ⟨ad, c, h1, h2, _⟩ := h.arr; ⟨ad, c, h1, h2⟩, fun t e lo hi m q hu hn h1 h2 h5 h6 => ?_⟩
  obtain ⟨v', e1, e2⟩ := h.part hl m q hu hn h1 h2 h5 h6
  obtain ⟨ad, c, e3, e4, _⟩ := e2.arr
  have hlen : ((L.drop m).take (q - m)).length = q - m := by rw [List.length_take, List.length_drop]; omega
  rw [hlen] at e3
  exact ⟨ad, c, by rw [e1, e3], e4⟩
/-- An argument's slice can be cut. -/
theorem arg_cutV {ad : Option Addr} {cap : Nat} (ha : ArrW C H ad k en L) (hne : L ≠ []) (hc : L.length ≤ cap) (hm : cap < EL) : CutV C H en k L (.slice ad L.length cap) := by
  obtain ⟨b, o, cs, rfl, _, _⟩ := ha.els hne
  exact .fx b o cap L ha hc hm
theorem Own.cutV {Hs pre H0 : Hp} (h : Own en k L v Hs) (hl : ∀ x, (en x).length = k) : CutV C (pre ++ (Hs ++ H0)) en k L v := by
  obtain ⟨ad0, c0, e0, hw0⟩ := h.arrW (C := C) hl
  have hw := hw0 pre H0
  cases h with
  | nil => exact .nil
  | emp b o => exact CutV.fx (C := C) (en := en) b 0 0 [] ArrW.nil (Nat.le_refl _) (by decide)
  | el _ b es junk => cases e0; exact .el b 0 L hw
  | fix _ b es hL => cases e0; exact .fx b 0 _ L hw (Nat.le_refl _) hL
end
theorem i64_i {x : Int} (h : -9223372036854775808 ≤ x ∧ x < 9223372036854775808) : IntKind.i64.wrap x = x := IntWalk.i64_in x (by omega)
theorem u32_eq (x : Int) : IntKind.u32.wrap x = x % 4294967296 := by simp [IntKind.wrap, IntKind.bits, IntKind.signed]
abbrev vY (x : Int) : Value := .int .u8 x
theorem map_at {E : List Int} {i : Nat} {x : Int} (hx : E[i]? = some x) : (E.map vY)[i]? = some (vY x) := by rw [List.getElem?_map, hx]; rfl
theorem ten {E : List Int} (h : E.length = 10) : ∃ a b c d e f g i j k, E = [a, b, c, d, e, f, g, i, j, k] := by
  match E, h with
  | [a, b, c, d, e, f, g, i, j, k], _ => exact ⟨a, b, c, d, e, f, g, i, j, k, rfl⟩
section
variable {B0 : Nat} {old : Nat → Option (List Value)} {n : Nat} {H Hs : Hp} {Q : Value → Hp → Prop} {p ez mb b : Nat} {el : Bool} {bv : Value} {lim : Int} {L B : List Int} {X Y : Nat × AObj}
set_option maxRecDepth 10000
set_option maxHeartbeats 4000000
theorem w8b_ct (x : Int) (h0 : 0 ≤ x) (hx : x < 256 ^ 1) (ho : Own encY 1 B bv Hs) (hl : (B.length : Int) + 1 ≤ lim) (h1 : lim ≤ 65536)
    (h : ∀ bv' Hs', Own encY 1 (B ++ be x.toNat 1) bv' Hs' → Q (.int .i64 0) (Y :: (p, .row [bv', .int .i64 lim, .map (some mb)] ez el) :: X :: (Hs' ++ H))) :
    CallT (cx B0 old) (acall (cx B0 old) ansP (n + 3)) 179 [.pointer (some ⟨p, 0, none⟩), .int .u64 x] (Y :: (p, .row [bv, .int .i64 lim, .map (some mb)] ez el) :: X :: (Hs ++ H)) Q :=
  CallT.permQ (w8_ct x h0 hx ho hl h1 fun bv' Hs' ho' => ⟨_, permB.symm, h bv' Hs' ho'⟩) permB
theorem w16b_ct (x : Int) (h0 : 0 ≤ x) (hx : x < 256 ^ 2) (ho : Own encY 1 B bv Hs) (hl : (B.length : Int) + 2 ≤ lim) (h1 : lim ≤ 65536)
    (h : ∀ bv' Hs', Own encY 1 (B ++ be x.toNat 2) bv' Hs' → Q (.int .i64 0) (Y :: (p, .row [bv', .int .i64 lim, .map (some mb)] ez el) :: X :: (Hs' ++ H))) :
    CallT (cx B0 old) (acall (cx B0 old) ansP (n + 3)) 128 [.pointer (some ⟨p, 0, none⟩), .int .u64 x] (Y :: (p, .row [bv, .int .i64 lim, .map (some mb)] ez el) :: X :: (Hs ++ H)) Q :=
  CallT.permQ (w16_ct x h0 hx ho hl h1 fun bv' Hs' ho' => ⟨_, permB.symm, h bv' Hs' ho'⟩) permB
theorem w24b_ct (x : Int) (h0 : 0 ≤ x) (hx : x < 256 ^ 3) (ho : Own encY 1 B bv Hs) (hl : (B.length : Int) + 3 ≤ lim) (h1 : lim ≤ 65536)
    (h : ∀ bv' Hs', Own encY 1 (B ++ be x.toNat 3) bv' Hs' → Q (.int .i64 0) (Y :: (p, .row [bv', .int .i64 lim, .map (some mb)] ez el) :: X :: (Hs' ++ H))) :
    CallT (cx B0 old) (acall (cx B0 old) ansP (n + 3)) 168 [.pointer (some ⟨p, 0, none⟩), .int .u64 x] (Y :: (p, .row [bv, .int .i64 lim, .map (some mb)] ez el) :: X :: (Hs ++ H)) Q :=
  CallT.permQ (w24_ct x h0 hx ho hl h1 fun bv' Hs' ho' => ⟨_, permB.symm, h bv' Hs' ho'⟩) permB
theorem w32b_ct (x : Int) (h0 : 0 ≤ x) (hx : x < 256 ^ 4) (ho : Own encY 1 B bv Hs) (hl : (B.length : Int) + 4 ≤ lim) (h1 : lim ≤ 65536)
    (h : ∀ bv' Hs', Own encY 1 (B ++ be x.toNat 4) bv' Hs' → Q (.int .i64 0) (Y :: (p, .row [bv', .int .i64 lim, .map (some mb)] ez el) :: X :: (Hs' ++ H))) :
    CallT (cx B0 old) (acall (cx B0 old) ansP (n + 3)) 167 [.pointer (some ⟨p, 0, none⟩), .int .u64 x] (Y :: (p, .row [bv, .int .i64 lim, .map (some mb)] ez el) :: X :: (Hs ++ H)) Q :=
  CallT.permQ (w32_ct x h0 hx ho hl h1 fun bv' Hs' ho' => ⟨_, permB.symm, h bv' Hs' ho'⟩) permB
theorem w48b_ct (x : Int) (h0 : 0 ≤ x) (hx : x < 256 ^ 6) (ho : Own encY 1 B bv Hs) (hl : (B.length : Int) + 6 ≤ lim) (h1 : lim ≤ 65536)
    (h : ∀ bv' Hs', Own encY 1 (B ++ be x.toNat 6) bv' Hs' → Q (.int .i64 0) (Y :: (p, .row [bv', .int .i64 lim, .map (some mb)] ez el) :: X :: (Hs' ++ H))) :
    CallT (cx B0 old) (acall (cx B0 old) ansP (n + 3)) 127 [.pointer (some ⟨p, 0, none⟩), .int .u64 x] (Y :: (p, .row [bv, .int .i64 lim, .map (some mb)] ez el) :: X :: (Hs ++ H)) Q :=
  CallT.permQ (w48_ct x h0 hx ho hl h1 fun bv' Hs' ho' => ⟨_, permB.symm, h bv' Hs' ho'⟩) permB
theorem w64b_ct (x : Int) (h0 : 0 ≤ x) (hx : x < 256 ^ 8) (ho : Own encY 1 B bv Hs) (hl : (B.length : Int) + 8 ≤ lim) (h1 : lim ≤ 65536)
    (h : ∀ bv' Hs', Own encY 1 (B ++ be x.toNat 8) bv' Hs' → Q (.int .i64 0) (Y :: (p, .row [bv', .int .i64 lim, .map (some mb)] ez el) :: X :: (Hs' ++ H))) :
    CallT (cx B0 old) (acall (cx B0 old) ansP (n + 3)) 129 [.pointer (some ⟨p, 0, none⟩), .int .u64 x] (Y :: (p, .row [bv, .int .i64 lim, .map (some mb)] ez el) :: X :: (Hs ++ H)) Q :=
  CallT.permQ (w64_ct x h0 hx ho hl h1 fun bv' Hs' ho' => ⟨_, permB.symm, h bv' Hs' ho'⟩) permB
theorem wBb_ct (ad1 : Option Addr) (c1 : Nat) (M : List Int) (ha : ArrW (cx B0 old) (Y :: H) ad1 1 encY M) (ho : Own encY 1 B bv Hs) (hl : (B.length : Int) + M.length ≤ lim) (h1 : lim ≤ 65536)
    (h : ∀ bv' Hs', Own encY 1 (B ++ M) bv' Hs' → Q (.int .i64 0) (Y :: (p, .row [bv', .int .i64 lim, .map (some mb)] ez el) :: X :: (Hs' ++ H))) :
    CallT (cx B0 old) (acall (cx B0 old) ansP (n + 2)) 166 [.pointer (some ⟨p, 0, none⟩), .slice ad1 M.length c1] (Y :: (p, .row [bv, .int .i64 lim, .map (some mb)] ez el) :: X :: (Hs ++ H)) Q :=
  CallT.permQ (wB_ct ad1 c1 M ha ho hl h1 fun bv' Hs' ho' => ⟨_, permB.symm, h bv' Hs' ho'⟩) permB
theorem wBg_ct {G : Hp} (ad1 : Option Addr) (c1 : Nat) (M : List Int) (ha : ArrW (cx B0 old) (G ++ (Y :: H)) ad1 1 encY M) (ho : Own encY 1 B bv Hs) (hl : (B.length : Int) + M.length ≤ lim) (h1 : lim ≤ 65536)
    (h : ∀ bv' Hs', Own encY 1 (B ++ M) bv' Hs' → Q (.int .i64 0) (G ++ (Y :: (p, .row [bv', .int .i64 lim, .map (some mb)] ez el) :: X :: (Hs' ++ H)))) :
    CallT (cx B0 old) (acall (cx B0 old) ansP (n + 2)) 166 [.pointer (some ⟨p, 0, none⟩), .slice ad1 M.length c1] (G ++ (Y :: (p, .row [bv, .int .i64 lim, .map (some mb)] ez el) :: X :: (Hs ++ H))) Q :=
  CallT.permQ (wB_ct ad1 c1 M ha ho hl h1 fun bv' Hs' ho' => ⟨_, permG.symm, h bv' Hs' ho'⟩) permG
end
section
variable {B0 : Nat} {old : Nat → Option (List Value)} {n : Nat} {H : Hp} {Q : Value → Hp → Prop} {L M : List Int} {ad ad2 : Option Addr} {c c2 : Nat}
set_option maxRecDepth 10000
set_option maxHeartbeats 4000000
theorem eq70_ct (h1 : ArrW (cx B0 old) H ad 1 encY L) (h2 : ArrW (cx B0 old) H ad2 1 encY M) (n1 : L ≠ [] ∨ ad = none) (n2 : M ≠ [] ∨ ad2 = none) (y1 : ∀ y ∈ L, isY y) (y2 : ∀ y ∈ M, isY y) (hQ : Q (.bool (decide (L = M))) H) :
    CallT (cx B0 old) (acall (cx B0 old) ansP (n + 1)) 70 [.slice ad L.length c, .slice ad2 M.length c2] H Q := by
  refine call_in2 10 rfl Try.func70 rfl rfl ?_
  repeat (first | refine Z0 ?_ | (refine ZR ?_; first | refine x1 ?_ | refine x2 ?_ | refine x8 ?_ | refine Z1 ?_ | refine Z2 ?_ | refine x3 fun _ => ?_ | refine x4 fun _ => ?_ | refine x5 fun _ => ?_ | refine Z3 fun _ => ?_ | refine Z4 fun _ => ?_) | refine Za ?_ | refine Zb ?_ | refine Zl ?_ | refine Zc ?_ | refine Ze ?_ | refine Zi ?_ | refine Zj ?_ | refine Zf ?_ | refine Zg ?_ | refine Zm ?_ | refine Zn ?_ | refine Zo ?_ | refine Zp ?_ | refine Zq ?_ | refine Zr ?_ | refine Zk ?_)
  apply rt_r rfl rfl rfl
  case hp => exact rd_str h1 rfl rfl rfl rfl n1
  repeat (first | refine Z0 ?_ | (refine ZR ?_; first | refine x1 ?_ | refine x2 ?_ | refine x8 ?_ | refine Z1 ?_ | refine Z2 ?_ | refine x3 fun _ => ?_ | refine x4 fun _ => ?_ | refine x5 fun _ => ?_ | refine Z3 fun _ => ?_ | refine Z4 fun _ => ?_) | refine Za ?_ | refine Zb ?_ | refine Zl ?_ | refine Zc ?_ | refine Ze ?_ | refine Zi ?_ | refine Zj ?_ | refine Zf ?_ | refine Zg ?_ | refine Zm ?_ | refine Zn ?_ | refine Zo ?_ | refine Zp ?_ | refine Zq ?_ | refine Zr ?_ | refine Zk ?_)
  apply rt_r rfl rfl rfl
  case hp => exact rd_str h2 rfl rfl rfl rfl n2
  apply rt_p rfl rfl rfl
  case hp => exact p_eqlStr rfl rfl y1 y2
  repeat (first | refine Z0 ?_ | (refine ZR ?_; first | refine x1 ?_ | refine x2 ?_ | refine x8 ?_ | refine Z1 ?_ | refine Z2 ?_ | refine x3 fun _ => ?_ | refine x4 fun _ => ?_ | refine x5 fun _ => ?_ | refine Z3 fun _ => ?_ | refine Z4 fun _ => ?_) | refine Za ?_ | refine Zb ?_ | refine Zl ?_ | refine Zc ?_ | refine Ze ?_ | refine Zi ?_ | refine Zj ?_ | refine Zf ?_ | refine Zg ?_ | refine Zm ?_ | refine Zn ?_ | refine Zo ?_ | refine Zp ?_ | refine Zq ?_ | refine Zr ?_ | refine Zk ?_)
  exact re_1 rfl rfl (by exact drop_auto) hQ
end
end Go.Proofs.Ytjdppdoakbojcaa.Abs

/- Keys of routes and their order, in plain Lean. -/
namespace Go.Proofs.Ytjdppdoakbojcaa.Abs
open Go
set_option linter.unusedVariables false
def sgn (a b : Int) : Int := if a < b then -1 else if b < a then 1 else 0
/-- The first number that is not 0. -/
def orL : List Int → Int
  | [] => 0
  | a :: l => if a = 0 then orL l else a
/-- The order of lists of numbers. -/
def lx : List Int → List Int → Int
  | a :: l, b :: m => if sgn a b = 0 then lx l m else sgn a b
  | _, _ => 0
theorem sgn_zero {a b : Int} : sgn a b = 0 ↔ a = b := by unfold sgn; split <;> (try split) <;> omega
theorem sgn_self (a : Int) : sgn a a = 0 := sgn_zero.2 rfl
theorem lx_range : ∀ l m, -1 ≤ lx l m ∧ lx l m ≤ 1
  | [], _ => by simp [lx]
  | _ :: _, [] => by simp [lx]
  | a :: l, b :: m => by
    have := lx_range l m
    have hs : -1 ≤ sgn a b ∧ sgn a b ≤ 1 := by unfold sgn; split <;> (try split) <;> omega
    unfold lx
    split
    · exact this
    · exact hs
theorem lx_neg : ∀ l m, lx m l = - lx l m
  | [], [] => rfl
  | [], _ :: _ => rfl
  | _ :: _, [] => rfl
  | a :: l, b :: m => by
    have := lx_neg l m
    unfold lx
    by_cases h : a = b
    · subst h; rw [if_pos (sgn_self a), if_pos (sgn_self a), this]
    · rw [if_neg fun h2 => h (sgn_zero.1 h2), if_neg fun h2 => h (sgn_zero.1 h2).symm]
      unfold sgn
      split <;> (try split) <;> (try split) <;> omega
theorem lx_zero : ∀ {l m : List Int}, l.length = m.length → (lx l m = 0 ↔ l = m)
  | [], [], _ => by simp [lx]
  | [], _ :: _, h => by simp at h
  | _ :: _, [], h => by simp at h
  | a :: l, b :: m, h => by
    have ih := lx_zero (l := l) (m := m) (by simpa using h)
    unfold lx
    by_cases e : a = b
    · subst e; rw [if_pos (sgn_self a), ih]; simp
    · rw [if_neg fun h2 => e (sgn_zero.1 h2)]
      exact ⟨fun h2 => absurd (sgn_zero.1 h2) e, fun h2 => absurd (List.cons.inj h2).1 e⟩
theorem lx_trans : ∀ {l m q : List Int}, l.length = m.length → m.length = q.length → lx l m ≤ 0 → lx m q ≤ 0 → lx l q ≤ 0
  | [], [], [], _, _, _, _ => by simp [lx]
  | [], [], _ :: _, _, h, _, _ => by simp at h
  | [], _ :: _, _, h, _, _, _ => by simp at h
  | _ :: _, [], _, h, _, _, _ => by simp at h
  | _ :: _, _ :: _, [], _, h, _, _ => by simp at h
  | a :: l, b :: m, c :: q, h1, h2, h3, h4 => by
    have ih := lx_trans (l := l) (m := m) (q := q) (by simpa using h1) (by simpa using h2)
    unfold lx at h3 h4 ⊢
    by_cases e : a = b
    · subst e
      rw [if_pos (sgn_self a)] at h3
      split
      · rename_i g; rw [if_pos g] at h4; exact ih h3 h4
      · rename_i g; rw [if_neg g] at h4; exact h4
    · rw [if_neg fun h => e (sgn_zero.1 h)] at h3
      by_cases e2 : b = c
      · subst e2
        rw [if_neg fun h => e (sgn_zero.1 h)]; exact h3
      · rw [if_neg fun h => e2 (sgn_zero.1 h)] at h4
        have k1 : a < b := by unfold sgn at h3; split at h3 <;> (try split at h3) <;> omega
        have k2 : b < c := by unfold sgn at h4; split at h4 <;> (try split at h4) <;> omega
        have : sgn a c = -1 := by unfold sgn; rw [if_pos (by omega)]
        rw [this, if_neg (by decide)]; decide
theorem lx_app : ∀ {l m : List Int} (l2 m2 : List Int), l.length = m.length → lx (l ++ l2) (m ++ m2) = if lx l m = 0 then lx l2 m2 else lx l m
  | [], [], _, _, _ => by simp [lx]
  | [], _ :: _, _, _, h => by simp at h
  | _ :: _, [], _, _, h => by simp at h
  | a :: l, b :: m, l2, m2, h => by
    have ih := lx_app (l := l) (m := m) l2 m2 (by simpa using h)
    simp only [List.cons_append, lx]
    split
    · exact ih
    · rfl
def b2i (b : Bool) : Int := if b then 1 else 0
theorem b2i_inj {a b : Bool} (h : b2i a = b2i b) : a = b := by cases a <;> cases b <;> simp [b2i] at h ⊢
def esL (x : S60) : List Int := [x.a2, x.a3, x.a4, x.a5, x.a6, x.a7, x.a8, x.a9, x.a10, x.a11]
/-- The numbers by which keys are compared. -/
def kv (x : S60) : List Int := [x.a0, x.a1] ++ (esL x ++ [x.a12, x.a13, b2i x.a15, x.a14, x.a16, x.a17, x.a18])
theorem kv_len (x : S60) : (kv x).length = 19 := rfl
def keyS (x : S60) : S60 := if x.a0 = 5 then { x with a2 := 0, a3 := 0, a4 := 0, a5 := 0, a6 := 0, a7 := 0, a8 := 0, a9 := 0, a10 := 0, a11 := 0, a18 := 0, a19 := 0, a20 := 0 } else if x.a0 = 2 then { x with a2 := 0, a3 := 0, a4 := 0, a5 := 0, a6 := 0, a7 := 0, a8 := 0, a9 := 0, a10 := 0, a11 := 0, a19 := 0, a20 := 0 } else { x with a19 := 0, a20 := 0 }
def nlC (x y : S60) : Int := lx (kv (keyS x)) (kv (keyS y))
def orC (x y : S60) : Int := orL [sgn x.a0 y.a0, sgn x.a1 y.a1, lx (esL x) (esL y), sgn x.a12 y.a12, sgn x.a13 y.a13, sgn (b2i x.a15) (b2i y.a15), sgn x.a14 y.a14, sgn x.a16 y.a16, sgn x.a17 y.a17, sgn x.a18 y.a18]
theorem orC_eq (x y : S60) : orC x y = lx (kv x) (kv y) := by
  unfold kv
  rw [List.cons_append, List.cons_append, List.cons_append, List.cons_append, List.nil_append, List.nil_append]
  unfold orC
  rw [lx, lx, lx_app _ _ (show (esL x).length = (esL y).length from rfl)]
  simp only [orL, lx]
  repeat' (split; · skip)
  all_goals simp_all
theorem keyS_lab (x : S60) : (keyS x).a19 = 0 ∧ (keyS x).a20 = 0 := by unfold keyS; split <;> (try split) <;> exact ⟨rfl, rfl⟩
theorem keyS_a0 (x : S60) : (keyS x).a0 = x.a0 := by unfold keyS; split <;> (try split) <;> rfl
theorem keyS_a1 (x : S60) : (keyS x).a1 = x.a1 := by unfold keyS; split <;> (try split) <;> rfl
theorem keyS_key (x : S60) : keyS (keyS x) = keyS x := by
  by_cases h5 : x.a0 = 5
  · have : keyS x = _ := if_pos h5
    rw [this]; unfold keyS; rw [if_pos h5]
  · by_cases h2 : x.a0 = 2
    · have : keyS x = _ := (if_neg h5).trans (if_pos h2)
      rw [this]; unfold keyS; rw [if_neg h5, if_pos h2]
    · have : keyS x = _ := (if_neg h5).trans (if_neg h2)
      rw [this]; unfold keyS; rw [if_neg h5, if_neg h2]
theorem keyS_labels (x : S60) (l m : Int) : keyS { x with a19 := l, a20 := m } = keyS x := by unfold keyS; rfl
theorem kv_inj {x y : S60} (h : kv x = kv y) (h19 : x.a19 = y.a19) (h20 : x.a20 = y.a20) : x = y := by
  obtain ⟨_, _, _, _, _, _, _, _, _, _, _, _, _, _, _, _, _, _, _, _, _⟩ := x
  obtain ⟨_, _, _, _, _, _, _, _, _, _, _, _, _, _, _, _, _, _, _, _, _⟩ := y
  simp only [kv, esL, List.cons_append, List.nil_append, List.cons.injEq] at h
  simp only [S60.mk.injEq]
  simp only at h19 h20
  obtain ⟨_, _, _, _, _, _, _, _, _, _, _, _, _, _, hb, _⟩ := h
  have := b2i_inj hb
  simp_all
theorem nlC_zero {x y : S60} : nlC x y = 0 ↔ keyS x = keyS y := by
  unfold nlC
  rw [lx_zero (by rw [kv_len, kv_len])]
  refine ⟨fun h => kv_inj h ?_ ?_, fun h => by rw [h]⟩
  · rw [(keyS_lab x).1, (keyS_lab y).1]
  · rw [(keyS_lab x).2, (keyS_lab y).2]
theorem leafN {k k' : IntKind} {a b : Int} : leafEq (.int k a) (.int k' b) = (a == b) := rfl
theorem leafT {a b : Bool} : leafEq (.bool a) (.bool b) = (a == b) := rfl
theorem leaf60 (s : S60) : leafsEq (en60 s) (en60 s) = true := by
  unfold en60
  simp only [leafsEq, leafN, leafT]
  simp
theorem leaf60_eq {x y : S60} (h : leafsEq (en60 x) (en60 y) = true) : x = y := by
  obtain ⟨_, _, _, _, _, _, _, _, _, _, _, _, _, _, _, _, _, _, _, _, _⟩ := x
  obtain ⟨_, _, _, _, _, _, _, _, _, _, _, _, _, _, _, _, _, _, _, _, _⟩ := y
  unfold en60 at h
  simp only [leafsEq, leafN, leafT, Bool.and_eq_true, beq_iff_eq] at h
  simp only [S60.mk.injEq]
  obtain ⟨h0, h1, h2, h3, h4, h5, h6, h7, h8, h9, h10, h11, h12, h13, h14, h15, h16, h17, h18, h19, h20, _⟩ := h
  exact ⟨h0, h1, h2, h3, h4, h5, h6, h7, h8, h9, h10, h11, h12, h13, h14, h15, h16, h17, h18, h19, h20⟩
theorem leaf60_ne {x y : S60} (h : x ≠ y) : leafsEq (en60 x) (en60 y) = false := by
  cases e : leafsEq (en60 x) (en60 y) with
  | false => rfl
  | true => exact absurd (leaf60_eq e) h
end Go.Proofs.Ytjdppdoakbojcaa.Abs
