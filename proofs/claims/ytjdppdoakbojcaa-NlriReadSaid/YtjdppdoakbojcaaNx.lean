/- Contracts of the Reader: what it reads of bytes, and its state behind. -/
import Derived.Test.YtjdppdoakbojcaaNv
namespace Go.Proofs.Ytjdppdoakbojcaa.Abs
open Go
set_option linter.unusedVariables false
/-- A reader's state: the position, and whether there is a fault. -/
structure Rs where
  p : Nat
  f : Bool
def rdRow (N : Nat) (src : Value) (s : Rs) : List Value := [.int .i64 s.p, .int .i64 N, src, .int .i64 (if s.f then 4 else 0), .int .i64 (if s.f then (s.p : Int) else 0), .bool true]
def rdOk (L : List Int) (s : Rs) (k : Nat) : Bool := !s.f && decide (s.p + k ≤ L.length)
def rdN (L : List Int) (s : Rs) (k : Nat) : Rs := if rdOk L s k then ⟨s.p + k, false⟩ else ⟨s.p, true⟩
def rdV (L : List Int) (s : Rs) (k : Nat) : Nat := if rdOk L s k then num (sub L s.p k) else 0
theorem rdN_le {L : List Int} {s : Rs} {k : Nat} (h : s.p ≤ L.length) : (rdN L s k).p ≤ L.length := by
  unfold rdN rdOk
  split
  · rename_i g
    simp only [Bool.and_eq_true, decide_eq_true_eq] at g
    exact g.2
  · exact h
section
variable {B0 : Nat} {old : Nat → Option (List Value)} {n : Nat} {H Hs : Hp} {Q : Value → Hp → Prop} {b N ez k : Nat} {el : Bool} {src : Value} {L : List Int} {s : Rs}
set_option maxRecDepth 10000
set_option maxHeartbeats 4000000
theorem left139_ct {p : Nat} {r : List Value} (hp : p ≤ N) (hN : N ≤ 100000) (hQ : Q (.int .i64 ((N : Int) - p)) ((b, .row (.int .i64 (p : Int) :: .int .i64 (N : Int) :: r) ez el) :: H)) :
    CallT (cx B0 old) (acall (cx B0 old) ansP (n + 1)) 139 [.pointer (some ⟨b, 0, none⟩)] ((b, .row (.int .i64 (p : Int) :: .int .i64 (N : Int) :: r) ez el) :: H) Q := by
  refine call_in1 12 rfl Try.func139 rfl rfl ?_
  repeat (first | refine Z0 ?_ | (refine ZR ?_; first | refine x1 ?_ | refine x2 ?_ | refine x8 ?_ | refine Z1 ?_ | refine Z2 ?_ | refine x3 fun _ => ?_ | refine x4 fun _ => ?_ | refine x5 fun _ => ?_ | refine Z3 fun _ => ?_ | refine Z4 fun _ => ?_) | refine Za ?_ | refine Zb ?_ | refine Zl ?_ | refine Zc ?_ | refine Ze ?_ | refine Zi ?_ | refine Zj ?_ | refine Zf ?_ | refine Zg ?_ | refine Zm ?_ | refine Zn ?_ | refine Zo ?_ | refine Zp ?_ | refine Zq ?_ | refine Zr ?_ | refine Zk ?_)
  refine ct_draw (masks := [0, 1, 3, 7, 0, 16, 48, 112, 255, 511]) (plan := [0, 1, 2, 3, 4, 5, 6, 7, 8, 9]) (E := []) (by kernel_rfl) (by kernel_rfl) (by kernel_rfl) (by kernel_rfl) ?_
  repeat (first | refine Y0 ?_ | (refine YP ?_; first | refine y1 ?_ | refine y2 ?_ | refine Y1 ?_ | refine Y2 ?_))
  repeat (first | refine Z0 ?_ | (refine ZR ?_; first | refine x1 ?_ | refine x2 ?_ | refine x8 ?_ | refine Z1 ?_ | refine Z2 ?_ | refine x3 fun _ => ?_ | refine x4 fun _ => ?_ | refine x5 fun _ => ?_ | refine Z3 fun _ => ?_ | refine Z4 fun _ => ?_) | refine Za ?_ | refine Zb ?_ | refine Zl ?_ | refine Zc ?_ | refine Ze ?_ | refine Zi ?_ | refine Zj ?_ | refine Zf ?_ | refine Zg ?_ | refine Zm ?_ | refine Zn ?_ | refine Zo ?_ | refine Zp ?_ | refine Zq ?_ | refine Zr ?_ | refine Zk ?_)
  exact re_1 rfl rfl (by exact drop_auto) hQ
theorem skip172_ct {p : Nat} {r : List Value} (hp : p ≤ N) (hN : N ≤ 100000) (hk : k ≤ 100)
    (h1 : p + k ≤ N → Q (.tuple #[.int .i64 (p : Int), .bool true]) ((b, .row (.int .i64 ((p + k : Nat) : Int) :: .int .i64 (N : Int) :: r) ez el) :: H))
    (h2 : ¬ p + k ≤ N → Q (.tuple #[.int .i64 0, .bool false]) ((b, .row (.int .i64 (p : Int) :: .int .i64 (N : Int) :: r) ez el) :: H)) :
    CallT (cx B0 old) (acall (cx B0 old) ansP (n + 2)) 172 [.pointer (some ⟨b, 0, none⟩), .int .i64 (k : Int)] ((b, .row (.int .i64 (p : Int) :: .int .i64 (N : Int) :: r) ez el) :: H) Q := by
  refine call_in2 28 rfl Try.func172 rfl rfl ?_
  repeat (first | refine Z0 ?_ | (refine ZR ?_; first | refine x1 ?_ | refine x2 ?_ | refine x8 ?_ | refine Z1 ?_ | refine Z2 ?_ | refine x3 fun _ => ?_ | refine x4 fun _ => ?_ | refine x5 fun _ => ?_ | refine Z3 fun _ => ?_ | refine Z4 fun _ => ?_) | refine Za ?_ | refine Zb ?_ | refine Zl ?_ | refine Zc ?_ | refine Ze ?_ | refine Zi ?_ | refine Zj ?_ | refine Zf ?_ | refine Zg ?_ | refine Zm ?_ | refine Zn ?_ | refine Zo ?_ | refine Zp ?_ | refine Zq ?_ | refine Zr ?_ | refine Zk ?_)
  refine isRun ?_
  refine z1 (fun h => ?_) (fun h => ?_)
  · exfalso; omega
  repeat (first | refine Z0 ?_ | (refine ZR ?_; first | refine x1 ?_ | refine x2 ?_ | refine x8 ?_ | refine Z1 ?_ | refine Z2 ?_ | refine x3 fun _ => ?_ | refine x4 fun _ => ?_ | refine x5 fun _ => ?_ | refine Z3 fun _ => ?_ | refine Z4 fun _ => ?_) | refine Za ?_ | refine Zb ?_ | refine Zl ?_ | refine Zc ?_ | refine Ze ?_ | refine Zi ?_ | refine Zj ?_ | refine Zf ?_ | refine Zg ?_ | refine Zm ?_ | refine Zn ?_ | refine Zo ?_ | refine Zp ?_ | refine Zq ?_ | refine Zr ?_ | refine Zk ?_)
  refine rt_step rfl rfl rfl (st_call rfl rfl rfl rfl (left139_ct hp hN ?_))
  repeat (first | refine Z0 ?_ | (refine ZR ?_; first | refine x1 ?_ | refine x2 ?_ | refine x8 ?_ | refine Z1 ?_ | refine Z2 ?_ | refine x3 fun _ => ?_ | refine x4 fun _ => ?_ | refine x5 fun _ => ?_ | refine Z3 fun _ => ?_ | refine Z4 fun _ => ?_) | refine Za ?_ | refine Zb ?_ | refine Zl ?_ | refine Zc ?_ | refine Ze ?_ | refine Zi ?_ | refine Zj ?_ | refine Zf ?_ | refine Zg ?_ | refine Zm ?_ | refine Zn ?_ | refine Zo ?_ | refine Zp ?_ | refine Zq ?_ | refine Zr ?_ | refine Zk ?_)
  refine ct_condT te_d rfl (fun hc => ?_) (fun hc => ?_)
  · repeat (first | refine Z0 ?_ | (refine ZR ?_; first | refine x1 ?_ | refine x2 ?_ | refine x8 ?_ | refine Z1 ?_ | refine Z2 ?_ | refine x3 fun _ => ?_ | refine x4 fun _ => ?_ | refine x5 fun _ => ?_ | refine Z3 fun _ => ?_ | refine Z4 fun _ => ?_) | refine Za ?_ | refine Zb ?_ | refine Zl ?_ | refine Zc ?_ | refine Ze ?_ | refine Zi ?_ | refine Zj ?_ | refine Zf ?_ | refine Zg ?_ | refine Zm ?_ | refine Zn ?_ | refine Zo ?_ | refine Zp ?_ | refine Zq ?_ | refine Zr ?_ | refine Zk ?_)
    exact re_2 rfl rfl rfl (List.Sublist.refl _) (h2 (by omega))
  · repeat (first | refine Z0 ?_ | (refine ZR ?_; first | refine x1 ?_ | refine x2 ?_ | refine x8 ?_ | refine Z1 ?_ | refine Z2 ?_ | refine x3 fun _ => ?_ | refine x4 fun _ => ?_ | refine x5 fun _ => ?_ | refine Z3 fun _ => ?_ | refine Z4 fun _ => ?_) | refine Za ?_ | refine Zb ?_ | refine Zl ?_ | refine Zc ?_ | refine Ze ?_ | refine Zi ?_ | refine Zj ?_ | refine Zf ?_ | refine Zg ?_ | refine Zm ?_ | refine Zn ?_ | refine Zo ?_ | refine Zp ?_ | refine Zq ?_ | refine Zr ?_ | refine Zk ?_)
    refine re_2 rfl rfl rfl (List.Sublist.refl _) ?_
    have := h1 (by omega)
    rw [show ((p : Int) + k - k) = (p : Int) by omega]
    exact this
theorem fail173_ct {p : Nat} (hQ : ∀ v, Q v ((b, .row (rdRow N src ⟨p, true⟩) ez el) :: H)) :
    CallT (cx B0 old) (acall (cx B0 old) ansP (n + 1)) 173 [.pointer (some ⟨b, 0, none⟩), .int .i64 4] ((b, .row (rdRow N src ⟨p, false⟩) ez el) :: H) Q := by
  refine call_in2 34 rfl Try.func173 rfl rfl ?_
  unfold rdRow at hQ ⊢
  repeat (first | refine Z0 ?_ | (refine ZR ?_; first | refine x1 ?_ | refine x2 ?_ | refine x8 ?_ | refine Z1 ?_ | refine Z2 ?_ | refine x3 fun _ => ?_ | refine x4 fun _ => ?_ | refine x5 fun _ => ?_ | refine Z3 fun _ => ?_ | refine Z4 fun _ => ?_) | refine Za ?_ | refine Zb ?_ | refine Zl ?_ | refine Zc ?_ | refine Ze ?_ | refine Zi ?_ | refine Zj ?_ | refine Zf ?_ | refine Zg ?_ | refine Zm ?_ | refine Zn ?_ | refine Zo ?_ | refine Zp ?_ | refine Zq ?_ | refine Zr ?_ | refine Zk ?_)
  exact re_0 rfl (List.Sublist.refl _) hQ
theorem next171_ct (hs : CutV (cx B0 old) H encY 1 L src) (hp : s.p ≤ L.length) (hN : L.length ≤ 100000) (hk : k ≤ 100)
    (h1 : rdOk L s k = true → ∀ v, CutV (cx B0 old) H encY 1 (sub L s.p k) v → Q (.tuple #[v, .bool true]) ((b, .row (rdRow L.length src (rdN L s k)) ez el) :: H))
    (h2 : rdOk L s k = false → Q (.tuple #[.slice none 0 0, .bool false]) ((b, .row (rdRow L.length src (rdN L s k)) ez el) :: H)) :
    CallT (cx B0 old) (acall (cx B0 old) ansP (n + 3)) 171 [.pointer (some ⟨b, 0, none⟩), .int .i64 (k : Int)] ((b, .row (rdRow L.length src s) ez el) :: H) Q := by
  obtain ⟨p, f⟩ := s
  have hok : rdOk L ⟨p, f⟩ k = (!f && decide (p + k ≤ L.length)) := rfl
  unfold rdN at h1 h2
  refine call_in2 48 rfl Try.func171 rfl rfl ?_
  cases f with
  | true =>
    have e : rdOk L ⟨p, true⟩ k = false := rfl
    have h2 := h2 e
    rw [e, if_neg (by decide)] at h2
    unfold rdRow at h2 ⊢
    repeat (first | refine Z0 ?_ | (refine ZR ?_; first | refine x1 ?_ | refine x2 ?_ | refine x8 ?_ | refine Z1 ?_ | refine Z2 ?_ | refine x3 fun _ => ?_ | refine x4 fun _ => ?_ | refine x5 fun _ => ?_ | refine Z3 fun _ => ?_ | refine Z4 fun _ => ?_) | refine Za ?_ | refine Zb ?_ | refine Zl ?_ | refine Zc ?_ | refine Ze ?_ | refine Zi ?_ | refine Zj ?_ | refine Zf ?_ | refine Zg ?_ | refine Zm ?_ | refine Zn ?_ | refine Zo ?_ | refine Zp ?_ | refine Zq ?_ | refine Zr ?_ | refine Zk ?_)
    exact re_2 rfl rfl rfl (List.Sublist.refl _) h2
  | false =>
    unfold rdRow at h1 h2 ⊢
    dsimp only at h1 h2 hp ⊢
    repeat (first | refine Z0 ?_ | (refine ZR ?_; first | refine x1 ?_ | refine x2 ?_ | refine x8 ?_ | refine Z1 ?_ | refine Z2 ?_ | refine x3 fun _ => ?_ | refine x4 fun _ => ?_ | refine x5 fun _ => ?_ | refine Z3 fun _ => ?_ | refine Z4 fun _ => ?_) | refine Za ?_ | refine Zb ?_ | refine Zl ?_ | refine Zc ?_ | refine Ze ?_ | refine Zi ?_ | refine Zj ?_ | refine Zf ?_ | refine Zg ?_ | refine Zm ?_ | refine Zn ?_ | refine Zo ?_ | refine Zp ?_ | refine Zq ?_ | refine Zr ?_ | refine Zk ?_)
    refine rt_step rfl rfl rfl (st_call rfl rfl rfl rfl (skip172_ct hp hN hk (fun hle => ?_) (fun hle => ?_)))
    · have e : rdOk L ⟨p, false⟩ k = true := by rw [hok]; simp [hle]
      obtain ⟨v, e2, g⟩ := hs.part encY_len (t := 34) (e := 5) (lo := some (.int .i64 (p : Int))) (hi := some (.int .i64 ((p + k : Nat) : Int))) p (p + k) rfl (sz rfl) (by omega) hle (.inl (by simp [natOf])) (.inl (by simp only [Option.bind_some, natOf]; rw [if_pos (by omega)]; rfl))
      have h1 := h1 e v (by rw [show p + k - p = k by omega] at g; exact g)
      rw [e, if_pos rfl] at h1
      repeat (first | refine Z0 ?_ | (refine ZR ?_; first | refine x1 ?_ | refine x2 ?_ | refine x8 ?_ | refine Z1 ?_ | refine Z2 ?_ | refine x3 fun _ => ?_ | refine x4 fun _ => ?_ | refine x5 fun _ => ?_ | refine Z3 fun _ => ?_ | refine Z4 fun _ => ?_) | refine Za ?_ | refine Zb ?_ | refine Zl ?_ | refine Zc ?_ | refine Ze ?_ | refine Zi ?_ | refine Zj ?_ | refine Zf ?_ | refine Zg ?_ | refine Zm ?_ | refine Zn ?_ | refine Zo ?_ | refine Zp ?_ | refine Zq ?_ | refine Zr ?_ | refine Zk ?_)
      refine ct_draw (masks := [0, 1, 3, 7, 0, 0, 32, 96, 224, 480, 1023, 2047, 4095]) (plan := [0, 1, 2, 3, 4, 5, 6, 7, 8, 9, 10, 11, 12]) (E := []) (by kernel_rfl) (by kernel_rfl) (by kernel_rfl) (by kernel_rfl) ?_
      repeat (first | refine Y0 ?_ | (refine YP ?_; first | refine y1 ?_ | refine y2 ?_ | refine Y1 ?_ | refine Y2 ?_))
      refine pl_p rfl rfl rfl rfl rfl rfl (p_slc rfl rfl rfl e2) ?_
      repeat (first | refine Y0 ?_ | (refine YP ?_; first | refine y1 ?_ | refine y2 ?_ | refine Y1 ?_ | refine Y2 ?_))
      repeat (first | refine Z0 ?_ | (refine ZR ?_; first | refine x1 ?_ | refine x2 ?_ | refine x8 ?_ | refine Z1 ?_ | refine Z2 ?_ | refine x3 fun _ => ?_ | refine x4 fun _ => ?_ | refine x5 fun _ => ?_ | refine Z3 fun _ => ?_ | refine Z4 fun _ => ?_) | refine Za ?_ | refine Zb ?_ | refine Zl ?_ | refine Zc ?_ | refine Ze ?_ | refine Zi ?_ | refine Zj ?_ | refine Zf ?_ | refine Zg ?_ | refine Zm ?_ | refine Zn ?_ | refine Zo ?_ | refine Zp ?_ | refine Zq ?_ | refine Zr ?_ | refine Zk ?_)
      exact re_2 rfl rfl rfl (List.Sublist.refl _) h1
    · have e : rdOk L ⟨p, false⟩ k = false := by rw [hok]; simp [hle]
      have h2 := h2 e
      rw [e, if_neg (by decide)] at h2
      repeat (first | refine Z0 ?_ | (refine ZR ?_; first | refine x1 ?_ | refine x2 ?_ | refine x8 ?_ | refine Z1 ?_ | refine Z2 ?_ | refine x3 fun _ => ?_ | refine x4 fun _ => ?_ | refine x5 fun _ => ?_ | refine Z3 fun _ => ?_ | refine Z4 fun _ => ?_) | refine Za ?_ | refine Zb ?_ | refine Zl ?_ | refine Zc ?_ | refine Ze ?_ | refine Zi ?_ | refine Zj ?_ | refine Zf ?_ | refine Zg ?_ | refine Zm ?_ | refine Zn ?_ | refine Zo ?_ | refine Zp ?_ | refine Zq ?_ | refine Zr ?_ | refine Zk ?_)
      refine rt_step rfl rfl rfl (st_call rfl rfl rfl rfl (fail173_ct (b := b) (N := L.length) (src := src) (p := p) fun _ => ?_))
      repeat (first | refine Z0 ?_ | (refine ZR ?_; first | refine x1 ?_ | refine x2 ?_ | refine x8 ?_ | refine Z1 ?_ | refine Z2 ?_ | refine x3 fun _ => ?_ | refine x4 fun _ => ?_ | refine x5 fun _ => ?_ | refine Z3 fun _ => ?_ | refine Z4 fun _ => ?_) | refine Za ?_ | refine Zb ?_ | refine Zl ?_ | refine Zc ?_ | refine Ze ?_ | refine Zi ?_ | refine Zj ?_ | refine Zf ?_ | refine Zg ?_ | refine Zm ?_ | refine Zn ?_ | refine Zo ?_ | refine Zp ?_ | refine Zq ?_ | refine Zr ?_ | refine Zk ?_)
      exact re_2 rfl rfl rfl (List.Sublist.refl _) h2
theorem shl64b (a : Nat) : IntKind.u64.wrap (((a : Nat) : Int) * 2 ^ (min (8 : Int).toNat IntKind.u64.bits)) = ((a * 256 % 18446744073709551616 : Nat) : Int) := by
  rw [show ((2 : Int) ^ (min (8 : Int).toNat IntKind.u64.bits)) = 256 from rfl, u64_eq]; omega
theorem number169_ct (hs : CutV (cx B0 old) H encY 1 L src) (hy : ∀ y ∈ L, isY y) (hp : s.p ≤ L.length) (hN : L.length ≤ 100000) (hk : k ≤ 8)
    (hQ : Q (.int .u64 ((rdV L s k : Nat) : Int)) ((b, .row (rdRow L.length src (rdN L s k)) ez el) :: H)) :
    CallT (cx B0 old) (acall (cx B0 old) ansP (n + 4)) 169 [.pointer (some ⟨b, 0, none⟩), .int .i64 (k : Int)] ((b, .row (rdRow L.length src s) ez el) :: H) Q := by
  unfold rdV at hQ
  refine call_in2 29 rfl Try.func169 rfl rfl ?_
  repeat (first | refine Z0 ?_ | (refine ZR ?_; first | refine x1 ?_ | refine x2 ?_ | refine x8 ?_ | refine Z1 ?_ | refine Z2 ?_ | refine x3 fun _ => ?_ | refine x4 fun _ => ?_ | refine x5 fun _ => ?_ | refine Z3 fun _ => ?_ | refine Z4 fun _ => ?_) | refine Za ?_ | refine Zb ?_ | refine Zl ?_ | refine Zc ?_ | refine Ze ?_ | refine Zi ?_ | refine Zj ?_ | refine Zf ?_ | refine Zg ?_ | refine Zm ?_ | refine Zn ?_ | refine Zo ?_ | refine Zp ?_ | refine Zq ?_ | refine Zr ?_ | refine Zk ?_)
  refine rt_step rfl rfl rfl (st_call rfl rfl rfl rfl (next171_ct hs hp hN (by omega) (fun hok v hv => ?_) (fun hok => ?_)))
  · rw [hok, if_pos rfl] at hQ
    have hM : (sub L s.p k).length = k := by
      unfold rdOk at hok
      simp only [Bool.and_eq_true, decide_eq_true_eq] at hok
      exact sub_len hok.2
    have hyM := sub_Y hy s.p k
    generalize sub L s.p k = M at *
    obtain ⟨ad, c, e, ha, _⟩ := hv.arr
    subst e
    have h1 := ha.arr encY_len
    repeat (first | refine Z0 ?_ | (refine ZR ?_; first | refine x1 ?_ | refine x2 ?_ | refine x8 ?_ | refine Z1 ?_ | refine Z2 ?_ | refine x3 fun _ => ?_ | refine x4 fun _ => ?_ | refine x5 fun _ => ?_ | refine Z3 fun _ => ?_ | refine Z4 fun _ => ?_) | refine Za ?_ | refine Zb ?_ | refine Zl ?_ | refine Zc ?_ | refine Ze ?_ | refine Zi ?_ | refine Zj ?_ | refine Zf ?_ | refine Zg ?_ | refine Zm ?_ | refine Zn ?_ | refine Zo ?_ | refine Zp ?_ | refine Zq ?_ | refine Zr ?_ | refine Zk ?_)
    refine loop_ind (ι := Nat) 0 (fun i => M.length - i) (fun i => i ≤ M.length) (fun i => [(18, .int .i64 (i : Int)), (17, .int .i64 M.length), (16, .slice ad M.length c), (7, .int .u64 ((num (M.take i) : Nat) : Int))]) (fun _ => (b, .row (rdRow L.length src (rdN L s k)) ez el) :: H) (Nat.zero_le _) (by repeat (first | exact SubL.nil | refine SubL.cons rfl ?_)) (by exact drop_auto) ?_
    intro i hi
    repeat (first | refine Z0 ?_ | (refine ZR ?_; first | refine x1 ?_ | refine x2 ?_ | refine x8 ?_ | refine Z1 ?_ | refine Z2 ?_ | refine x3 fun _ => ?_ | refine x4 fun _ => ?_ | refine x5 fun _ => ?_ | refine Z3 fun _ => ?_ | refine Z4 fun _ => ?_) | refine Za ?_ | refine Zb ?_ | refine Zl ?_ | refine Zc ?_ | refine Ze ?_ | refine Zi ?_ | refine Zj ?_ | refine Zf ?_ | refine Zg ?_ | refine Zm ?_ | refine Zn ?_ | refine Zo ?_ | refine Zp ?_ | refine Zq ?_ | refine Zr ?_ | refine Zk ?_)
    refine ct_condT te_d rfl (fun hc => ?_) (fun hc => ?_)
    · obtain ⟨x, hx⟩ : ∃ x, M[i]? = some x := ⟨_, List.getElem?_eq_getElem (by omega)⟩
      have hxy := getY hyM hx
      obtain ⟨b1, o1, rfl, hL0⟩ := h1.ld1 5 hx rfl rfl (sz rfl)
      have htk : num (M.take (i + 1)) = num (M.take i) * 256 + x.toNat := by rw [List.take_add_one, hx, ← num_snoc]; rfl
      have hsm := num_small (L := M.take i) (take_Y hyM i) (by rw [List.length_take]; omega)
      repeat (first | refine Z0 ?_ | (refine ZR ?_; first | refine x1 ?_ | refine x2 ?_ | refine x8 ?_ | refine Z1 ?_ | refine Z2 ?_ | refine x3 fun _ => ?_ | refine x4 fun _ => ?_ | refine x5 fun _ => ?_ | refine Z3 fun _ => ?_ | refine Z4 fun _ => ?_) | refine Za ?_ | refine Zb ?_ | refine Zl ?_ | refine Zc ?_ | refine Ze ?_ | refine Zi ?_ | refine Zj ?_ | refine Zf ?_ | refine Zg ?_ | refine Zm ?_ | refine Zn ?_ | refine Zo ?_ | refine Zp ?_ | refine Zq ?_ | refine Zr ?_ | refine Zk ?_)
      rw [shl64 hsm]
      repeat (first | refine Z0 ?_ | (refine ZR ?_; first | refine x1 ?_ | refine x2 ?_ | refine x8 ?_ | refine Z1 ?_ | refine Z2 ?_ | refine x3 fun _ => ?_ | refine x4 fun _ => ?_ | refine x5 fun _ => ?_ | refine Z3 fun _ => ?_ | refine Z4 fun _ => ?_) | refine Za ?_ | refine Zb ?_ | refine Zl ?_ | refine Zc ?_ | refine Ze ?_ | refine Zi ?_ | refine Zj ?_ | refine Zf ?_ | refine Zg ?_ | refine Zm ?_ | refine Zn ?_ | refine Zo ?_ | refine Zp ?_ | refine Zq ?_ | refine Zr ?_ | refine Zk ?_)
      rw [or64 hsm hxy]
      repeat (first | refine Z0 ?_ | (refine ZR ?_; first | refine x1 ?_ | refine x2 ?_ | refine x8 ?_ | refine Z1 ?_ | refine Z2 ?_ | refine x3 fun _ => ?_ | refine x4 fun _ => ?_ | refine x5 fun _ => ?_ | refine Z3 fun _ => ?_ | refine Z4 fun _ => ?_) | refine Za ?_ | refine Zb ?_ | refine Zl ?_ | refine Zc ?_ | refine Ze ?_ | refine Zi ?_ | refine Zj ?_ | refine Zf ?_ | refine Zg ?_ | refine Zm ?_ | refine Zn ?_ | refine Zo ?_ | refine Zp ?_ | refine Zq ?_ | refine Zr ?_ | refine Zk ?_)
      refine ⟨i + 1, by omega, by omega, ?_, by exact drop_auto⟩
      rw [htk]
      repeat (first | exact SubL.nil | refine SubL.cons rfl ?_)
    · have : i = M.length := by omega
      subst this
      rw [List.take_length]
      repeat (first | refine Z0 ?_ | (refine ZR ?_; first | refine x1 ?_ | refine x2 ?_ | refine x8 ?_ | refine Z1 ?_ | refine Z2 ?_ | refine x3 fun _ => ?_ | refine x4 fun _ => ?_ | refine x5 fun _ => ?_ | refine Z3 fun _ => ?_ | refine Z4 fun _ => ?_) | refine Za ?_ | refine Zb ?_ | refine Zl ?_ | refine Zc ?_ | refine Ze ?_ | refine Zi ?_ | refine Zj ?_ | refine Zf ?_ | refine Zg ?_ | refine Zm ?_ | refine Zn ?_ | refine Zo ?_ | refine Zp ?_ | refine Zq ?_ | refine Zr ?_ | refine Zk ?_)
      exact re_1 rfl rfl (by exact drop_auto) hQ
  · rw [hok, if_neg (by decide)] at hQ
    have hQ2 : Q (.int .u64 0) ((b, .row (rdRow L.length src (rdN L s k)) ez el) :: H) := hQ
    repeat (first | refine Z0 ?_ | (refine ZR ?_; first | refine x1 ?_ | refine x2 ?_ | refine x8 ?_ | refine Z1 ?_ | refine Z2 ?_ | refine x3 fun _ => ?_ | refine x4 fun _ => ?_ | refine x5 fun _ => ?_ | refine Z3 fun _ => ?_ | refine Z4 fun _ => ?_) | refine Za ?_ | refine Zb ?_ | refine Zl ?_ | refine Zc ?_ | refine Ze ?_ | refine Zi ?_ | refine Zj ?_ | refine Zf ?_ | refine Zg ?_ | refine Zm ?_ | refine Zn ?_ | refine Zo ?_ | refine Zp ?_ | refine Zq ?_ | refine Zr ?_ | refine Zk ?_)
    refine loop_ind (ι := Nat) 0 (fun _ => 0) (fun i => i = 0) (fun _ => [(18, .int .i64 0), (17, .int .i64 0), (7, .int .u64 0)]) (fun _ => (b, .row (rdRow L.length src (rdN L s k)) ez el) :: H) rfl (by repeat (first | exact SubL.nil | refine SubL.cons rfl ?_)) (by exact drop_auto) ?_
    rintro i rfl
    repeat (first | refine Z0 ?_ | (refine ZR ?_; first | refine x1 ?_ | refine x2 ?_ | refine x8 ?_ | refine Z1 ?_ | refine Z2 ?_ | refine x3 fun _ => ?_ | refine x4 fun _ => ?_ | refine x5 fun _ => ?_ | refine Z3 fun _ => ?_ | refine Z4 fun _ => ?_) | refine Za ?_ | refine Zb ?_ | refine Zl ?_ | refine Zc ?_ | refine Ze ?_ | refine Zi ?_ | refine Zj ?_ | refine Zf ?_ | refine Zg ?_ | refine Zm ?_ | refine Zn ?_ | refine Zo ?_ | refine Zp ?_ | refine Zq ?_ | refine Zr ?_ | refine Zk ?_)
    exact re_1 rfl rfl (by exact drop_auto) hQ2
theorem r1_ct (hs : CutV (cx B0 old) H encY 1 L src) (hy : ∀ y ∈ L, isY y) (hp : s.p ≤ L.length) (hN : L.length ≤ 100000)
    (hQ : Q (.int .u64 ((rdV L s 1 : Nat) : Int)) ((b, .row (rdRow L.length src (rdN L s 1)) ez el) :: H)) :
    CallT (cx B0 old) (acall (cx B0 old) ansP (n + 5)) 176 [.pointer (some ⟨b, 0, none⟩)] ((b, .row (rdRow L.length src s) ez el) :: H) Q := by
  refine call_in1 5 rfl Try.func176 rfl rfl ?_
  repeat (first | refine Z0 ?_ | (refine ZR ?_; first | refine x1 ?_ | refine x2 ?_ | refine x8 ?_ | refine Z1 ?_ | refine Z2 ?_ | refine x3 fun _ => ?_ | refine x4 fun _ => ?_ | refine x5 fun _ => ?_ | refine Z3 fun _ => ?_ | refine Z4 fun _ => ?_) | refine Za ?_ | refine Zb ?_ | refine Zl ?_ | refine Zc ?_ | refine Ze ?_ | refine Zi ?_ | refine Zj ?_ | refine Zf ?_ | refine Zg ?_ | refine Zm ?_ | refine Zn ?_ | refine Zo ?_ | refine Zp ?_ | refine Zq ?_ | refine Zr ?_ | refine Zk ?_)
  refine rt_step rfl rfl rfl (st_call rfl rfl rfl rfl (number169_ct (k := 1) hs hy hp hN (by decide) ?_))
  repeat (first | refine Z0 ?_ | (refine ZR ?_; first | refine x1 ?_ | refine x2 ?_ | refine x8 ?_ | refine Z1 ?_ | refine Z2 ?_ | refine x3 fun _ => ?_ | refine x4 fun _ => ?_ | refine x5 fun _ => ?_ | refine Z3 fun _ => ?_ | refine Z4 fun _ => ?_) | refine Za ?_ | refine Zb ?_ | refine Zl ?_ | refine Zc ?_ | refine Ze ?_ | refine Zi ?_ | refine Zj ?_ | refine Zf ?_ | refine Zg ?_ | refine Zm ?_ | refine Zn ?_ | refine Zo ?_ | refine Zp ?_ | refine Zq ?_ | refine Zr ?_ | refine Zk ?_)
  exact re_1 rfl rfl (by exact drop_auto) hQ
theorem r3_ct (hs : CutV (cx B0 old) H encY 1 L src) (hy : ∀ y ∈ L, isY y) (hp : s.p ≤ L.length) (hN : L.length ≤ 100000)
    (hQ : Q (.int .u64 ((rdV L s 3 : Nat) : Int)) ((b, .row (rdRow L.length src (rdN L s 3)) ez el) :: H)) :
    CallT (cx B0 old) (acall (cx B0 old) ansP (n + 5)) 165 [.pointer (some ⟨b, 0, none⟩)] ((b, .row (rdRow L.length src s) ez el) :: H) Q := by
  refine call_in1 5 rfl Try.func165 rfl rfl ?_
  repeat (first | refine Z0 ?_ | (refine ZR ?_; first | refine x1 ?_ | refine x2 ?_ | refine x8 ?_ | refine Z1 ?_ | refine Z2 ?_ | refine x3 fun _ => ?_ | refine x4 fun _ => ?_ | refine x5 fun _ => ?_ | refine Z3 fun _ => ?_ | refine Z4 fun _ => ?_) | refine Za ?_ | refine Zb ?_ | refine Zl ?_ | refine Zc ?_ | refine Ze ?_ | refine Zi ?_ | refine Zj ?_ | refine Zf ?_ | refine Zg ?_ | refine Zm ?_ | refine Zn ?_ | refine Zo ?_ | refine Zp ?_ | refine Zq ?_ | refine Zr ?_ | refine Zk ?_)
  refine rt_step rfl rfl rfl (st_call rfl rfl rfl rfl (number169_ct (k := 3) hs hy hp hN (by decide) ?_))
  repeat (first | refine Z0 ?_ | (refine ZR ?_; first | refine x1 ?_ | refine x2 ?_ | refine x8 ?_ | refine Z1 ?_ | refine Z2 ?_ | refine x3 fun _ => ?_ | refine x4 fun _ => ?_ | refine x5 fun _ => ?_ | refine Z3 fun _ => ?_ | refine Z4 fun _ => ?_) | refine Za ?_ | refine Zb ?_ | refine Zl ?_ | refine Zc ?_ | refine Ze ?_ | refine Zi ?_ | refine Zj ?_ | refine Zf ?_ | refine Zg ?_ | refine Zm ?_ | refine Zn ?_ | refine Zo ?_ | refine Zp ?_ | refine Zq ?_ | refine Zr ?_ | refine Zk ?_)
  exact re_1 rfl rfl (by exact drop_auto) hQ
theorem r4_ct (hs : CutV (cx B0 old) H encY 1 L src) (hy : ∀ y ∈ L, isY y) (hp : s.p ≤ L.length) (hN : L.length ≤ 100000)
    (hQ : Q (.int .u64 ((rdV L s 4 : Nat) : Int)) ((b, .row (rdRow L.length src (rdN L s 4)) ez el) :: H)) :
    CallT (cx B0 old) (acall (cx B0 old) ansP (n + 5)) 164 [.pointer (some ⟨b, 0, none⟩)] ((b, .row (rdRow L.length src s) ez el) :: H) Q := by
  refine call_in1 5 rfl Try.func164 rfl rfl ?_
  repeat (first | refine Z0 ?_ | (refine ZR ?_; first | refine x1 ?_ | refine x2 ?_ | refine x8 ?_ | refine Z1 ?_ | refine Z2 ?_ | refine x3 fun _ => ?_ | refine x4 fun _ => ?_ | refine x5 fun _ => ?_ | refine Z3 fun _ => ?_ | refine Z4 fun _ => ?_) | refine Za ?_ | refine Zb ?_ | refine Zl ?_ | refine Zc ?_ | refine Ze ?_ | refine Zi ?_ | refine Zj ?_ | refine Zf ?_ | refine Zg ?_ | refine Zm ?_ | refine Zn ?_ | refine Zo ?_ | refine Zp ?_ | refine Zq ?_ | refine Zr ?_ | refine Zk ?_)
  refine rt_step rfl rfl rfl (st_call rfl rfl rfl rfl (number169_ct (k := 4) hs hy hp hN (by decide) ?_))
  repeat (first | refine Z0 ?_ | (refine ZR ?_; first | refine x1 ?_ | refine x2 ?_ | refine x8 ?_ | refine Z1 ?_ | refine Z2 ?_ | refine x3 fun _ => ?_ | refine x4 fun _ => ?_ | refine x5 fun _ => ?_ | refine Z3 fun _ => ?_ | refine Z4 fun _ => ?_) | refine Za ?_ | refine Zb ?_ | refine Zl ?_ | refine Zc ?_ | refine Ze ?_ | refine Zi ?_ | refine Zj ?_ | refine Zf ?_ | refine Zg ?_ | refine Zm ?_ | refine Zn ?_ | refine Zo ?_ | refine Zp ?_ | refine Zq ?_ | refine Zr ?_ | refine Zk ?_)
  exact re_1 rfl rfl (by exact drop_auto) hQ
theorem r6_ct (hs : CutV (cx B0 old) H encY 1 L src) (hy : ∀ y ∈ L, isY y) (hp : s.p ≤ L.length) (hN : L.length ≤ 100000)
    (hQ : Q (.int .u64 ((rdV L s 6 : Nat) : Int)) ((b, .row (rdRow L.length src (rdN L s 6)) ez el) :: H)) :
    CallT (cx B0 old) (acall (cx B0 old) ansP (n + 5)) 177 [.pointer (some ⟨b, 0, none⟩)] ((b, .row (rdRow L.length src s) ez el) :: H) Q := by
  refine call_in1 5 rfl Try.func177 rfl rfl ?_
  repeat (first | refine Z0 ?_ | (refine ZR ?_; first | refine x1 ?_ | refine x2 ?_ | refine x8 ?_ | refine Z1 ?_ | refine Z2 ?_ | refine x3 fun _ => ?_ | refine x4 fun _ => ?_ | refine x5 fun _ => ?_ | refine Z3 fun _ => ?_ | refine Z4 fun _ => ?_) | refine Za ?_ | refine Zb ?_ | refine Zl ?_ | refine Zc ?_ | refine Ze ?_ | refine Zi ?_ | refine Zj ?_ | refine Zf ?_ | refine Zg ?_ | refine Zm ?_ | refine Zn ?_ | refine Zo ?_ | refine Zp ?_ | refine Zq ?_ | refine Zr ?_ | refine Zk ?_)
  refine rt_step rfl rfl rfl (st_call rfl rfl rfl rfl (number169_ct (k := 6) hs hy hp hN (by decide) ?_))
  repeat (first | refine Z0 ?_ | (refine ZR ?_; first | refine x1 ?_ | refine x2 ?_ | refine x8 ?_ | refine Z1 ?_ | refine Z2 ?_ | refine x3 fun _ => ?_ | refine x4 fun _ => ?_ | refine x5 fun _ => ?_ | refine Z3 fun _ => ?_ | refine Z4 fun _ => ?_) | refine Za ?_ | refine Zb ?_ | refine Zl ?_ | refine Zc ?_ | refine Ze ?_ | refine Zi ?_ | refine Zj ?_ | refine Zf ?_ | refine Zg ?_ | refine Zm ?_ | refine Zn ?_ | refine Zo ?_ | refine Zp ?_ | refine Zq ?_ | refine Zr ?_ | refine Zk ?_)
  exact re_1 rfl rfl (by exact drop_auto) hQ
theorem r8_ct (hs : CutV (cx B0 old) H encY 1 L src) (hy : ∀ y ∈ L, isY y) (hp : s.p ≤ L.length) (hN : L.length ≤ 100000)
    (hQ : Q (.int .u64 ((rdV L s 8 : Nat) : Int)) ((b, .row (rdRow L.length src (rdN L s 8)) ez el) :: H)) :
    CallT (cx B0 old) (acall (cx B0 old) ansP (n + 5)) 162 [.pointer (some ⟨b, 0, none⟩)] ((b, .row (rdRow L.length src s) ez el) :: H) Q := by
  refine call_in1 5 rfl Try.func162 rfl rfl ?_
  repeat (first | refine Z0 ?_ | (refine ZR ?_; first | refine x1 ?_ | refine x2 ?_ | refine x8 ?_ | refine Z1 ?_ | refine Z2 ?_ | refine x3 fun _ => ?_ | refine x4 fun _ => ?_ | refine x5 fun _ => ?_ | refine Z3 fun _ => ?_ | refine Z4 fun _ => ?_) | refine Za ?_ | refine Zb ?_ | refine Zl ?_ | refine Zc ?_ | refine Ze ?_ | refine Zi ?_ | refine Zj ?_ | refine Zf ?_ | refine Zg ?_ | refine Zm ?_ | refine Zn ?_ | refine Zo ?_ | refine Zp ?_ | refine Zq ?_ | refine Zr ?_ | refine Zk ?_)
  refine rt_step rfl rfl rfl (st_call rfl rfl rfl rfl (number169_ct (k := 8) hs hy hp hN (by decide) ?_))
  repeat (first | refine Z0 ?_ | (refine ZR ?_; first | refine x1 ?_ | refine x2 ?_ | refine x8 ?_ | refine Z1 ?_ | refine Z2 ?_ | refine x3 fun _ => ?_ | refine x4 fun _ => ?_ | refine x5 fun _ => ?_ | refine Z3 fun _ => ?_ | refine Z4 fun _ => ?_) | refine Za ?_ | refine Zb ?_ | refine Zl ?_ | refine Zc ?_ | refine Ze ?_ | refine Zi ?_ | refine Zj ?_ | refine Zf ?_ | refine Zg ?_ | refine Zm ?_ | refine Zn ?_ | refine Zo ?_ | refine Zp ?_ | refine Zq ?_ | refine Zr ?_ | refine Zk ?_)
  exact re_1 rfl rfl (by exact drop_auto) hQ
end
end Go.Proofs.Ytjdppdoakbojcaa.Abs

/- Contracts: the values of routes are read by the program. -/
namespace Go.Proofs.Ytjdppdoakbojcaa.Abs
open Go
set_option linter.unusedVariables false
section
variable {C : Ctx} {hd : HH Prop} {l : Sl} {H H' : Hp} {x y : Operand} {t t2 e : TypeId} {Θ : Value → Hp → Prop} {k : Nat}
theorem st_copy {b o len cap ez n : Nat} {el : Bool} {cs cs' xs : List Value} {w : Value} (hx : evalL l x = some (.slice (some ⟨b, o, none⟩) len cap)) (hy : evalL l y = some w) (hu : C.P.underlying t = some (.slice e)) (hn : sizeAt C e = some k) (hs : Src C H k w n xs) (hm : Nat.min n len = n) (h0 : n ≠ 0)
    (hst : storeRow cs o xs = some cs') (hsw : Swap H b (.row cs ez el) (.row cs' ez el) H') (h : Θ (goInt n) H') : StepT C hd (.call { callee := .builtin .copy, args := #[x, y], argTypes := #[t, t2] }) l H Θ :=
  st_W (cov2 hx hy) rfl (fun _ => rfl) rfl fun s hms => by
    obtain ⟨g1, g2, g3⟩ := hs.cells hms
    obtain ⟨k1, k2, k3⟩ := hms.has _ _ hsw.mem
    refine ⟨goInt n, H', s.setObj b (.row cs' ez el), ?_, hms.swap hsw, h⟩
    show (acopy C s t (rhoL l x) (rhoL l y)) = _
    rw [rhoL_eq hx, rhoL_eq hy]
    unfold acopy
    simp only [hu, g1, hn]
    rw [if_neg (by rw [hm]; exact h0), hm, g2]
    simp only [Option.bind_some, putCells, Nat.ble_eq_true_of_le k1, k3, hst, Option.map_some]
theorem st_copy0 {b o len cap : Nat} (hx : evalL l x = some (.slice (some ⟨b, o, none⟩) len cap)) (hy : evalL l y = some (.slice none 0 0)) (hu : C.P.underlying t = some (.slice e)) (hn : sizeAt C e = some k) (h : Θ (goInt 0) H) : StepT C hd (.call { callee := .builtin .copy, args := #[x, y], argTypes := #[t, t2] }) l H Θ :=
  st_W (cov2 hx hy) rfl (fun _ => rfl) rfl fun s hms => by
    refine ⟨goInt 0, H, s, ?_, hms, h⟩
    show (acopy C s t (rhoL l x) (rhoL l y)) = _
    rw [rhoL_eq hx, rhoL_eq hy]
    unfold acopy
    simp only [hu, lenOf', hn]
    rw [if_pos (by simp)]
end
section
variable {C : Ctx} {hd : HH Prop} {l : Sl} {H : Hp} {x y : Operand} {st xt : TypeId} {Θ : Value → Hp → Prop}
theorem st_appN {kb : Nat × Nat} {ad : Option Addr} {n c : Nat} (hx : evalL l x = some (.slice ad n c)) (hy : evalL l y = some (.slice none 0 0)) (ht : appT C st xt = some kb) (h : Θ (.slice ad n c) H) : StepT C hd (.call { callee := .builtin .append, args := #[x, y], argTypes := #[st, xt] }) l H Θ :=
  st_W (cov2 hx hy) rfl (fun _ => rfl) rfl fun s hms => by
    refine ⟨_, H, s, ?_, hms, h⟩
    show aappend C s st xt (rhoL l x) (rhoL l y) = _
    rw [rhoL_eq hx, rhoL_eq hy, aappend_none ht rfl]
end
theorem swap_app {H H' : Hp} {b : Nat} {o o' : AObj} : ∀ (A : Hp), Swap H b o o' H' → Swap (A ++ H) b o o' (A ++ H')
  | [], h => h
  | _ :: A, h => .there _ _ (swap_app A h)
def rdE (L : List Int) (s : Rs) : List Int := if rdOk L s 10 then sub L s.p 10 else [0, 0, 0, 0, 0, 0, 0, 0, 0, 0]
theorem rdE_len (L : List Int) (s : Rs) : (rdE L s).length = 10 := by
  unfold rdE rdOk
  split
  · rename_i h
    simp only [Bool.and_eq_true, decide_eq_true_eq] at h
    exact sub_len h.2
  · rfl
def rdEi (L : List Int) (s : Rs) (i : Nat) : Int := (rdE L s).getD i 0
theorem rdE_map (L : List Int) (s : Rs) : (rdE L s).map vY = [vY (rdEi L s 0), vY (rdEi L s 1), vY (rdEi L s 2), vY (rdEi L s 3), vY (rdEi L s 4), vY (rdEi L s 5), vY (rdEi L s 6), vY (rdEi L s 7), vY (rdEi L s 8), vY (rdEi L s 9)] := by
  have h := rdE_len L s
  obtain ⟨e0, e1, e2, e3, e4, e5, e6, e7, e8, e9, e⟩ := ten h
  unfold rdEi
  rw [e]
  rfl
theorem rdV_lt {L : List Int} (hy : ∀ y ∈ L, isY y) (s : Rs) (k : Nat) : rdV L s k < 256 ^ k := by
  unfold rdV
  split
  · exact num_subk hy _ _
  · exact Nat.pow_pos (by decide)
theorem u32_v {L : List Int} (hy : ∀ y ∈ L, isY y) (s : Rs) {k : Nat} (hk : k ≤ 4) : IntKind.u32.wrap ((rdV L s k : Nat) : Int) = ((rdV L s k : Nat) : Int) := by
  have := rdV_lt hy s k
  have h2 : 256 ^ k ≤ 256 ^ 4 := Nat.pow_le_pow_right (by decide) hk
  have h3 : IntKind.u32.wrap ((rdV L s k : Nat) : Int) = ((rdV L s k : Nat) : Int) % 4294967296 := by simp [IntKind.wrap, IntKind.bits, IntKind.signed]
  omega
def gHost (L : List Int) (s : Rs) (x : S60) : S60 × Rs := if rdV L s 1 = 32 then ({ x with a15 := true, a14 := ((rdV L (rdN L s 1) 4 : Nat) : Int) }, rdN L (rdN L s 1) 4) else (x, rdN L s 1)
def gRD (L : List Int) (s : Rs) (x : S60) : S60 × Rs := ({ x with a1 := ((rdV L s 8 : Nat) : Int) }, rdN L s 8)
def gID (L : List Int) (r : S60 × Rs) : S60 × Rs := ({ r.1 with a2 := rdEi L r.2 0, a3 := rdEi L r.2 1, a4 := rdEi L r.2 2, a5 := rdEi L r.2 3, a6 := rdEi L r.2 4, a7 := rdEi L r.2 5, a8 := rdEi L r.2 6, a9 := rdEi L r.2 7, a10 := rdEi L r.2 8, a11 := rdEi L r.2 9 }, rdN L r.2 10)
def gTag (L : List Int) (r : S60 × Rs) : S60 × Rs := ({ r.1 with a12 := ((rdV L r.2 4 : Nat) : Int) }, rdN L r.2 4)
def gLab (L : List Int) (r : S60 × Rs) : S60 × Rs := ({ r.1 with a19 := ((rdV L r.2 3 : Nat) : Int) }, rdN L r.2 3)
def gMac (L : List Int) (r : S60 × Rs) : S60 × Rs := ({ r.1 with a13 := ((rdV L (rdN L r.2 1) 6 : Nat) : Int) }, rdN L (rdN L r.2 1) 6)
def gLab2 (L : List Int) (r : S60 × Rs) : S60 × Rs := if r.2.p < L.length then ({ r.1 with a20 := ((rdV L r.2 3 : Nat) : Int) }, rdN L r.2 3) else r
def gPfx (L : List Int) (r : S60 × Rs) : S60 × Rs := ({ r.1 with a17 := ((rdV L r.2 1 : Nat) : Int), a16 := ((rdV L (rdN L r.2 1) 4 : Nat) : Int), a18 := ((rdV L (rdN L (rdN L r.2 1) 4) 4 : Nat) : Int) }, rdN L (rdN L (rdN L r.2 1) 4) 4)
/-- What is read of a value of a kind. -/
def gS (k : Nat) (L : List Int) (x : S60) : S60 × Rs :=
  if k = 1 then gLab L (gTag L (gID L (gRD L ⟨0, false⟩ x)))
  else if k = 2 then (let r := gMac L (gTag L (gID L (gRD L ⟨0, false⟩ x))); gLab2 L (gLab L (gHost L r.2 r.1)))
  else if k = 3 then (let r := gTag L (gRD L ⟨0, false⟩ x); gHost L r.2 r.1)
  else if k = 4 then (let r := gID L (gRD L ⟨0, false⟩ x); gHost L r.2 r.1)
  else gLab L (gPfx L (gTag L (gID L (gRD L ⟨0, false⟩ x))))
section
variable {B0 : Nat} {old : Nat → Option (List Value)} {n : Nat} {H Hs : Hp} {Q : Value → Hp → Prop} {b c N ez ec : Nat} {el el2 : Bool} {src : Value} {L : List Int} {s : Rs}
set_option maxRecDepth 10000
set_option maxHeartbeats 4000000
theorem rbytes170_ct (hs : CutV (cx B0 old) H encY 1 L src) (hp : s.p ≤ L.length) (hN : L.length ≤ 100000)
    (h1 : rdOk L s 10 = true → ∀ v G, Own encY 1 (sub L s.p 10) v G → Q v (G ++ ((b, .row (rdRow L.length src (rdN L s 10)) ez el) :: H)))
    (h2 : rdOk L s 10 = false → Q (.slice none 0 0) ((b, .row (rdRow L.length src (rdN L s 10)) ez el) :: H)) :
    CallT (cx B0 old) (acall (cx B0 old) ansP (n + 4)) 170 [.pointer (some ⟨b, 0, none⟩), .int .i64 10] ((b, .row (rdRow L.length src s) ez el) :: H) Q := by
  refine call_in2 15 rfl Try.func170 rfl rfl ?_
  repeat (first | refine Z0 ?_ | (refine ZR ?_; first | refine x1 ?_ | refine x2 ?_ | refine x8 ?_ | refine Z1 ?_ | refine Z2 ?_ | refine x3 fun _ => ?_ | refine x4 fun _ => ?_ | refine x5 fun _ => ?_ | refine Z3 fun _ => ?_ | refine Z4 fun _ => ?_) | refine Za ?_ | refine Zb ?_ | refine Zl ?_ | refine Zc ?_ | refine Ze ?_ | refine Zi ?_ | refine Zj ?_ | refine Zf ?_ | refine Zg ?_ | refine Zm ?_ | refine Zn ?_ | refine Zo ?_ | refine Zp ?_ | refine Zq ?_ | refine Zr ?_ | refine Zk ?_)
  refine rt_step rfl rfl rfl (st_call rfl rfl rfl rfl (next171_ct (k := 10) hs hp hN (by decide) (fun hok v hv => ?_) (fun hok => ?_)))
  · obtain ⟨ad, c, e, ha, _⟩ := hv.arr
    have hle := sub_le L s.p 10
    subst e
    repeat (first | refine Z0 ?_ | (refine ZR ?_; first | refine x1 ?_ | refine x2 ?_ | refine x8 ?_ | refine Z1 ?_ | refine Z2 ?_ | refine x3 fun _ => ?_ | refine x4 fun _ => ?_ | refine x5 fun _ => ?_ | refine Z3 fun _ => ?_ | refine Z4 fun _ => ?_) | refine Za ?_ | refine Zb ?_ | refine Zl ?_ | refine Zc ?_ | refine Ze ?_ | refine Zi ?_ | refine Zj ?_ | refine Zf ?_ | refine Zg ?_ | refine Zm ?_ | refine Zn ?_ | refine Zo ?_ | refine Zp ?_ | refine Zq ?_ | refine Zr ?_ | refine Zk ?_)
    refine rt_step rfl rfl rfl (st_appO (pre := []) (Hs := []) Own.nil encY_len encY_one rfl rfl (ap rfl) (ha.weak (List.sublist_cons_self _ _)) (by show _ * (1 + 1) ≤ _; simp only [List.length_nil]; omega) fun v2 G2 o2 => ?_)
    repeat (first | refine Z0 ?_ | (refine ZR ?_; first | refine x1 ?_ | refine x2 ?_ | refine x8 ?_ | refine Z1 ?_ | refine Z2 ?_ | refine x3 fun _ => ?_ | refine x4 fun _ => ?_ | refine x5 fun _ => ?_ | refine Z3 fun _ => ?_ | refine Z4 fun _ => ?_) | refine Za ?_ | refine Zb ?_ | refine Zl ?_ | refine Zc ?_ | refine Ze ?_ | refine Zi ?_ | refine Zj ?_ | refine Zf ?_ | refine Zg ?_ | refine Zm ?_ | refine Zn ?_ | refine Zo ?_ | refine Zp ?_ | refine Zq ?_ | refine Zr ?_ | refine Zk ?_)
    exact re_1 rfl rfl (List.Sublist.refl _) (h1 hok _ _ o2)
  · repeat (first | refine Z0 ?_ | (refine ZR ?_; first | refine x1 ?_ | refine x2 ?_ | refine x8 ?_ | refine Z1 ?_ | refine Z2 ?_ | refine x3 fun _ => ?_ | refine x4 fun _ => ?_ | refine x5 fun _ => ?_ | refine Z3 fun _ => ?_ | refine Z4 fun _ => ?_) | refine Za ?_ | refine Zb ?_ | refine Zl ?_ | refine Zc ?_ | refine Ze ?_ | refine Zi ?_ | refine Zj ?_ | refine Zf ?_ | refine Zg ?_ | refine Zm ?_ | refine Zn ?_ | refine Zo ?_ | refine Zp ?_ | refine Zq ?_ | refine Zr ?_ | refine Zk ?_)
    refine rt_step rfl rfl rfl (st_appN rfl rfl (ap rfl) ?_)
    repeat (first | refine Z0 ?_ | (refine ZR ?_; first | refine x1 ?_ | refine x2 ?_ | refine x8 ?_ | refine Z1 ?_ | refine Z2 ?_ | refine x3 fun _ => ?_ | refine x4 fun _ => ?_ | refine x5 fun _ => ?_ | refine Z3 fun _ => ?_ | refine Z4 fun _ => ?_) | refine Za ?_ | refine Zb ?_ | refine Zl ?_ | refine Zc ?_ | refine Ze ?_ | refine Zi ?_ | refine Zj ?_ | refine Zf ?_ | refine Zg ?_ | refine Zm ?_ | refine Zn ?_ | refine Zo ?_ | refine Zp ?_ | refine Zq ?_ | refine Zr ?_ | refine Zk ?_)
    exact re_1 rfl rfl (List.Sublist.refl _) (h2 hok)
theorem ident163_ct (hs : CutV (cx B0 old) H encY 1 L src) (hp : s.p ≤ L.length) (hN : L.length ≤ 100000)
    (hQ : Q (.agg ⟨[vY (rdEi L s 0), vY (rdEi L s 1), vY (rdEi L s 2), vY (rdEi L s 3), vY (rdEi L s 4), vY (rdEi L s 5), vY (rdEi L s 6), vY (rdEi L s 7), vY (rdEi L s 8), vY (rdEi L s 9)]⟩) ((b, .row (rdRow L.length src (rdN L s 10)) ez el) :: H)) :
    CallT (cx B0 old) (acall (cx B0 old) ansP (n + 5)) 163 [.pointer (some ⟨b, 0, none⟩)] ((b, .row (rdRow L.length src s) ez el) :: H) Q := by
  rw [← rdE_map] at hQ
  refine call_in1 9 rfl Try.func163 rfl rfl ?_
  repeat (first | refine Z0 ?_ | (refine ZR ?_; first | refine x1 ?_ | refine x2 ?_ | refine x8 ?_ | refine Z1 ?_ | refine Z2 ?_ | refine x3 fun _ => ?_ | refine x4 fun _ => ?_ | refine x5 fun _ => ?_ | refine Z3 fun _ => ?_ | refine Z4 fun _ => ?_) | refine Za ?_ | refine Zb ?_ | refine Zl ?_ | refine Zc ?_ | refine Ze ?_ | refine Zi ?_ | refine Zj ?_ | refine Zf ?_ | refine Zg ?_ | refine Zm ?_ | refine Zn ?_ | refine Zo ?_ | refine Zp ?_ | refine Zq ?_ | refine Zr ?_ | refine Zk ?_)
  rename_i c2 c3
  have hsl : aslice (cx B0 old) 56 (.pointer (some ⟨c3, 0, none⟩)) none none none = some (.slice (some ⟨c3, 0, none⟩) 10 10) := by
    have := aslice_arr (C := cx B0 old) (t := 56) (b := c3) (o := 0) (m := 0) (q := 10) (k := 1) (lo := none) (hi := none) rfl (show sizeAt (cx B0 old) 5 = some 1 from sz rfl) (by decide) (Nat.zero_le _) (by decide) (.inr ⟨rfl, rfl⟩) (.inr ⟨rfl, rfl⟩)
    simpa using this
  refine ct_draw (masks := [0, 0, 2, 7]) (plan := [0, 1, 2, 3]) (E := []) (by kernel_rfl) (by kernel_rfl) (by kernel_rfl) (by kernel_rfl) ?_
  repeat (first | refine Y0 ?_ | (refine YP ?_; first | refine y1 ?_ | refine y2 ?_ | refine Y1 ?_ | refine Y2 ?_))
  refine pl_p rfl rfl rfl rfl rfl rfl (p_slc rfl rfl rfl hsl) ?_
  repeat (first | refine Y0 ?_ | (refine YP ?_; first | refine y1 ?_ | refine y2 ?_ | refine Y1 ?_ | refine Y2 ?_))
  refine PlanT.perm (H' := (b, .row (rdRow L.length src s) ez el) :: (c3, .row [.int .u8 0, .int .u8 0, .int .u8 0, .int .u8 0, .int .u8 0, .int .u8 0, .int .u8 0, .int .u8 0, .int .u8 0, .int .u8 0] 10 false) :: (c2, .row [.int .u8 0, .int .u8 0, .int .u8 0, .int .u8 0, .int .u8 0, .int .u8 0, .int .u8 0, .int .u8 0, .int .u8 0, .int .u8 0] 10 false) :: H) ?_ ((List.Perm.swap _ _ _).trans (List.Perm.cons _ (List.Perm.swap _ _ _)))
  unfold rdE at hQ
  refine pl_S rfl rfl rfl rfl rfl rfl (st_call rfl rfl rfl rfl (rbytes170_ct (hs.weak (by exact drop_auto)) hp hN (fun hok v G ho => ⟨by exact rec_auto, ?_⟩) (fun hok => ⟨by exact rec_auto, ?_⟩)))
  · rw [hok, if_pos rfl] at hQ
    have hM : (sub L s.p 10).length = 10 := by
      unfold rdOk at hok
      simp only [Bool.and_eq_true, decide_eq_true_eq] at hok
      exact sub_len hok.2
    generalize sub L s.p 10 = M at *
    obtain ⟨ad, cc, e, ga⟩ := ho.arrW (C := cx B0 old) encY_len
    subst e
    have hsrc : ∀ X, Src (cx B0 old) (G ++ X) 1 (.slice ad M.length cc) M.length (M.flatMap encY) := fun X => (ga [] X).src (by intro h; rw [h] at hM; cases hM)
    obtain ⟨e0, e1, e2, e3, e4, e5, e6, e7, e8, e9, rfl⟩ := ten hM
    refine pl_S rfl rfl rfl rfl rfl rfl (st_copy (k := 1) (n := 10) (xs := [e0, e1, e2, e3, e4, e5, e6, e7, e8, e9].flatMap encY) (cs' := [e0, e1, e2, e3, e4, e5, e6, e7, e8, e9].flatMap encY) rfl rfl rfl (sz rfl) (hsrc _) rfl (by decide) rfl (swap_app G (.there _ _ (.here _ _ _ _))) ⟨by exact rec_auto, ?_⟩)
    repeat (first | refine Y0 ?_ | (refine YP ?_; first | refine y1 ?_ | refine y2 ?_ | refine Y1 ?_ | refine Y2 ?_))
    repeat (first | refine Z0 ?_ | (refine ZR ?_; first | refine x1 ?_ | refine x2 ?_ | refine x8 ?_ | refine Z1 ?_ | refine Z2 ?_ | refine x3 fun _ => ?_ | refine x4 fun _ => ?_ | refine x5 fun _ => ?_ | refine Z3 fun _ => ?_ | refine Z4 fun _ => ?_) | refine Za ?_ | refine Zb ?_ | refine Zl ?_ | refine Zc ?_ | refine Ze ?_ | refine Zi ?_ | refine Zj ?_ | refine Zf ?_ | refine Zg ?_ | refine Zm ?_ | refine Zn ?_ | refine Zo ?_ | refine Zp ?_ | refine Zq ?_ | refine Zr ?_ | refine Zk ?_)
    exact re_c1 (H' := (b, .row (rdRow L.length src (rdN L s 10)) ez el) :: H) rfl rfl (.own _ _ (List.mem_append_right G (List.Mem.tail _ (List.Mem.tail _ (List.Mem.head _))))) rfl (sz rfl) rfl (by exact drop_auto) hQ
  · rw [hok, if_neg (by decide)] at hQ
    refine pl_S rfl rfl rfl rfl rfl rfl (st_copy0 (k := 1) rfl rfl rfl (sz rfl) ⟨by exact rec_auto, ?_⟩)
    repeat (first | refine Y0 ?_ | (refine YP ?_; first | refine y1 ?_ | refine y2 ?_ | refine Y1 ?_ | refine Y2 ?_))
    repeat (first | refine Z0 ?_ | (refine ZR ?_; first | refine x1 ?_ | refine x2 ?_ | refine x8 ?_ | refine Z1 ?_ | refine Z2 ?_ | refine x3 fun _ => ?_ | refine x4 fun _ => ?_ | refine x5 fun _ => ?_ | refine Z3 fun _ => ?_ | refine Z4 fun _ => ?_) | refine Za ?_ | refine Zb ?_ | refine Zl ?_ | refine Zc ?_ | refine Ze ?_ | refine Zi ?_ | refine Zj ?_ | refine Zf ?_ | refine Zg ?_ | refine Zm ?_ | refine Zn ?_ | refine Zo ?_ | refine Zp ?_ | refine Zq ?_ | refine Zr ?_ | refine Zk ?_)
    exact re_c1 (H' := (b, .row (rdRow L.length src (rdN L s 10)) ez el) :: H) rfl rfl (.own _ _ hm2) rfl (sz rfl) rfl (by exact drop_auto) hQ
theorem host178_ct (x : S60) (hs : CutV (cx B0 old) H encY 1 L src) (hy : ∀ y ∈ L, isY y) (hp : s.p ≤ L.length) (hN : L.length ≤ 100000)
    (hQ : ∀ v, Q v ((b, .row (rdRow L.length src (gHost L s x).2) ez el) :: (c, .row (en60 (gHost L s x).1) ec el2) :: H)) :
    CallT (cx B0 old) (acall (cx B0 old) ansP (n + 6)) 178 [.pointer (some ⟨b, 0, none⟩), .pointer (some ⟨c, 0, none⟩)] ((b, .row (rdRow L.length src s) ez el) :: (c, .row (en60 x) ec el2) :: H) Q := by
  unfold gHost at hQ
  refine call_in2 16 rfl Try.func178 rfl rfl ?_
  unfold en60 at hQ ⊢
  repeat (first | refine Z0 ?_ | (refine ZR ?_; first | refine x1 ?_ | refine x2 ?_ | refine x8 ?_ | refine Z1 ?_ | refine Z2 ?_ | refine x3 fun _ => ?_ | refine x4 fun _ => ?_ | refine x5 fun _ => ?_ | refine Z3 fun _ => ?_ | refine Z4 fun _ => ?_) | refine Za ?_ | refine Zb ?_ | refine Zl ?_ | refine Zc ?_ | refine Ze ?_ | refine Zi ?_ | refine Zj ?_ | refine Zf ?_ | refine Zg ?_ | refine Zm ?_ | refine Zn ?_ | refine Zo ?_ | refine Zp ?_ | refine Zq ?_ | refine Zr ?_ | refine Zk ?_)
  refine rt_step rfl rfl rfl (st_call rfl rfl rfl rfl (r1_ct (hs.weak (by exact drop_auto)) hy hp hN ?_))
  repeat (first | refine Z0 ?_ | (refine ZR ?_; first | refine x1 ?_ | refine x2 ?_ | refine x8 ?_ | refine Z1 ?_ | refine Z2 ?_ | refine x3 fun _ => ?_ | refine x4 fun _ => ?_ | refine x5 fun _ => ?_ | refine Z3 fun _ => ?_ | refine Z4 fun _ => ?_) | refine Za ?_ | refine Zb ?_ | refine Zl ?_ | refine Zc ?_ | refine Ze ?_ | refine Zi ?_ | refine Zj ?_ | refine Zf ?_ | refine Zg ?_ | refine Zm ?_ | refine Zn ?_ | refine Zo ?_ | refine Zp ?_ | refine Zq ?_ | refine Zr ?_ | refine Zk ?_)
  refine ct_condT te_e rfl (fun hc => ?_) (fun hc => ?_)
  · rw [if_pos (by omega)] at hQ
    repeat (first | refine Z0 ?_ | (refine ZR ?_; first | refine x1 ?_ | refine x2 ?_ | refine x8 ?_ | refine Z1 ?_ | refine Z2 ?_ | refine x3 fun _ => ?_ | refine x4 fun _ => ?_ | refine x5 fun _ => ?_ | refine Z3 fun _ => ?_ | refine Z4 fun _ => ?_) | refine Za ?_ | refine Zb ?_ | refine Zl ?_ | refine Zc ?_ | refine Ze ?_ | refine Zi ?_ | refine Zj ?_ | refine Zf ?_ | refine Zg ?_ | refine Zm ?_ | refine Zn ?_ | refine Zo ?_ | refine Zp ?_ | refine Zq ?_ | refine Zr ?_ | refine Zk ?_)
    refine rt_step rfl rfl rfl (st_call rfl rfl rfl rfl (r4_ct (hs.weak (by exact drop_auto)) hy (rdN_le hp) hN ?_))
    repeat (first | refine Z0 ?_ | (refine ZR ?_; first | refine x1 ?_ | refine x2 ?_ | refine x8 ?_ | refine Z1 ?_ | refine Z2 ?_ | refine x3 fun _ => ?_ | refine x4 fun _ => ?_ | refine x5 fun _ => ?_ | refine Z3 fun _ => ?_ | refine Z4 fun _ => ?_) | refine Za ?_ | refine Zb ?_ | refine Zl ?_ | refine Zc ?_ | refine Ze ?_ | refine Zi ?_ | refine Zj ?_ | refine Zf ?_ | refine Zg ?_ | refine Zm ?_ | refine Zn ?_ | refine Zo ?_ | refine Zp ?_ | refine Zq ?_ | refine Zr ?_ | refine Zk ?_)
    rw [u32_v hy _ (by decide)]
    repeat (first | refine Z0 ?_ | (refine ZR ?_; first | refine x1 ?_ | refine x2 ?_ | refine x8 ?_ | refine Z1 ?_ | refine Z2 ?_ | refine x3 fun _ => ?_ | refine x4 fun _ => ?_ | refine x5 fun _ => ?_ | refine Z3 fun _ => ?_ | refine Z4 fun _ => ?_) | refine Za ?_ | refine Zb ?_ | refine Zl ?_ | refine Zc ?_ | refine Ze ?_ | refine Zi ?_ | refine Zj ?_ | refine Zf ?_ | refine Zg ?_ | refine Zm ?_ | refine Zn ?_ | refine Zo ?_ | refine Zp ?_ | refine Zq ?_ | refine Zr ?_ | refine Zk ?_)
    exact re_0 rfl (List.Sublist.refl _) hQ
  · rw [if_neg (by omega)] at hQ
    repeat (first | refine Z0 ?_ | (refine ZR ?_; first | refine x1 ?_ | refine x2 ?_ | refine x8 ?_ | refine Z1 ?_ | refine Z2 ?_ | refine x3 fun _ => ?_ | refine x4 fun _ => ?_ | refine x5 fun _ => ?_ | refine Z3 fun _ => ?_ | refine Z4 fun _ => ?_) | refine Za ?_ | refine Zb ?_ | refine Zl ?_ | refine Zc ?_ | refine Ze ?_ | refine Zi ?_ | refine Zj ?_ | refine Zf ?_ | refine Zg ?_ | refine Zm ?_ | refine Zn ?_ | refine Zo ?_ | refine Zp ?_ | refine Zq ?_ | refine Zr ?_ | refine Zk ?_)
    exact re_0 rfl (List.Sublist.refl _) hQ

theorem get160_ct (x : S60) (hs : CutV (cx B0 old) H encY 1 L src) (hy : ∀ y ∈ L, isY y) (hN : L.length ≤ 100000)
    (hQ : ∀ v, Q v ((b, .row (rdRow L.length src (gS 1 L x).2) ez el) :: (c, .row (en60 (gS 1 L x).1) ec el2) :: H)) :
    CallT (cx B0 old) (acall (cx B0 old) ansP (n + 7)) 160 [.agg ⟨[]⟩, .pointer (some ⟨b, 0, none⟩), .pointer (some ⟨c, 0, none⟩)] ((b, .row (rdRow L.length src ⟨0, false⟩) ez el) :: (c, .row (en60 x) ec el2) :: H) Q := by
  have e : gS 1 L x = gLab L (gTag L (gID L (gRD L ⟨0, false⟩ x))) := by unfold gS; simp
  rw [e] at hQ
  dsimp only [gLab, gTag, gID, gRD] at hQ
  have hp0 : (⟨0, false⟩ : Rs).p ≤ L.length := Nat.zero_le _
  refine call_in3 28 rfl Try.func160 rfl rfl ?_
  unfold en60 at hQ ⊢
  repeat (first | refine Z0 ?_ | (refine ZR ?_; first | refine x1 ?_ | refine x2 ?_ | refine x8 ?_ | refine Z1 ?_ | refine Z2 ?_ | refine x3 fun _ => ?_ | refine x4 fun _ => ?_ | refine x5 fun _ => ?_ | refine Z3 fun _ => ?_ | refine Z4 fun _ => ?_) | refine Za ?_ | refine Zb ?_ | refine Zl ?_ | refine Zc ?_ | refine Ze ?_ | refine Zi ?_ | refine Zj ?_ | refine Zf ?_ | refine Zg ?_ | refine Zm ?_ | refine Zn ?_ | refine Zo ?_ | refine Zp ?_ | refine Zq ?_ | refine Zr ?_ | refine Zk ?_)
  refine RunT.weak ?_ (List.sublist_cons_self _ _)
  repeat (first | refine Z0 ?_ | (refine ZR ?_; first | refine x1 ?_ | refine x2 ?_ | refine x8 ?_ | refine Z1 ?_ | refine Z2 ?_ | refine x3 fun _ => ?_ | refine x4 fun _ => ?_ | refine x5 fun _ => ?_ | refine Z3 fun _ => ?_ | refine Z4 fun _ => ?_) | refine Za ?_ | refine Zb ?_ | refine Zl ?_ | refine Zc ?_ | refine Ze ?_ | refine Zi ?_ | refine Zj ?_ | refine Zf ?_ | refine Zg ?_ | refine Zm ?_ | refine Zn ?_ | refine Zo ?_ | refine Zp ?_ | refine Zq ?_ | refine Zr ?_ | refine Zk ?_)
  refine rt_step rfl rfl rfl (st_call rfl rfl rfl rfl (r8_ct (hs.weak (by exact drop_auto)) hy hp0 hN ?_))
  have hp1 := rdN_le (k := 8) hp0
  repeat (first | refine Z0 ?_ | (refine ZR ?_; first | refine x1 ?_ | refine x2 ?_ | refine x8 ?_ | refine Z1 ?_ | refine Z2 ?_ | refine x3 fun _ => ?_ | refine x4 fun _ => ?_ | refine x5 fun _ => ?_ | refine Z3 fun _ => ?_ | refine Z4 fun _ => ?_) | refine Za ?_ | refine Zb ?_ | refine Zl ?_ | refine Zc ?_ | refine Ze ?_ | refine Zi ?_ | refine Zj ?_ | refine Zf ?_ | refine Zg ?_ | refine Zm ?_ | refine Zn ?_ | refine Zo ?_ | refine Zp ?_ | refine Zq ?_ | refine Zr ?_ | refine Zk ?_)
  refine rt_step rfl rfl rfl (st_call rfl rfl rfl rfl (ident163_ct (hs.weak (by exact drop_auto)) hp1 hN ?_))
  have hp2 := rdN_le (k := 10) hp1
  repeat (first | refine Z0 ?_ | (refine ZR ?_; first | refine x1 ?_ | refine x2 ?_ | refine x8 ?_ | refine Z1 ?_ | refine Z2 ?_ | refine x3 fun _ => ?_ | refine x4 fun _ => ?_ | refine x5 fun _ => ?_ | refine Z3 fun _ => ?_ | refine Z4 fun _ => ?_) | refine Za ?_ | refine Zb ?_ | refine Zl ?_ | refine Zc ?_ | refine Ze ?_ | refine Zi ?_ | refine Zj ?_ | refine Zf ?_ | refine Zg ?_ | refine Zm ?_ | refine Zn ?_ | refine Zo ?_ | refine Zp ?_ | refine Zq ?_ | refine Zr ?_ | refine Zk ?_)
  refine rt_step rfl rfl rfl (st_call rfl rfl rfl rfl (r4_ct (hs.weak (by exact drop_auto)) hy hp2 hN ?_))
  have hp3 := rdN_le (k := 4) hp2
  repeat (first | refine Z0 ?_ | (refine ZR ?_; first | refine x1 ?_ | refine x2 ?_ | refine x8 ?_ | refine Z1 ?_ | refine Z2 ?_ | refine x3 fun _ => ?_ | refine x4 fun _ => ?_ | refine x5 fun _ => ?_ | refine Z3 fun _ => ?_ | refine Z4 fun _ => ?_) | refine Za ?_ | refine Zb ?_ | refine Zl ?_ | refine Zc ?_ | refine Ze ?_ | refine Zi ?_ | refine Zj ?_ | refine Zf ?_ | refine Zg ?_ | refine Zm ?_ | refine Zn ?_ | refine Zo ?_ | refine Zp ?_ | refine Zq ?_ | refine Zr ?_ | refine Zk ?_)
  rw [u32_v hy _ (by decide)]
  repeat (first | refine Z0 ?_ | (refine ZR ?_; first | refine x1 ?_ | refine x2 ?_ | refine x8 ?_ | refine Z1 ?_ | refine Z2 ?_ | refine x3 fun _ => ?_ | refine x4 fun _ => ?_ | refine x5 fun _ => ?_ | refine Z3 fun _ => ?_ | refine Z4 fun _ => ?_) | refine Za ?_ | refine Zb ?_ | refine Zl ?_ | refine Zc ?_ | refine Ze ?_ | refine Zi ?_ | refine Zj ?_ | refine Zf ?_ | refine Zg ?_ | refine Zm ?_ | refine Zn ?_ | refine Zo ?_ | refine Zp ?_ | refine Zq ?_ | refine Zr ?_ | refine Zk ?_)
  refine rt_step rfl rfl rfl (st_call rfl rfl rfl rfl (r3_ct (hs.weak (by exact drop_auto)) hy hp3 hN ?_))
  have hp4 := rdN_le (k := 3) hp3
  repeat (first | refine Z0 ?_ | (refine ZR ?_; first | refine x1 ?_ | refine x2 ?_ | refine x8 ?_ | refine Z1 ?_ | refine Z2 ?_ | refine x3 fun _ => ?_ | refine x4 fun _ => ?_ | refine x5 fun _ => ?_ | refine Z3 fun _ => ?_ | refine Z4 fun _ => ?_) | refine Za ?_ | refine Zb ?_ | refine Zl ?_ | refine Zc ?_ | refine Ze ?_ | refine Zi ?_ | refine Zj ?_ | refine Zf ?_ | refine Zg ?_ | refine Zm ?_ | refine Zn ?_ | refine Zo ?_ | refine Zp ?_ | refine Zq ?_ | refine Zr ?_ | refine Zk ?_)
  rw [u32_v hy _ (by decide)]
  repeat (first | refine Z0 ?_ | (refine ZR ?_; first | refine x1 ?_ | refine x2 ?_ | refine x8 ?_ | refine Z1 ?_ | refine Z2 ?_ | refine x3 fun _ => ?_ | refine x4 fun _ => ?_ | refine x5 fun _ => ?_ | refine Z3 fun _ => ?_ | refine Z4 fun _ => ?_) | refine Za ?_ | refine Zb ?_ | refine Zl ?_ | refine Zc ?_ | refine Ze ?_ | refine Zi ?_ | refine Zj ?_ | refine Zf ?_ | refine Zg ?_ | refine Zm ?_ | refine Zn ?_ | refine Zo ?_ | refine Zp ?_ | refine Zq ?_ | refine Zr ?_ | refine Zk ?_)
  exact re_0 rfl (List.Sublist.refl _) hQ
theorem get185_ct (x : S60) (hs : CutV (cx B0 old) H encY 1 L src) (hy : ∀ y ∈ L, isY y) (hN : L.length ≤ 100000)
    (hQ : ∀ v, Q v ((b, .row (rdRow L.length src (gS 5 L x).2) ez el) :: (c, .row (en60 (gS 5 L x).1) ec el2) :: H)) :
    CallT (cx B0 old) (acall (cx B0 old) ansP (n + 7)) 185 [.agg ⟨[]⟩, .pointer (some ⟨b, 0, none⟩), .pointer (some ⟨c, 0, none⟩)] ((b, .row (rdRow L.length src ⟨0, false⟩) ez el) :: (c, .row (en60 x) ec el2) :: H) Q := by
  have e : gS 5 L x = gLab L (gPfx L (gTag L (gID L (gRD L ⟨0, false⟩ x)))) := by unfold gS; simp
  rw [e] at hQ
  dsimp only [gLab, gPfx, gTag, gID, gRD] at hQ
  have hp0 : (⟨0, false⟩ : Rs).p ≤ L.length := Nat.zero_le _
  refine call_in3 48 rfl Try.func185 rfl rfl ?_
  unfold en60 at hQ ⊢
  repeat (first | refine Z0 ?_ | (refine ZR ?_; first | refine x1 ?_ | refine x2 ?_ | refine x8 ?_ | refine Z1 ?_ | refine Z2 ?_ | refine x3 fun _ => ?_ | refine x4 fun _ => ?_ | refine x5 fun _ => ?_ | refine Z3 fun _ => ?_ | refine Z4 fun _ => ?_) | refine Za ?_ | refine Zb ?_ | refine Zl ?_ | refine Zc ?_ | refine Ze ?_ | refine Zi ?_ | refine Zj ?_ | refine Zf ?_ | refine Zg ?_ | refine Zm ?_ | refine Zn ?_ | refine Zo ?_ | refine Zp ?_ | refine Zq ?_ | refine Zr ?_ | refine Zk ?_)
  refine RunT.weak ?_ (List.sublist_cons_self _ _)
  repeat (first | refine Z0 ?_ | (refine ZR ?_; first | refine x1 ?_ | refine x2 ?_ | refine x8 ?_ | refine Z1 ?_ | refine Z2 ?_ | refine x3 fun _ => ?_ | refine x4 fun _ => ?_ | refine x5 fun _ => ?_ | refine Z3 fun _ => ?_ | refine Z4 fun _ => ?_) | refine Za ?_ | refine Zb ?_ | refine Zl ?_ | refine Zc ?_ | refine Ze ?_ | refine Zi ?_ | refine Zj ?_ | refine Zf ?_ | refine Zg ?_ | refine Zm ?_ | refine Zn ?_ | refine Zo ?_ | refine Zp ?_ | refine Zq ?_ | refine Zr ?_ | refine Zk ?_)
  refine rt_step rfl rfl rfl (st_call rfl rfl rfl rfl (r8_ct (hs.weak (by exact drop_auto)) hy hp0 hN ?_))
  have hp1 := rdN_le (k := 8) hp0
  repeat (first | refine Z0 ?_ | (refine ZR ?_; first | refine x1 ?_ | refine x2 ?_ | refine x8 ?_ | refine Z1 ?_ | refine Z2 ?_ | refine x3 fun _ => ?_ | refine x4 fun _ => ?_ | refine x5 fun _ => ?_ | refine Z3 fun _ => ?_ | refine Z4 fun _ => ?_) | refine Za ?_ | refine Zb ?_ | refine Zl ?_ | refine Zc ?_ | refine Ze ?_ | refine Zi ?_ | refine Zj ?_ | refine Zf ?_ | refine Zg ?_ | refine Zm ?_ | refine Zn ?_ | refine Zo ?_ | refine Zp ?_ | refine Zq ?_ | refine Zr ?_ | refine Zk ?_)
  refine rt_step rfl rfl rfl (st_call rfl rfl rfl rfl (ident163_ct (hs.weak (by exact drop_auto)) hp1 hN ?_))
  have hp2 := rdN_le (k := 10) hp1
  repeat (first | refine Z0 ?_ | (refine ZR ?_; first | refine x1 ?_ | refine x2 ?_ | refine x8 ?_ | refine Z1 ?_ | refine Z2 ?_ | refine x3 fun _ => ?_ | refine x4 fun _ => ?_ | refine x5 fun _ => ?_ | refine Z3 fun _ => ?_ | refine Z4 fun _ => ?_) | refine Za ?_ | refine Zb ?_ | refine Zl ?_ | refine Zc ?_ | refine Ze ?_ | refine Zi ?_ | refine Zj ?_ | refine Zf ?_ | refine Zg ?_ | refine Zm ?_ | refine Zn ?_ | refine Zo ?_ | refine Zp ?_ | refine Zq ?_ | refine Zr ?_ | refine Zk ?_)
  refine rt_step rfl rfl rfl (st_call rfl rfl rfl rfl (r4_ct (hs.weak (by exact drop_auto)) hy hp2 hN ?_))
  have hp3 := rdN_le (k := 4) hp2
  repeat (first | refine Z0 ?_ | (refine ZR ?_; first | refine x1 ?_ | refine x2 ?_ | refine x8 ?_ | refine Z1 ?_ | refine Z2 ?_ | refine x3 fun _ => ?_ | refine x4 fun _ => ?_ | refine x5 fun _ => ?_ | refine Z3 fun _ => ?_ | refine Z4 fun _ => ?_) | refine Za ?_ | refine Zb ?_ | refine Zl ?_ | refine Zc ?_ | refine Ze ?_ | refine Zi ?_ | refine Zj ?_ | refine Zf ?_ | refine Zg ?_ | refine Zm ?_ | refine Zn ?_ | refine Zo ?_ | refine Zp ?_ | refine Zq ?_ | refine Zr ?_ | refine Zk ?_)
  rw [u32_v hy _ (by decide)]
  repeat (first | refine Z0 ?_ | (refine ZR ?_; first | refine x1 ?_ | refine x2 ?_ | refine x8 ?_ | refine Z1 ?_ | refine Z2 ?_ | refine x3 fun _ => ?_ | refine x4 fun _ => ?_ | refine x5 fun _ => ?_ | refine Z3 fun _ => ?_ | refine Z4 fun _ => ?_) | refine Za ?_ | refine Zb ?_ | refine Zl ?_ | refine Zc ?_ | refine Ze ?_ | refine Zi ?_ | refine Zj ?_ | refine Zf ?_ | refine Zg ?_ | refine Zm ?_ | refine Zn ?_ | refine Zo ?_ | refine Zp ?_ | refine Zq ?_ | refine Zr ?_ | refine Zk ?_)
  refine rt_step rfl rfl rfl (st_call rfl rfl rfl rfl (r1_ct (hs.weak (by exact drop_auto)) hy hp3 hN ?_))
  have hp4 := rdN_le (k := 1) hp3
  repeat (first | refine Z0 ?_ | (refine ZR ?_; first | refine x1 ?_ | refine x2 ?_ | refine x8 ?_ | refine Z1 ?_ | refine Z2 ?_ | refine x3 fun _ => ?_ | refine x4 fun _ => ?_ | refine x5 fun _ => ?_ | refine Z3 fun _ => ?_ | refine Z4 fun _ => ?_) | refine Za ?_ | refine Zb ?_ | refine Zl ?_ | refine Zc ?_ | refine Ze ?_ | refine Zi ?_ | refine Zj ?_ | refine Zf ?_ | refine Zg ?_ | refine Zm ?_ | refine Zn ?_ | refine Zo ?_ | refine Zp ?_ | refine Zq ?_ | refine Zr ?_ | refine Zk ?_)
  rw [show IntKind.i64.wrap ((rdV L (rdN L (rdN L (rdN L ⟨0, false⟩ 8) 10) 4) 1 : Nat) : Int) = ((rdV L (rdN L (rdN L (rdN L ⟨0, false⟩ 8) 10) 4) 1 : Nat) : Int) from by have := rdV_lt hy (rdN L (rdN L (rdN L ⟨0, false⟩ 8) 10) 4) 1; exact i64_i (by omega)]
  repeat (first | refine Z0 ?_ | (refine ZR ?_; first | refine x1 ?_ | refine x2 ?_ | refine x8 ?_ | refine Z1 ?_ | refine Z2 ?_ | refine x3 fun _ => ?_ | refine x4 fun _ => ?_ | refine x5 fun _ => ?_ | refine Z3 fun _ => ?_ | refine Z4 fun _ => ?_) | refine Za ?_ | refine Zb ?_ | refine Zl ?_ | refine Zc ?_ | refine Ze ?_ | refine Zi ?_ | refine Zj ?_ | refine Zf ?_ | refine Zg ?_ | refine Zm ?_ | refine Zn ?_ | refine Zo ?_ | refine Zp ?_ | refine Zq ?_ | refine Zr ?_ | refine Zk ?_)
  refine rt_step rfl rfl rfl (st_call rfl rfl rfl rfl (r4_ct (hs.weak (by exact drop_auto)) hy hp4 hN ?_))
  have hp5 := rdN_le (k := 4) hp4
  repeat (first | refine Z0 ?_ | (refine ZR ?_; first | refine x1 ?_ | refine x2 ?_ | refine x8 ?_ | refine Z1 ?_ | refine Z2 ?_ | refine x3 fun _ => ?_ | refine x4 fun _ => ?_ | refine x5 fun _ => ?_ | refine Z3 fun _ => ?_ | refine Z4 fun _ => ?_) | refine Za ?_ | refine Zb ?_ | refine Zl ?_ | refine Zc ?_ | refine Ze ?_ | refine Zi ?_ | refine Zj ?_ | refine Zf ?_ | refine Zg ?_ | refine Zm ?_ | refine Zn ?_ | refine Zo ?_ | refine Zp ?_ | refine Zq ?_ | refine Zr ?_ | refine Zk ?_)
  rw [u32_v hy _ (by decide)]
  repeat (first | refine Z0 ?_ | (refine ZR ?_; first | refine x1 ?_ | refine x2 ?_ | refine x8 ?_ | refine Z1 ?_ | refine Z2 ?_ | refine x3 fun _ => ?_ | refine x4 fun _ => ?_ | refine x5 fun _ => ?_ | refine Z3 fun _ => ?_ | refine Z4 fun _ => ?_) | refine Za ?_ | refine Zb ?_ | refine Zl ?_ | refine Zc ?_ | refine Ze ?_ | refine Zi ?_ | refine Zj ?_ | refine Zf ?_ | refine Zg ?_ | refine Zm ?_ | refine Zn ?_ | refine Zo ?_ | refine Zp ?_ | refine Zq ?_ | refine Zr ?_ | refine Zk ?_)
  refine rt_step rfl rfl rfl (st_call rfl rfl rfl rfl (r4_ct (hs.weak (by exact drop_auto)) hy hp5 hN ?_))
  have hp6 := rdN_le (k := 4) hp5
  repeat (first | refine Z0 ?_ | (refine ZR ?_; first | refine x1 ?_ | refine x2 ?_ | refine x8 ?_ | refine Z1 ?_ | refine Z2 ?_ | refine x3 fun _ => ?_ | refine x4 fun _ => ?_ | refine x5 fun _ => ?_ | refine Z3 fun _ => ?_ | refine Z4 fun _ => ?_) | refine Za ?_ | refine Zb ?_ | refine Zl ?_ | refine Zc ?_ | refine Ze ?_ | refine Zi ?_ | refine Zj ?_ | refine Zf ?_ | refine Zg ?_ | refine Zm ?_ | refine Zn ?_ | refine Zo ?_ | refine Zp ?_ | refine Zq ?_ | refine Zr ?_ | refine Zk ?_)
  rw [u32_v hy _ (by decide)]
  repeat (first | refine Z0 ?_ | (refine ZR ?_; first | refine x1 ?_ | refine x2 ?_ | refine x8 ?_ | refine Z1 ?_ | refine Z2 ?_ | refine x3 fun _ => ?_ | refine x4 fun _ => ?_ | refine x5 fun _ => ?_ | refine Z3 fun _ => ?_ | refine Z4 fun _ => ?_) | refine Za ?_ | refine Zb ?_ | refine Zl ?_ | refine Zc ?_ | refine Ze ?_ | refine Zi ?_ | refine Zj ?_ | refine Zf ?_ | refine Zg ?_ | refine Zm ?_ | refine Zn ?_ | refine Zo ?_ | refine Zp ?_ | refine Zq ?_ | refine Zr ?_ | refine Zk ?_)
  refine rt_step rfl rfl rfl (st_call rfl rfl rfl rfl (r3_ct (hs.weak (by exact drop_auto)) hy hp6 hN ?_))
  have hp7 := rdN_le (k := 3) hp6
  repeat (first | refine Z0 ?_ | (refine ZR ?_; first | refine x1 ?_ | refine x2 ?_ | refine x8 ?_ | refine Z1 ?_ | refine Z2 ?_ | refine x3 fun _ => ?_ | refine x4 fun _ => ?_ | refine x5 fun _ => ?_ | refine Z3 fun _ => ?_ | refine Z4 fun _ => ?_) | refine Za ?_ | refine Zb ?_ | refine Zl ?_ | refine Zc ?_ | refine Ze ?_ | refine Zi ?_ | refine Zj ?_ | refine Zf ?_ | refine Zg ?_ | refine Zm ?_ | refine Zn ?_ | refine Zo ?_ | refine Zp ?_ | refine Zq ?_ | refine Zr ?_ | refine Zk ?_)
  rw [u32_v hy _ (by decide)]
  repeat (first | refine Z0 ?_ | (refine ZR ?_; first | refine x1 ?_ | refine x2 ?_ | refine x8 ?_ | refine Z1 ?_ | refine Z2 ?_ | refine x3 fun _ => ?_ | refine x4 fun _ => ?_ | refine x5 fun _ => ?_ | refine Z3 fun _ => ?_ | refine Z4 fun _ => ?_) | refine Za ?_ | refine Zb ?_ | refine Zl ?_ | refine Zc ?_ | refine Ze ?_ | refine Zi ?_ | refine Zj ?_ | refine Zf ?_ | refine Zg ?_ | refine Zm ?_ | refine Zn ?_ | refine Zo ?_ | refine Zp ?_ | refine Zq ?_ | refine Zr ?_ | refine Zk ?_)
  exact re_0 rfl (List.Sublist.refl _) hQ
theorem get181_ct (x : S60) (hs : CutV (cx B0 old) H encY 1 L src) (hy : ∀ y ∈ L, isY y) (hN : L.length ≤ 100000)
    (hQ : ∀ v, Q v ((b, .row (rdRow L.length src (gS 3 L x).2) ez el) :: (c, .row (en60 (gS 3 L x).1) ec el2) :: H)) :
    CallT (cx B0 old) (acall (cx B0 old) ansP (n + 7)) 181 [.agg ⟨[]⟩, .pointer (some ⟨b, 0, none⟩), .pointer (some ⟨c, 0, none⟩)] ((b, .row (rdRow L.length src ⟨0, false⟩) ez el) :: (c, .row (en60 x) ec el2) :: H) Q := by
  have e : gS 3 L x = (gHost L (gTag L (gRD L ⟨0, false⟩ x)).2 (gTag L (gRD L ⟨0, false⟩ x)).1) := by unfold gS; simp
  rw [e] at hQ
  dsimp only [gTag, gRD] at hQ
  have hp0 : (⟨0, false⟩ : Rs).p ≤ L.length := Nat.zero_le _
  refine call_in3 20 rfl Try.func181 rfl rfl ?_
  unfold en60 at hQ ⊢
  repeat (first | refine Z0 ?_ | (refine ZR ?_; first | refine x1 ?_ | refine x2 ?_ | refine x8 ?_ | refine Z1 ?_ | refine Z2 ?_ | refine x3 fun _ => ?_ | refine x4 fun _ => ?_ | refine x5 fun _ => ?_ | refine Z3 fun _ => ?_ | refine Z4 fun _ => ?_) | refine Za ?_ | refine Zb ?_ | refine Zl ?_ | refine Zc ?_ | refine Ze ?_ | refine Zi ?_ | refine Zj ?_ | refine Zf ?_ | refine Zg ?_ | refine Zm ?_ | refine Zn ?_ | refine Zo ?_ | refine Zp ?_ | refine Zq ?_ | refine Zr ?_ | refine Zk ?_)
  refine RunT.weak ?_ (List.sublist_cons_self _ _)
  repeat (first | refine Z0 ?_ | (refine ZR ?_; first | refine x1 ?_ | refine x2 ?_ | refine x8 ?_ | refine Z1 ?_ | refine Z2 ?_ | refine x3 fun _ => ?_ | refine x4 fun _ => ?_ | refine x5 fun _ => ?_ | refine Z3 fun _ => ?_ | refine Z4 fun _ => ?_) | refine Za ?_ | refine Zb ?_ | refine Zl ?_ | refine Zc ?_ | refine Ze ?_ | refine Zi ?_ | refine Zj ?_ | refine Zf ?_ | refine Zg ?_ | refine Zm ?_ | refine Zn ?_ | refine Zo ?_ | refine Zp ?_ | refine Zq ?_ | refine Zr ?_ | refine Zk ?_)
  refine rt_step rfl rfl rfl (st_call rfl rfl rfl rfl (r8_ct (hs.weak (by exact drop_auto)) hy hp0 hN ?_))
  have hp1 := rdN_le (k := 8) hp0
  repeat (first | refine Z0 ?_ | (refine ZR ?_; first | refine x1 ?_ | refine x2 ?_ | refine x8 ?_ | refine Z1 ?_ | refine Z2 ?_ | refine x3 fun _ => ?_ | refine x4 fun _ => ?_ | refine x5 fun _ => ?_ | refine Z3 fun _ => ?_ | refine Z4 fun _ => ?_) | refine Za ?_ | refine Zb ?_ | refine Zl ?_ | refine Zc ?_ | refine Ze ?_ | refine Zi ?_ | refine Zj ?_ | refine Zf ?_ | refine Zg ?_ | refine Zm ?_ | refine Zn ?_ | refine Zo ?_ | refine Zp ?_ | refine Zq ?_ | refine Zr ?_ | refine Zk ?_)
  refine rt_step rfl rfl rfl (st_call rfl rfl rfl rfl (r4_ct (hs.weak (by exact drop_auto)) hy hp1 hN ?_))
  have hp2 := rdN_le (k := 4) hp1
  repeat (first | refine Z0 ?_ | (refine ZR ?_; first | refine x1 ?_ | refine x2 ?_ | refine x8 ?_ | refine Z1 ?_ | refine Z2 ?_ | refine x3 fun _ => ?_ | refine x4 fun _ => ?_ | refine x5 fun _ => ?_ | refine Z3 fun _ => ?_ | refine Z4 fun _ => ?_) | refine Za ?_ | refine Zb ?_ | refine Zl ?_ | refine Zc ?_ | refine Ze ?_ | refine Zi ?_ | refine Zj ?_ | refine Zf ?_ | refine Zg ?_ | refine Zm ?_ | refine Zn ?_ | refine Zo ?_ | refine Zp ?_ | refine Zq ?_ | refine Zr ?_ | refine Zk ?_)
  rw [u32_v hy _ (by decide)]
  repeat (first | refine Z0 ?_ | (refine ZR ?_; first | refine x1 ?_ | refine x2 ?_ | refine x8 ?_ | refine Z1 ?_ | refine Z2 ?_ | refine x3 fun _ => ?_ | refine x4 fun _ => ?_ | refine x5 fun _ => ?_ | refine Z3 fun _ => ?_ | refine Z4 fun _ => ?_) | refine Za ?_ | refine Zb ?_ | refine Zl ?_ | refine Zc ?_ | refine Ze ?_ | refine Zi ?_ | refine Zj ?_ | refine Zf ?_ | refine Zg ?_ | refine Zm ?_ | refine Zn ?_ | refine Zo ?_ | refine Zp ?_ | refine Zq ?_ | refine Zr ?_ | refine Zk ?_)
  refine rt_step rfl rfl rfl (st_call rfl rfl rfl rfl (host178_ct (s := (rdN L (rdN L ⟨0, false⟩ 8) 4)) ({ x with a1 := ((rdV L ⟨0, false⟩ 8 : Nat) : Int), a12 := ((rdV L (rdN L ⟨0, false⟩ 8) 4 : Nat) : Int) }) (hs.weak (by exact drop_auto)) hy hp2 hN fun _ => ?_))
  repeat (first | refine Z0 ?_ | (refine ZR ?_; first | refine x1 ?_ | refine x2 ?_ | refine x8 ?_ | refine Z1 ?_ | refine Z2 ?_ | refine x3 fun _ => ?_ | refine x4 fun _ => ?_ | refine x5 fun _ => ?_ | refine Z3 fun _ => ?_ | refine Z4 fun _ => ?_) | refine Za ?_ | refine Zb ?_ | refine Zl ?_ | refine Zc ?_ | refine Ze ?_ | refine Zi ?_ | refine Zj ?_ | refine Zf ?_ | refine Zg ?_ | refine Zm ?_ | refine Zn ?_ | refine Zo ?_ | refine Zp ?_ | refine Zq ?_ | refine Zr ?_ | refine Zk ?_)
  exact re_0 rfl (List.Sublist.refl _) hQ
theorem get183_ct (x : S60) (hs : CutV (cx B0 old) H encY 1 L src) (hy : ∀ y ∈ L, isY y) (hN : L.length ≤ 100000)
    (hQ : ∀ v, Q v ((b, .row (rdRow L.length src (gS 4 L x).2) ez el) :: (c, .row (en60 (gS 4 L x).1) ec el2) :: H)) :
    CallT (cx B0 old) (acall (cx B0 old) ansP (n + 7)) 183 [.agg ⟨[]⟩, .pointer (some ⟨b, 0, none⟩), .pointer (some ⟨c, 0, none⟩)] ((b, .row (rdRow L.length src ⟨0, false⟩) ez el) :: (c, .row (en60 x) ec el2) :: H) Q := by
  have e : gS 4 L x = (gHost L (gID L (gRD L ⟨0, false⟩ x)).2 (gID L (gRD L ⟨0, false⟩ x)).1) := by unfold gS; simp
  rw [e] at hQ
  dsimp only [gID, gRD] at hQ
  have hp0 : (⟨0, false⟩ : Rs).p ≤ L.length := Nat.zero_le _
  refine call_in3 19 rfl Try.func183 rfl rfl ?_
  unfold en60 at hQ ⊢
  repeat (first | refine Z0 ?_ | (refine ZR ?_; first | refine x1 ?_ | refine x2 ?_ | refine x8 ?_ | refine Z1 ?_ | refine Z2 ?_ | refine x3 fun _ => ?_ | refine x4 fun _ => ?_ | refine x5 fun _ => ?_ | refine Z3 fun _ => ?_ | refine Z4 fun _ => ?_) | refine Za ?_ | refine Zb ?_ | refine Zl ?_ | refine Zc ?_ | refine Ze ?_ | refine Zi ?_ | refine Zj ?_ | refine Zf ?_ | refine Zg ?_ | refine Zm ?_ | refine Zn ?_ | refine Zo ?_ | refine Zp ?_ | refine Zq ?_ | refine Zr ?_ | refine Zk ?_)
  refine RunT.weak ?_ (List.sublist_cons_self _ _)
  repeat (first | refine Z0 ?_ | (refine ZR ?_; first | refine x1 ?_ | refine x2 ?_ | refine x8 ?_ | refine Z1 ?_ | refine Z2 ?_ | refine x3 fun _ => ?_ | refine x4 fun _ => ?_ | refine x5 fun _ => ?_ | refine Z3 fun _ => ?_ | refine Z4 fun _ => ?_) | refine Za ?_ | refine Zb ?_ | refine Zl ?_ | refine Zc ?_ | refine Ze ?_ | refine Zi ?_ | refine Zj ?_ | refine Zf ?_ | refine Zg ?_ | refine Zm ?_ | refine Zn ?_ | refine Zo ?_ | refine Zp ?_ | refine Zq ?_ | refine Zr ?_ | refine Zk ?_)
  refine rt_step rfl rfl rfl (st_call rfl rfl rfl rfl (r8_ct (hs.weak (by exact drop_auto)) hy hp0 hN ?_))
  have hp1 := rdN_le (k := 8) hp0
  repeat (first | refine Z0 ?_ | (refine ZR ?_; first | refine x1 ?_ | refine x2 ?_ | refine x8 ?_ | refine Z1 ?_ | refine Z2 ?_ | refine x3 fun _ => ?_ | refine x4 fun _ => ?_ | refine x5 fun _ => ?_ | refine Z3 fun _ => ?_ | refine Z4 fun _ => ?_) | refine Za ?_ | refine Zb ?_ | refine Zl ?_ | refine Zc ?_ | refine Ze ?_ | refine Zi ?_ | refine Zj ?_ | refine Zf ?_ | refine Zg ?_ | refine Zm ?_ | refine Zn ?_ | refine Zo ?_ | refine Zp ?_ | refine Zq ?_ | refine Zr ?_ | refine Zk ?_)
  refine rt_step rfl rfl rfl (st_call rfl rfl rfl rfl (ident163_ct (hs.weak (by exact drop_auto)) hp1 hN ?_))
  have hp2 := rdN_le (k := 10) hp1
  repeat (first | refine Z0 ?_ | (refine ZR ?_; first | refine x1 ?_ | refine x2 ?_ | refine x8 ?_ | refine Z1 ?_ | refine Z2 ?_ | refine x3 fun _ => ?_ | refine x4 fun _ => ?_ | refine x5 fun _ => ?_ | refine Z3 fun _ => ?_ | refine Z4 fun _ => ?_) | refine Za ?_ | refine Zb ?_ | refine Zl ?_ | refine Zc ?_ | refine Ze ?_ | refine Zi ?_ | refine Zj ?_ | refine Zf ?_ | refine Zg ?_ | refine Zm ?_ | refine Zn ?_ | refine Zo ?_ | refine Zp ?_ | refine Zq ?_ | refine Zr ?_ | refine Zk ?_)
  refine rt_step rfl rfl rfl (st_call rfl rfl rfl rfl (host178_ct (s := (rdN L (rdN L ⟨0, false⟩ 8) 10)) ({ x with a1 := ((rdV L ⟨0, false⟩ 8 : Nat) : Int), a2 := rdEi L (rdN L ⟨0, false⟩ 8) 0, a3 := rdEi L (rdN L ⟨0, false⟩ 8) 1, a4 := rdEi L (rdN L ⟨0, false⟩ 8) 2, a5 := rdEi L (rdN L ⟨0, false⟩ 8) 3, a6 := rdEi L (rdN L ⟨0, false⟩ 8) 4, a7 := rdEi L (rdN L ⟨0, false⟩ 8) 5, a8 := rdEi L (rdN L ⟨0, false⟩ 8) 6, a9 := rdEi L (rdN L ⟨0, false⟩ 8) 7, a10 := rdEi L (rdN L ⟨0, false⟩ 8) 8, a11 := rdEi L (rdN L ⟨0, false⟩ 8) 9 }) (hs.weak (by exact drop_auto)) hy hp2 hN fun _ => ?_))
  repeat (first | refine Z0 ?_ | (refine ZR ?_; first | refine x1 ?_ | refine x2 ?_ | refine x8 ?_ | refine Z1 ?_ | refine Z2 ?_ | refine x3 fun _ => ?_ | refine x4 fun _ => ?_ | refine x5 fun _ => ?_ | refine Z3 fun _ => ?_ | refine Z4 fun _ => ?_) | refine Za ?_ | refine Zb ?_ | refine Zl ?_ | refine Zc ?_ | refine Ze ?_ | refine Zi ?_ | refine Zj ?_ | refine Zf ?_ | refine Zg ?_ | refine Zm ?_ | refine Zn ?_ | refine Zo ?_ | refine Zp ?_ | refine Zq ?_ | refine Zr ?_ | refine Zk ?_)
  exact re_0 rfl (List.Sublist.refl _) hQ
theorem gHost_le {x : S60} (h : s.p ≤ L.length) : (gHost L s x).2.p ≤ L.length := by
  unfold gHost
  split
  · exact rdN_le (rdN_le h)
  · exact rdN_le h
theorem left124_ct (hp : s.p ≤ N) (hN : N ≤ 100000) (hQ : Q (.int .i64 ((N : Int) - s.p)) ((b, .row (rdRow N src s) ez el) :: H)) :
    CallT (cx B0 old) (acall (cx B0 old) ansP (n + 2)) 124 [.pointer (some ⟨b, 0, none⟩)] ((b, .row (rdRow N src s) ez el) :: H) Q := by
  refine call_in1 9 rfl Try.func124 rfl rfl ?_
  unfold rdRow at hQ ⊢
  repeat (first | refine Z0 ?_ | (refine ZR ?_; first | refine x1 ?_ | refine x2 ?_ | refine x8 ?_ | refine Z1 ?_ | refine Z2 ?_ | refine x3 fun _ => ?_ | refine x4 fun _ => ?_ | refine x5 fun _ => ?_ | refine Z3 fun _ => ?_ | refine Z4 fun _ => ?_) | refine Za ?_ | refine Zb ?_ | refine Zl ?_ | refine Zc ?_ | refine Ze ?_ | refine Zi ?_ | refine Zj ?_ | refine Zf ?_ | refine Zg ?_ | refine Zm ?_ | refine Zn ?_ | refine Zo ?_ | refine Zp ?_ | refine Zq ?_ | refine Zr ?_ | refine Zk ?_)
  refine rt_step rfl rfl rfl (st_call rfl rfl rfl rfl (left139_ct hp hN ?_))
  repeat (first | refine Z0 ?_ | (refine ZR ?_; first | refine x1 ?_ | refine x2 ?_ | refine x8 ?_ | refine Z1 ?_ | refine Z2 ?_ | refine x3 fun _ => ?_ | refine x4 fun _ => ?_ | refine x5 fun _ => ?_ | refine Z3 fun _ => ?_ | refine Z4 fun _ => ?_) | refine Za ?_ | refine Zb ?_ | refine Zl ?_ | refine Zc ?_ | refine Ze ?_ | refine Zi ?_ | refine Zj ?_ | refine Zf ?_ | refine Zg ?_ | refine Zm ?_ | refine Zn ?_ | refine Zo ?_ | refine Zp ?_ | refine Zq ?_ | refine Zr ?_ | refine Zk ?_)
  exact re_1 rfl rfl (List.Sublist.refl _) hQ
theorem fault123_ct (hQ : Q (.agg ⟨[.int .i64 (if s.f then 4 else 0), .int .i64 (if s.f then (s.p : Int) else 0)]⟩) ((b, .row (rdRow N src s) ez el) :: H)) :
    CallT (cx B0 old) (acall (cx B0 old) ansP (n + 1)) 123 [.pointer (some ⟨b, 0, none⟩)] ((b, .row (rdRow N src s) ez el) :: H) Q := by
  refine call_in1 17 rfl Try.func123 rfl rfl ?_
  unfold rdRow at hQ ⊢
  repeat (first | refine Z0 ?_ | (refine ZR ?_; first | refine x1 ?_ | refine x2 ?_ | refine x8 ?_ | refine Z1 ?_ | refine Z2 ?_ | refine x3 fun _ => ?_ | refine x4 fun _ => ?_ | refine x5 fun _ => ?_ | refine Z3 fun _ => ?_ | refine Z4 fun _ => ?_) | refine Za ?_ | refine Zb ?_ | refine Zl ?_ | refine Zc ?_ | refine Ze ?_ | refine Zi ?_ | refine Zj ?_ | refine Zf ?_ | refine Zg ?_ | refine Zm ?_ | refine Zn ?_ | refine Zo ?_ | refine Zp ?_ | refine Zq ?_ | refine Zr ?_ | refine Zk ?_)
  exact re_c1 (H' := (b, .row [.int .i64 s.p, .int .i64 N, src, .int .i64 (if s.f then 4 else 0), .int .i64 (if s.f then (s.p : Int) else 0), .bool true] ez el) :: H) rfl rfl (.own _ _ hm0) rfl (sz rfl) rfl (by exact drop_auto) hQ
theorem get174_ct (x : S60) (hs : CutV (cx B0 old) H encY 1 L src) (hy : ∀ y ∈ L, isY y) (hN : L.length ≤ 100000)
    (hQ : ∀ v, Q v ((b, .row (rdRow L.length src (gS 2 L x).2) ez el) :: (c, .row (en60 (gS 2 L x).1) ec el2) :: H)) :
    CallT (cx B0 old) (acall (cx B0 old) ansP (n + 7)) 174 [.agg ⟨[]⟩, .pointer (some ⟨b, 0, none⟩), .pointer (some ⟨c, 0, none⟩)] ((b, .row (rdRow L.length src ⟨0, false⟩) ez el) :: (c, .row (en60 x) ec el2) :: H) Q := by
  have e : gS 2 L x = (gLab2 L (gLab L (gHost L (gMac L (gTag L (gID L (gRD L ⟨0, false⟩ x)))).2 (gMac L (gTag L (gID L (gRD L ⟨0, false⟩ x)))).1))) := by unfold gS; simp
  rw [e] at hQ
  dsimp only [gMac, gTag, gID, gRD] at hQ
  have hp0 : (⟨0, false⟩ : Rs).p ≤ L.length := Nat.zero_le _
  refine call_in3 47 rfl Try.func174 rfl rfl ?_
  unfold en60 at hQ ⊢
  repeat (first | refine Z0 ?_ | (refine ZR ?_; first | refine x1 ?_ | refine x2 ?_ | refine x8 ?_ | refine Z1 ?_ | refine Z2 ?_ | refine x3 fun _ => ?_ | refine x4 fun _ => ?_ | refine x5 fun _ => ?_ | refine Z3 fun _ => ?_ | refine Z4 fun _ => ?_) | refine Za ?_ | refine Zb ?_ | refine Zl ?_ | refine Zc ?_ | refine Ze ?_ | refine Zi ?_ | refine Zj ?_ | refine Zf ?_ | refine Zg ?_ | refine Zm ?_ | refine Zn ?_ | refine Zo ?_ | refine Zp ?_ | refine Zq ?_ | refine Zr ?_ | refine Zk ?_)
  refine RunT.weak ?_ (List.sublist_cons_self _ _)
  repeat (first | refine Z0 ?_ | (refine ZR ?_; first | refine x1 ?_ | refine x2 ?_ | refine x8 ?_ | refine Z1 ?_ | refine Z2 ?_ | refine x3 fun _ => ?_ | refine x4 fun _ => ?_ | refine x5 fun _ => ?_ | refine Z3 fun _ => ?_ | refine Z4 fun _ => ?_) | refine Za ?_ | refine Zb ?_ | refine Zl ?_ | refine Zc ?_ | refine Ze ?_ | refine Zi ?_ | refine Zj ?_ | refine Zf ?_ | refine Zg ?_ | refine Zm ?_ | refine Zn ?_ | refine Zo ?_ | refine Zp ?_ | refine Zq ?_ | refine Zr ?_ | refine Zk ?_)
  refine rt_step rfl rfl rfl (st_call rfl rfl rfl rfl (r8_ct (hs.weak (by exact drop_auto)) hy hp0 hN ?_))
  have hp1 := rdN_le (k := 8) hp0
  repeat (first | refine Z0 ?_ | (refine ZR ?_; first | refine x1 ?_ | refine x2 ?_ | refine x8 ?_ | refine Z1 ?_ | refine Z2 ?_ | refine x3 fun _ => ?_ | refine x4 fun _ => ?_ | refine x5 fun _ => ?_ | refine Z3 fun _ => ?_ | refine Z4 fun _ => ?_) | refine Za ?_ | refine Zb ?_ | refine Zl ?_ | refine Zc ?_ | refine Ze ?_ | refine Zi ?_ | refine Zj ?_ | refine Zf ?_ | refine Zg ?_ | refine Zm ?_ | refine Zn ?_ | refine Zo ?_ | refine Zp ?_ | refine Zq ?_ | refine Zr ?_ | refine Zk ?_)
  refine rt_step rfl rfl rfl (st_call rfl rfl rfl rfl (ident163_ct (hs.weak (by exact drop_auto)) hp1 hN ?_))
  have hp2 := rdN_le (k := 10) hp1
  repeat (first | refine Z0 ?_ | (refine ZR ?_; first | refine x1 ?_ | refine x2 ?_ | refine x8 ?_ | refine Z1 ?_ | refine Z2 ?_ | refine x3 fun _ => ?_ | refine x4 fun _ => ?_ | refine x5 fun _ => ?_ | refine Z3 fun _ => ?_ | refine Z4 fun _ => ?_) | refine Za ?_ | refine Zb ?_ | refine Zl ?_ | refine Zc ?_ | refine Ze ?_ | refine Zi ?_ | refine Zj ?_ | refine Zf ?_ | refine Zg ?_ | refine Zm ?_ | refine Zn ?_ | refine Zo ?_ | refine Zp ?_ | refine Zq ?_ | refine Zr ?_ | refine Zk ?_)
  refine rt_step rfl rfl rfl (st_call rfl rfl rfl rfl (r4_ct (hs.weak (by exact drop_auto)) hy hp2 hN ?_))
  have hp3 := rdN_le (k := 4) hp2
  repeat (first | refine Z0 ?_ | (refine ZR ?_; first | refine x1 ?_ | refine x2 ?_ | refine x8 ?_ | refine Z1 ?_ | refine Z2 ?_ | refine x3 fun _ => ?_ | refine x4 fun _ => ?_ | refine x5 fun _ => ?_ | refine Z3 fun _ => ?_ | refine Z4 fun _ => ?_) | refine Za ?_ | refine Zb ?_ | refine Zl ?_ | refine Zc ?_ | refine Ze ?_ | refine Zi ?_ | refine Zj ?_ | refine Zf ?_ | refine Zg ?_ | refine Zm ?_ | refine Zn ?_ | refine Zo ?_ | refine Zp ?_ | refine Zq ?_ | refine Zr ?_ | refine Zk ?_)
  rw [u32_v hy _ (by decide)]
  repeat (first | refine Z0 ?_ | (refine ZR ?_; first | refine x1 ?_ | refine x2 ?_ | refine x8 ?_ | refine Z1 ?_ | refine Z2 ?_ | refine x3 fun _ => ?_ | refine x4 fun _ => ?_ | refine x5 fun _ => ?_ | refine Z3 fun _ => ?_ | refine Z4 fun _ => ?_) | refine Za ?_ | refine Zb ?_ | refine Zl ?_ | refine Zc ?_ | refine Ze ?_ | refine Zi ?_ | refine Zj ?_ | refine Zf ?_ | refine Zg ?_ | refine Zm ?_ | refine Zn ?_ | refine Zo ?_ | refine Zp ?_ | refine Zq ?_ | refine Zr ?_ | refine Zk ?_)
  refine rt_step rfl rfl rfl (st_call rfl rfl rfl rfl (r1_ct (hs.weak (by exact drop_auto)) hy hp3 hN ?_))
  have hp4 := rdN_le (k := 1) hp3
  repeat (first | refine Z0 ?_ | (refine ZR ?_; first | refine x1 ?_ | refine x2 ?_ | refine x8 ?_ | refine Z1 ?_ | refine Z2 ?_ | refine x3 fun _ => ?_ | refine x4 fun _ => ?_ | refine x5 fun _ => ?_ | refine Z3 fun _ => ?_ | refine Z4 fun _ => ?_) | refine Za ?_ | refine Zb ?_ | refine Zl ?_ | refine Zc ?_ | refine Ze ?_ | refine Zi ?_ | refine Zj ?_ | refine Zf ?_ | refine Zg ?_ | refine Zm ?_ | refine Zn ?_ | refine Zo ?_ | refine Zp ?_ | refine Zq ?_ | refine Zr ?_ | refine Zk ?_)
  refine rt_step rfl rfl rfl (st_call rfl rfl rfl rfl (r6_ct (hs.weak (by exact drop_auto)) hy hp4 hN ?_))
  have hp5 := rdN_le (k := 6) hp4
  repeat (first | refine Z0 ?_ | (refine ZR ?_; first | refine x1 ?_ | refine x2 ?_ | refine x8 ?_ | refine Z1 ?_ | refine Z2 ?_ | refine x3 fun _ => ?_ | refine x4 fun _ => ?_ | refine x5 fun _ => ?_ | refine Z3 fun _ => ?_ | refine Z4 fun _ => ?_) | refine Za ?_ | refine Zb ?_ | refine Zl ?_ | refine Zc ?_ | refine Ze ?_ | refine Zi ?_ | refine Zj ?_ | refine Zf ?_ | refine Zg ?_ | refine Zm ?_ | refine Zn ?_ | refine Zo ?_ | refine Zp ?_ | refine Zq ?_ | refine Zr ?_ | refine Zk ?_)
  refine rt_step rfl rfl rfl (st_call rfl rfl rfl rfl (host178_ct (s := (rdN L (rdN L (rdN L (rdN L (rdN L ⟨0, false⟩ 8) 10) 4) 1) 6)) ({ x with a1 := ((rdV L ⟨0, false⟩ 8 : Nat) : Int), a2 := rdEi L (rdN L ⟨0, false⟩ 8) 0, a3 := rdEi L (rdN L ⟨0, false⟩ 8) 1, a4 := rdEi L (rdN L ⟨0, false⟩ 8) 2, a5 := rdEi L (rdN L ⟨0, false⟩ 8) 3, a6 := rdEi L (rdN L ⟨0, false⟩ 8) 4, a7 := rdEi L (rdN L ⟨0, false⟩ 8) 5, a8 := rdEi L (rdN L ⟨0, false⟩ 8) 6, a9 := rdEi L (rdN L ⟨0, false⟩ 8) 7, a10 := rdEi L (rdN L ⟨0, false⟩ 8) 8, a11 := rdEi L (rdN L ⟨0, false⟩ 8) 9, a12 := ((rdV L (rdN L (rdN L ⟨0, false⟩ 8) 10) 4 : Nat) : Int), a13 := ((rdV L (rdN L (rdN L (rdN L (rdN L ⟨0, false⟩ 8) 10) 4) 1) 6 : Nat) : Int) }) (hs.weak (by exact drop_auto)) hy hp5 hN fun _ => ?_))
  have hp6 := gHost_le (x := { x with a1 := ((rdV L ⟨0, false⟩ 8 : Nat) : Int), a2 := rdEi L (rdN L ⟨0, false⟩ 8) 0, a3 := rdEi L (rdN L ⟨0, false⟩ 8) 1, a4 := rdEi L (rdN L ⟨0, false⟩ 8) 2, a5 := rdEi L (rdN L ⟨0, false⟩ 8) 3, a6 := rdEi L (rdN L ⟨0, false⟩ 8) 4, a7 := rdEi L (rdN L ⟨0, false⟩ 8) 5, a8 := rdEi L (rdN L ⟨0, false⟩ 8) 6, a9 := rdEi L (rdN L ⟨0, false⟩ 8) 7, a10 := rdEi L (rdN L ⟨0, false⟩ 8) 8, a11 := rdEi L (rdN L ⟨0, false⟩ 8) 9, a12 := ((rdV L (rdN L (rdN L ⟨0, false⟩ 8) 10) 4 : Nat) : Int), a13 := ((rdV L (rdN L (rdN L (rdN L (rdN L ⟨0, false⟩ 8) 10) 4) 1) 6 : Nat) : Int) }) hp5
  generalize gHost L _ _ = r at *
  obtain ⟨y, s6⟩ := r
  dsimp only [gLab] at hQ hp6
  unfold gLab2 at hQ
  dsimp only at hQ
  unfold en60
  repeat (first | refine Z0 ?_ | (refine ZR ?_; first | refine x1 ?_ | refine x2 ?_ | refine x8 ?_ | refine Z1 ?_ | refine Z2 ?_ | refine x3 fun _ => ?_ | refine x4 fun _ => ?_ | refine x5 fun _ => ?_ | refine Z3 fun _ => ?_ | refine Z4 fun _ => ?_) | refine Za ?_ | refine Zb ?_ | refine Zl ?_ | refine Zc ?_ | refine Ze ?_ | refine Zi ?_ | refine Zj ?_ | refine Zf ?_ | refine Zg ?_ | refine Zm ?_ | refine Zn ?_ | refine Zo ?_ | refine Zp ?_ | refine Zq ?_ | refine Zr ?_ | refine Zk ?_)
  refine rt_step rfl rfl rfl (st_call rfl rfl rfl rfl (r3_ct (hs.weak (by exact drop_auto)) hy hp6 hN ?_))
  have hp7 := rdN_le (k := 3) hp6
  repeat (first | refine Z0 ?_ | (refine ZR ?_; first | refine x1 ?_ | refine x2 ?_ | refine x8 ?_ | refine Z1 ?_ | refine Z2 ?_ | refine x3 fun _ => ?_ | refine x4 fun _ => ?_ | refine x5 fun _ => ?_ | refine Z3 fun _ => ?_ | refine Z4 fun _ => ?_) | refine Za ?_ | refine Zb ?_ | refine Zl ?_ | refine Zc ?_ | refine Ze ?_ | refine Zi ?_ | refine Zj ?_ | refine Zf ?_ | refine Zg ?_ | refine Zm ?_ | refine Zn ?_ | refine Zo ?_ | refine Zp ?_ | refine Zq ?_ | refine Zr ?_ | refine Zk ?_)
  rw [u32_v hy _ (by decide)]
  repeat (first | refine Z0 ?_ | (refine ZR ?_; first | refine x1 ?_ | refine x2 ?_ | refine x8 ?_ | refine Z1 ?_ | refine Z2 ?_ | refine x3 fun _ => ?_ | refine x4 fun _ => ?_ | refine x5 fun _ => ?_ | refine Z3 fun _ => ?_ | refine Z4 fun _ => ?_) | refine Za ?_ | refine Zb ?_ | refine Zl ?_ | refine Zc ?_ | refine Ze ?_ | refine Zi ?_ | refine Zj ?_ | refine Zf ?_ | refine Zg ?_ | refine Zm ?_ | refine Zn ?_ | refine Zo ?_ | refine Zp ?_ | refine Zq ?_ | refine Zr ?_ | refine Zk ?_)
  refine rt_step rfl rfl rfl (st_call rfl rfl rfl rfl (left124_ct hp7 hN ?_))
  repeat (first | refine Z0 ?_ | (refine ZR ?_; first | refine x1 ?_ | refine x2 ?_ | refine x8 ?_ | refine Z1 ?_ | refine Z2 ?_ | refine x3 fun _ => ?_ | refine x4 fun _ => ?_ | refine x5 fun _ => ?_ | refine Z3 fun _ => ?_ | refine Z4 fun _ => ?_) | refine Za ?_ | refine Zb ?_ | refine Zl ?_ | refine Zc ?_ | refine Ze ?_ | refine Zi ?_ | refine Zj ?_ | refine Zf ?_ | refine Zg ?_ | refine Zm ?_ | refine Zn ?_ | refine Zo ?_ | refine Zp ?_ | refine Zq ?_ | refine Zr ?_ | refine Zk ?_)
  refine ct_condT te_d rfl (fun hc => ?_) (fun hc => ?_)
  · have hc' : (L.length : Int) - ((rdN L s6 3).p : Int) > 0 := hc
    rw [if_pos (show (rdN L s6 3).p < L.length by omega)] at hQ
    repeat (first | refine Z0 ?_ | (refine ZR ?_; first | refine x1 ?_ | refine x2 ?_ | refine x8 ?_ | refine Z1 ?_ | refine Z2 ?_ | refine x3 fun _ => ?_ | refine x4 fun _ => ?_ | refine x5 fun _ => ?_ | refine Z3 fun _ => ?_ | refine Z4 fun _ => ?_) | refine Za ?_ | refine Zb ?_ | refine Zl ?_ | refine Zc ?_ | refine Ze ?_ | refine Zi ?_ | refine Zj ?_ | refine Zf ?_ | refine Zg ?_ | refine Zm ?_ | refine Zn ?_ | refine Zo ?_ | refine Zp ?_ | refine Zq ?_ | refine Zr ?_ | refine Zk ?_)
    refine rt_step rfl rfl rfl (st_call rfl rfl rfl rfl (r3_ct (hs.weak (by exact drop_auto)) hy hp7 hN ?_))
    have hp8 := rdN_le (k := 3) hp7
    repeat (first | refine Z0 ?_ | (refine ZR ?_; first | refine x1 ?_ | refine x2 ?_ | refine x8 ?_ | refine Z1 ?_ | refine Z2 ?_ | refine x3 fun _ => ?_ | refine x4 fun _ => ?_ | refine x5 fun _ => ?_ | refine Z3 fun _ => ?_ | refine Z4 fun _ => ?_) | refine Za ?_ | refine Zb ?_ | refine Zl ?_ | refine Zc ?_ | refine Ze ?_ | refine Zi ?_ | refine Zj ?_ | refine Zf ?_ | refine Zg ?_ | refine Zm ?_ | refine Zn ?_ | refine Zo ?_ | refine Zp ?_ | refine Zq ?_ | refine Zr ?_ | refine Zk ?_)
    rw [u32_v hy _ (by decide)]
    repeat (first | refine Z0 ?_ | (refine ZR ?_; first | refine x1 ?_ | refine x2 ?_ | refine x8 ?_ | refine Z1 ?_ | refine Z2 ?_ | refine x3 fun _ => ?_ | refine x4 fun _ => ?_ | refine x5 fun _ => ?_ | refine Z3 fun _ => ?_ | refine Z4 fun _ => ?_) | refine Za ?_ | refine Zb ?_ | refine Zl ?_ | refine Zc ?_ | refine Ze ?_ | refine Zi ?_ | refine Zj ?_ | refine Zf ?_ | refine Zg ?_ | refine Zm ?_ | refine Zn ?_ | refine Zo ?_ | refine Zp ?_ | refine Zq ?_ | refine Zr ?_ | refine Zk ?_)
    exact re_0 rfl (List.Sublist.refl _) hQ
  · have hc' : ¬ (L.length : Int) - ((rdN L s6 3).p : Int) > 0 := hc
    rw [if_neg (show ¬ (rdN L s6 3).p < L.length by omega)] at hQ
    repeat (first | refine Z0 ?_ | (refine ZR ?_; first | refine x1 ?_ | refine x2 ?_ | refine x8 ?_ | refine Z1 ?_ | refine Z2 ?_ | refine x3 fun _ => ?_ | refine x4 fun _ => ?_ | refine x5 fun _ => ?_ | refine Z3 fun _ => ?_ | refine Z4 fun _ => ?_) | refine Za ?_ | refine Zb ?_ | refine Zl ?_ | refine Zc ?_ | refine Ze ?_ | refine Zi ?_ | refine Zj ?_ | refine Zf ?_ | refine Zg ?_ | refine Zm ?_ | refine Zn ?_ | refine Zo ?_ | refine Zp ?_ | refine Zq ?_ | refine Zr ?_ | refine Zk ?_)
    exact re_0 rfl (List.Sublist.refl _) hQ
end
end Go.Proofs.Ytjdppdoakbojcaa.Abs

/- The plain law of routes: what is encoded is read. -/
namespace Go.Proofs.Ytjdppdoakbojcaa.Abs
open Go
set_option linter.unusedVariables false
/-- Without a fault, and this is what is left. -/
structure At (L : List Int) (s : Rs) (R : List Int) : Prop where
  f : s.f = false
  le : s.p ≤ L.length
  dr : L.drop s.p = R
theorem At.rd {L A R : List Int} {s : Rs} (h : At L s (A ++ R)) : rdV L s A.length = num A ∧ At L (rdN L s A.length) R ∧ (A.length = 10 → rdE L s = A) := by
  obtain ⟨h1, h2, h3⟩ := h
  have hl : (L.drop s.p).length = L.length - s.p := List.length_drop
  rw [h3, List.length_append] at hl
  have hok : rdOk L s A.length = true := by unfold rdOk; rw [h1]; simp; omega
  have hs : sub L s.p A.length = A := by unfold sub; rw [h3]; exact List.take_left' rfl
  unfold rdV rdN rdE
  rw [hok, if_pos rfl, if_pos rfl, hs]
  refine ⟨rfl, ⟨rfl, by dsimp only; omega, ?_⟩, fun e => ?_⟩
  · dsimp only
    rw [← List.drop_drop, h3]
    exact List.drop_left' rfl
  · rw [← e, hok, if_pos rfl, hs]
theorem At.be {L R : List Int} {s : Rs} {v k : Nat} (h : At L s (be v k ++ R)) (hv : v < 256 ^ k) : rdV L s k = v ∧ At L (rdN L s k) R := by
  have := h.rd
  rw [be_len, num_be, Nat.mod_eq_of_lt hv] at this
  exact ⟨this.1, this.2.1⟩
theorem At.int {L R : List Int} {s : Rs} {v : Int} {k : Nat} (h : At L s (Abs.be v.toNat k ++ R)) (h0 : 0 ≤ v) (hv : v < 256 ^ k) : ((rdV L s k : Nat) : Int) = v ∧ At L (rdN L s k) R := by
  have := h.rd
  rw [be_len] at this
  exact ⟨by rw [this.1]; exact num_bei h0 hv, this.2.1⟩
theorem At.ten {L R : List Int} {s : Rs} {x : S60} (h : At L s (esL x ++ R)) : rdE L s = esL x ∧ At L (rdN L s 10) R := ⟨h.rd.2.2 rfl, h.rd.2.1⟩
theorem At.fin {L : List Int} {s : Rs} (h : At L s []) : s = ⟨L.length, false⟩ := by
  obtain ⟨h1, h2, h3⟩ := h
  have := List.drop_eq_nil_iff.1 h3
  obtain ⟨p, f⟩ := s
  dsimp only at h1 h2 this
  subst h1
  congr 1
  omega
theorem At.start (L : List Int) : At L ⟨0, false⟩ L := ⟨rfl, Nat.zero_le _, rfl⟩
theorem At.host {L R : List Int} {s : Rs} {x y : S60} (h : At L s ((if x.a15 then Abs.be 32 1 ++ Abs.be x.a14.toNat 4 else Abs.be 0 1) ++ R)) (hx : 0 ≤ x.a14 ∧ x.a14 ≤ 4294967295) :
    (gHost L s y).1 = (if x.a15 then { y with a15 := true, a14 := x.a14 } else y) ∧ At L (gHost L s y).2 R := by
  unfold gHost
  cases hb : x.a15 with
  | true =>
    rw [hb, if_pos rfl, List.append_assoc] at h
    obtain ⟨e, h2⟩ := h.be (by decide)
    obtain ⟨e2, h3⟩ := h2.int hx.1 (by omega)
    rw [if_pos e, if_pos rfl, e2]
    exact ⟨rfl, h3⟩
  | false =>
    rw [hb, if_neg (by decide)] at h
    obtain ⟨e, h2⟩ := h.be (by decide)
    rw [if_neg (by rw [e]; decide), if_neg (by decide)]
    exact ⟨rfl, h2⟩
theorem S60_ext {x y : S60} (h0 : x.a0 = y.a0) (h1 : x.a1 = y.a1) (h2 : x.a2 = y.a2) (h3 : x.a3 = y.a3) (h4 : x.a4 = y.a4) (h5 : x.a5 = y.a5) (h6 : x.a6 = y.a6) (h7 : x.a7 = y.a7) (h8 : x.a8 = y.a8) (h9 : x.a9 = y.a9) (h10 : x.a10 = y.a10) (h11 : x.a11 = y.a11) (h12 : x.a12 = y.a12) (h13 : x.a13 = y.a13) (h14 : x.a14 = y.a14) (h15 : x.a15 = y.a15) (h16 : x.a16 = y.a16) (h17 : x.a17 = y.a17) (h18 : x.a18 = y.a18) (h19 : x.a19 = y.a19) (h20 : x.a20 = y.a20) : x = y := by
  cases x; cases y; simp only [S60.mk.injEq]; exact ⟨h0, h1, h2, h3, h4, h5, h6, h7, h8, h9, h10, h11, h12, h13, h14, h15, h16, h17, h18, h19, h20⟩
theorem only_1 {x : S60} (h : x.a0 = 1) (hx : onlyS x = x) : 0 = x.a13 ∧ 0 = x.a14 ∧ false = x.a15 ∧ 0 = x.a16 ∧ 0 = x.a17 ∧ 0 = x.a18 ∧ 0 = x.a20 := by
  have e : onlyS x = _ := if_pos h
  rw [e] at hx
  exact ⟨congrArg S60.a13 hx, congrArg S60.a14 hx, congrArg S60.a15 hx, congrArg S60.a16 hx, congrArg S60.a17 hx, congrArg S60.a18 hx, congrArg S60.a20 hx⟩
theorem only_2 {x : S60} (h : x.a0 = 2) (hx : onlyS x = x) : (if x.a15 then x.a14 else 0) = x.a14 ∧ 0 = x.a16 ∧ 0 = x.a17 ∧ 0 = x.a18 := by
  have e : onlyS x = _ := (if_neg (by omega)).trans (if_pos h)
  rw [e] at hx
  exact ⟨congrArg S60.a14 hx, congrArg S60.a16 hx, congrArg S60.a17 hx, congrArg S60.a18 hx⟩
theorem only_3 {x : S60} (h : x.a0 = 3) (hx : onlyS x = x) : 0 = x.a2 ∧ 0 = x.a3 ∧ 0 = x.a4 ∧ 0 = x.a5 ∧ 0 = x.a6 ∧ 0 = x.a7 ∧ 0 = x.a8 ∧ 0 = x.a9 ∧ 0 = x.a10 ∧ 0 = x.a11 ∧ 0 = x.a13 ∧ true = x.a15 ∧ 0 = x.a16 ∧ 0 = x.a17 ∧ 0 = x.a18 ∧ 0 = x.a19 ∧ 0 = x.a20 := by
  have e : onlyS x = _ := (if_neg (by omega)).trans ((if_neg (by omega)).trans (if_pos h))
  rw [e] at hx
  exact ⟨congrArg S60.a2 hx, congrArg S60.a3 hx, congrArg S60.a4 hx, congrArg S60.a5 hx, congrArg S60.a6 hx, congrArg S60.a7 hx, congrArg S60.a8 hx, congrArg S60.a9 hx, congrArg S60.a10 hx, congrArg S60.a11 hx, congrArg S60.a13 hx, congrArg S60.a15 hx, congrArg S60.a16 hx, congrArg S60.a17 hx, congrArg S60.a18 hx, congrArg S60.a19 hx, congrArg S60.a20 hx⟩
theorem only_4 {x : S60} (h : x.a0 = 4) (hx : onlyS x = x) : 0 = x.a12 ∧ 0 = x.a13 ∧ true = x.a15 ∧ 0 = x.a16 ∧ 0 = x.a17 ∧ 0 = x.a18 ∧ 0 = x.a19 ∧ 0 = x.a20 := by
  have e : onlyS x = _ := (if_neg (by omega)).trans ((if_neg (by omega)).trans ((if_neg (by omega)).trans (if_pos h)))
  rw [e] at hx
  exact ⟨congrArg S60.a12 hx, congrArg S60.a13 hx, congrArg S60.a15 hx, congrArg S60.a16 hx, congrArg S60.a17 hx, congrArg S60.a18 hx, congrArg S60.a19 hx, congrArg S60.a20 hx⟩
theorem only_5 {x : S60} (h : x.a0 = 5) (hx : onlyS x = x) : 0 = x.a13 ∧ 0 = x.a14 ∧ false = x.a15 ∧ 0 = x.a20 := by
  have e : onlyS x = _ := (if_neg (by omega)).trans ((if_neg (by omega)).trans ((if_neg (by omega)).trans (if_neg (by omega))))
  rw [e] at hx
  exact ⟨congrArg S60.a13 hx, congrArg S60.a14 hx, congrArg S60.a15 hx, congrArg S60.a20 hx⟩
theorem gS_V {x : S60} (hw : x.wf) (ok : NlOk x) : gS x.a0.toNat (nlV x) { zS with a0 := x.a0 } = (x, ⟨(nlV x).length, false⟩) := by
  have hk := ok.kind
  have hr := ok.rng
  have hx : onlyS x = x := leaf60_eq ok.form
  have hs := At.start (nlV x)
  have hw' := hw
  unfold S60.wf at hw'
  rcases (by omega : x.a0 = 1 ∨ x.a0 = 2 ∨ x.a0 = 3 ∨ x.a0 = 4 ∨ x.a0 = 5) with h | h | h | h | h
  · have hgs : gS x.a0.toNat (nlV x) { zS with a0 := x.a0 } = gLab (nlV x) (gTag (nlV x) (gID (nlV x) (gRD (nlV x) ⟨0, false⟩ { zS with a0 := x.a0 }))) := by rw [h]; rfl
    rw [hgs]
    have hf := only_1 h hx
    have hV : nlV x = be x.a1.toNat 8 ++ (esL x ++ (be x.a12.toNat 4 ++ (be x.a19.toNat 3 ++ []))) := by rw [nlV1 h]; simp only [List.append_nil]
    generalize nlV x = V at *
    have h0 : At V ⟨0, false⟩ (be x.a1.toNat 8 ++ (esL x ++ (be x.a12.toNat 4 ++ (be x.a19.toNat 3 ++ [])))) := by rw [← hV]; exact hs
    obtain ⟨e1, h1⟩ := h0.int (by omega) (by omega)
    obtain ⟨e2, h2⟩ := h1.ten
    obtain ⟨e3, h3⟩ := h2.int (by omega) (by omega)
    obtain ⟨e4, h4⟩ := h3.int (by omega) (by omega)
    have e5 := h4.fin
    unfold gLab gTag gID gRD
    dsimp only
    rw [e1, e3, e4, e5]
    refine Prod.ext ?_ rfl
    unfold rdEi
    dsimp only
    rw [e2]
    exact S60_ext rfl rfl rfl rfl rfl rfl rfl rfl rfl rfl rfl rfl rfl hf.1 hf.2.1 hf.2.2.1 hf.2.2.2.1 hf.2.2.2.2.1 hf.2.2.2.2.2.1 rfl hf.2.2.2.2.2.2
  · have hgs : gS x.a0.toNat (nlV x) { zS with a0 := x.a0 } = gLab2 (nlV x) (gLab (nlV x) (gHost (nlV x) (gMac (nlV x) (gTag (nlV x) (gID (nlV x) (gRD (nlV x) ⟨0, false⟩ { zS with a0 := x.a0 })))).2 (gMac (nlV x) (gTag (nlV x) (gID (nlV x) (gRD (nlV x) ⟨0, false⟩ { zS with a0 := x.a0 })))).1)) := by rw [h]; rfl
    rw [hgs]
    have hf := only_2 h hx
    have hV : nlV x = be x.a1.toNat 8 ++ (esL x ++ (be x.a12.toNat 4 ++ (be 48 1 ++ (be x.a13.toNat 6 ++ ((if x.a15 then be 32 1 ++ be x.a14.toNat 4 else be 0 1) ++ (be x.a19.toNat 3 ++ ((if x.a20 ≠ 0 then be x.a20.toNat 3 else []) ++ []))))))) := by rw [nlV2 h]; simp only [List.append_nil]
    generalize nlV x = V at *
    have h0 : At V ⟨0, false⟩ (be x.a1.toNat 8 ++ (esL x ++ (be x.a12.toNat 4 ++ (be 48 1 ++ (be x.a13.toNat 6 ++ ((if x.a15 then be 32 1 ++ be x.a14.toNat 4 else be 0 1) ++ (be x.a19.toNat 3 ++ ((if x.a20 ≠ 0 then be x.a20.toNat 3 else []) ++ [])))))))) := by rw [← hV]; exact hs
    obtain ⟨e1, h1⟩ := h0.int (by omega) (by omega)
    obtain ⟨e2, h2⟩ := h1.ten
    obtain ⟨e3, h3⟩ := h2.int (by omega) (by omega)
    have h4 := (h3.be (by decide)).2
    obtain ⟨e5, h5⟩ := h4.int (by omega) (by omega)
    unfold gMac gTag gID gRD
    dsimp only
    have hH := fun y => h5.host (x := x) (y := y) (by omega)
    generalize hy0 : ({ a0 := _, a1 := _, a2 := _, a3 := _, a4 := _, a5 := _, a6 := _, a7 := _, a8 := _, a9 := _, a10 := _, a11 := _, a12 := _, a13 := _, a14 := _, a15 := _, a16 := _, a17 := _, a18 := _, a19 := _, a20 := _ } : S60) = y0
    have hH := hH y0
    generalize gHost V _ y0 = r at *
    obtain ⟨y1, s6⟩ := r
    obtain ⟨eH, h6⟩ := hH
    dsimp only at eH h6
    unfold gLab2 gLab
    dsimp only
    obtain ⟨e7, h7⟩ := h6.int (by omega) (by omega)
    have hl7 : (V.drop (rdN V s6 3).p).length = V.length - (rdN V s6 3).p := List.length_drop
    rw [h7.dr] at hl7
    by_cases hd : x.a20 = 0
    · rw [if_neg (fun g => g hd)] at h7 hl7
      have hp := h7.fin
      rw [if_neg (by rw [hp]; exact Nat.lt_irrefl _), hp]
      refine Prod.ext ?_ rfl
      dsimp only
      cases hb : x.a15 with
      | true =>
        rw [hb] at eH
        rw [if_pos rfl] at eH
        rw [eH, ← hy0]
        exact S60_ext rfl e1 (congrArg (fun l : List Int => l.getD 0 0) e2) (congrArg (fun l : List Int => l.getD 1 0) e2) (congrArg (fun l : List Int => l.getD 2 0) e2) (congrArg (fun l : List Int => l.getD 3 0) e2) (congrArg (fun l : List Int => l.getD 4 0) e2) (congrArg (fun l : List Int => l.getD 5 0) e2) (congrArg (fun l : List Int => l.getD 6 0) e2) (congrArg (fun l : List Int => l.getD 7 0) e2) (congrArg (fun l : List Int => l.getD 8 0) e2) (congrArg (fun l : List Int => l.getD 9 0) e2) e3 e5 rfl hb.symm hf.2.1 hf.2.2.1 hf.2.2.2 e7 hd.symm
      | false =>
        rw [hb] at eH
        rw [if_neg (by decide)] at eH
        have h14 : x.a14 = 0 := by have := hf.1; rw [hb] at this; exact this.symm
        rw [eH, ← hy0]
        exact S60_ext rfl e1 (congrArg (fun l : List Int => l.getD 0 0) e2) (congrArg (fun l : List Int => l.getD 1 0) e2) (congrArg (fun l : List Int => l.getD 2 0) e2) (congrArg (fun l : List Int => l.getD 3 0) e2) (congrArg (fun l : List Int => l.getD 4 0) e2) (congrArg (fun l : List Int => l.getD 5 0) e2) (congrArg (fun l : List Int => l.getD 6 0) e2) (congrArg (fun l : List Int => l.getD 7 0) e2) (congrArg (fun l : List Int => l.getD 8 0) e2) (congrArg (fun l : List Int => l.getD 9 0) e2) e3 e5 h14.symm hb.symm hf.2.1 hf.2.2.1 hf.2.2.2 e7 hd.symm
    · rw [if_pos hd] at h7 hl7
      obtain ⟨e8, h8⟩ := h7.int (by omega) (by omega)
      rw [List.append_nil, be_len] at hl7
      rw [if_pos (by omega), h8.fin]
      refine Prod.ext ?_ rfl
      dsimp only
      cases hb : x.a15 with
      | true =>
        rw [hb] at eH
        rw [if_pos rfl] at eH
        rw [eH, ← hy0]
        exact S60_ext rfl e1 (congrArg (fun l : List Int => l.getD 0 0) e2) (congrArg (fun l : List Int => l.getD 1 0) e2) (congrArg (fun l : List Int => l.getD 2 0) e2) (congrArg (fun l : List Int => l.getD 3 0) e2) (congrArg (fun l : List Int => l.getD 4 0) e2) (congrArg (fun l : List Int => l.getD 5 0) e2) (congrArg (fun l : List Int => l.getD 6 0) e2) (congrArg (fun l : List Int => l.getD 7 0) e2) (congrArg (fun l : List Int => l.getD 8 0) e2) (congrArg (fun l : List Int => l.getD 9 0) e2) e3 e5 rfl hb.symm hf.2.1 hf.2.2.1 hf.2.2.2 e7 e8
      | false =>
        rw [hb] at eH
        rw [if_neg (by decide)] at eH
        have h14 : x.a14 = 0 := by have := hf.1; rw [hb] at this; exact this.symm
        rw [eH, ← hy0]
        exact S60_ext rfl e1 (congrArg (fun l : List Int => l.getD 0 0) e2) (congrArg (fun l : List Int => l.getD 1 0) e2) (congrArg (fun l : List Int => l.getD 2 0) e2) (congrArg (fun l : List Int => l.getD 3 0) e2) (congrArg (fun l : List Int => l.getD 4 0) e2) (congrArg (fun l : List Int => l.getD 5 0) e2) (congrArg (fun l : List Int => l.getD 6 0) e2) (congrArg (fun l : List Int => l.getD 7 0) e2) (congrArg (fun l : List Int => l.getD 8 0) e2) (congrArg (fun l : List Int => l.getD 9 0) e2) e3 e5 h14.symm hb.symm hf.2.1 hf.2.2.1 hf.2.2.2 e7 e8
  · have hgs : gS x.a0.toNat (nlV x) { zS with a0 := x.a0 } = gHost (nlV x) (gTag (nlV x) (gRD (nlV x) ⟨0, false⟩ { zS with a0 := x.a0 })).2 (gTag (nlV x) (gRD (nlV x) ⟨0, false⟩ { zS with a0 := x.a0 })).1 := by rw [h]; rfl
    rw [hgs]
    have hf := only_3 h hx
    have hV : nlV x = be x.a1.toNat 8 ++ (be x.a12.toNat 4 ++ ((if x.a15 then be 32 1 ++ be x.a14.toNat 4 else be 0 1) ++ [])) := by rw [nlV3 h, if_pos hf.2.2.2.2.2.2.2.2.2.2.2.1.symm]; simp only [List.append_nil]
    generalize nlV x = V at *
    have h0 : At V ⟨0, false⟩ (be x.a1.toNat 8 ++ (be x.a12.toNat 4 ++ ((if x.a15 then be 32 1 ++ be x.a14.toNat 4 else be 0 1) ++ []))) := by rw [← hV]; exact hs
    obtain ⟨e1, h1⟩ := h0.int (by omega) (by omega)
    obtain ⟨e2, h2⟩ := h1.int (by omega) (by omega)
    unfold gTag gRD
    dsimp only
    obtain ⟨eH, hH⟩ := h2.host (x := x) (by omega)
    refine Prod.ext ?_ hH.fin
    rw [(h2.host (x := x) (by omega)).1, if_pos hf.2.2.2.2.2.2.2.2.2.2.2.1.symm]
    exact S60_ext rfl e1 hf.1 hf.2.1 hf.2.2.1 hf.2.2.2.1 hf.2.2.2.2.1 hf.2.2.2.2.2.1 hf.2.2.2.2.2.2.1 hf.2.2.2.2.2.2.2.1 hf.2.2.2.2.2.2.2.2.1 hf.2.2.2.2.2.2.2.2.2.1 e2 hf.2.2.2.2.2.2.2.2.2.2.1 rfl hf.2.2.2.2.2.2.2.2.2.2.2.1 hf.2.2.2.2.2.2.2.2.2.2.2.2.1 hf.2.2.2.2.2.2.2.2.2.2.2.2.2.1 hf.2.2.2.2.2.2.2.2.2.2.2.2.2.2.1 hf.2.2.2.2.2.2.2.2.2.2.2.2.2.2.2.1 hf.2.2.2.2.2.2.2.2.2.2.2.2.2.2.2.2
  · have hgs : gS x.a0.toNat (nlV x) { zS with a0 := x.a0 } = gHost (nlV x) (gID (nlV x) (gRD (nlV x) ⟨0, false⟩ { zS with a0 := x.a0 })).2 (gID (nlV x) (gRD (nlV x) ⟨0, false⟩ { zS with a0 := x.a0 })).1 := by rw [h]; rfl
    rw [hgs]
    have hf := only_4 h hx
    have hV : nlV x = be x.a1.toNat 8 ++ (esL x ++ ((if x.a15 then be 32 1 ++ be x.a14.toNat 4 else be 0 1) ++ [])) := by rw [nlV4 h, if_pos hf.2.2.1.symm]; simp only [List.append_nil]
    generalize nlV x = V at *
    have h0 : At V ⟨0, false⟩ (be x.a1.toNat 8 ++ (esL x ++ ((if x.a15 then be 32 1 ++ be x.a14.toNat 4 else be 0 1) ++ []))) := by rw [← hV]; exact hs
    obtain ⟨e1, h1⟩ := h0.int (by omega) (by omega)
    obtain ⟨e2, h2⟩ := h1.ten
    unfold gID gRD
    dsimp only
    obtain ⟨eH, hH⟩ := h2.host (x := x) (by omega)
    refine Prod.ext ?_ hH.fin
    rw [(h2.host (x := x) (by omega)).1, if_pos hf.2.2.1.symm]
    exact S60_ext rfl e1 (congrArg (fun l : List Int => l.getD 0 0) e2) (congrArg (fun l : List Int => l.getD 1 0) e2) (congrArg (fun l : List Int => l.getD 2 0) e2) (congrArg (fun l : List Int => l.getD 3 0) e2) (congrArg (fun l : List Int => l.getD 4 0) e2) (congrArg (fun l : List Int => l.getD 5 0) e2) (congrArg (fun l : List Int => l.getD 6 0) e2) (congrArg (fun l : List Int => l.getD 7 0) e2) (congrArg (fun l : List Int => l.getD 8 0) e2) (congrArg (fun l : List Int => l.getD 9 0) e2) hf.1 hf.2.1 rfl hf.2.2.1 hf.2.2.2.1 hf.2.2.2.2.1 hf.2.2.2.2.2.1 hf.2.2.2.2.2.2.1 hf.2.2.2.2.2.2.2
  · have hgs : gS x.a0.toNat (nlV x) { zS with a0 := x.a0 } = gLab (nlV x) (gPfx (nlV x) (gTag (nlV x) (gID (nlV x) (gRD (nlV x) ⟨0, false⟩ { zS with a0 := x.a0 })))) := by rw [h]; rfl
    rw [hgs]
    have hf := only_5 h hx
    have hV : nlV x = be x.a1.toNat 8 ++ (esL x ++ (be x.a12.toNat 4 ++ (be x.a17.toNat 1 ++ (be x.a16.toNat 4 ++ (be x.a18.toNat 4 ++ (be x.a19.toNat 3 ++ [])))))) := by rw [nlV5 h]; simp only [List.append_nil]
    generalize nlV x = V at *
    have h0 : At V ⟨0, false⟩ (be x.a1.toNat 8 ++ (esL x ++ (be x.a12.toNat 4 ++ (be x.a17.toNat 1 ++ (be x.a16.toNat 4 ++ (be x.a18.toNat 4 ++ (be x.a19.toNat 3 ++ []))))))) := by rw [← hV]; exact hs
    obtain ⟨e1, h1⟩ := h0.int (by omega) (by omega)
    obtain ⟨e2, h2⟩ := h1.ten
    obtain ⟨e3, h3⟩ := h2.int (by omega) (by omega)
    obtain ⟨e4, h4⟩ := h3.int (by omega) (by omega)
    obtain ⟨e5, h5⟩ := h4.int (by omega) (by omega)
    obtain ⟨e6, h6⟩ := h5.int (by omega) (by omega)
    obtain ⟨e7, h7⟩ := h6.int (by omega) (by omega)
    have e8 := h7.fin
    unfold gLab gPfx gTag gID gRD
    dsimp only
    rw [e1, e3, e4, e5, e6, e7, e8]
    refine Prod.ext ?_ rfl
    unfold rdEi
    dsimp only
    rw [e2]
    exact S60_ext rfl rfl rfl rfl rfl rfl rfl rfl rfl rfl rfl rfl rfl hf.1 hf.2.1 hf.2.2.1 rfl rfl rfl rfl hf.2.2.2
end Go.Proofs.Ytjdppdoakbojcaa.Abs

/- The contract of decode: a piece is decoded by the program. -/
namespace Go.Proofs.Ytjdppdoakbojcaa.Abs
open Go
set_option linter.unusedVariables false
theorem rdEi_Y {L : List Int} (hy : ∀ y ∈ L, isY y) (s : Rs) (i : Nat) : 0 ≤ rdEi L s i ∧ rdEi L s i ≤ 255 := by
  have hE : ∀ y ∈ rdE L s, isY y := by
    unfold rdE
    split
    · exact sub_Y hy _ _
    · intro y h
      unfold isY
      simp only [List.mem_cons, List.not_mem_nil, or_false, or_self] at h
      omega
  unfold rdEi
  rw [List.getD_eq_getElem?_getD]
  cases h : (rdE L s)[i]? with
  | none => decide
  | some y =>
    have := hE y (List.mem_of_getElem? h)
    unfold isY at this
    show 0 ≤ y ∧ y ≤ 255
    omega
section
variable {L : List Int} {s : Rs} {x : S60} {r : S60 × Rs}
theorem gRD_wf (hy : ∀ y ∈ L, isY y) (h : x.wf) : (gRD L s x).1.wf := by
  have := rdV_lt hy s 8
  unfold gRD; unfold S60.wf at h ⊢; dsimp only; omega
theorem gID_wf (hy : ∀ y ∈ L, isY y) (h : r.1.wf) : (gID L r).1.wf := by
  have h0 := rdEi_Y hy r.2 0
  have h1 := rdEi_Y hy r.2 1
  have h2 := rdEi_Y hy r.2 2
  have h3 := rdEi_Y hy r.2 3
  have h4 := rdEi_Y hy r.2 4
  have h5 := rdEi_Y hy r.2 5
  have h6 := rdEi_Y hy r.2 6
  have h7 := rdEi_Y hy r.2 7
  have h8 := rdEi_Y hy r.2 8
  have h9 := rdEi_Y hy r.2 9
  unfold gID; unfold S60.wf at h ⊢; dsimp only; omega
theorem gTag_wf (hy : ∀ y ∈ L, isY y) (h : r.1.wf) : (gTag L r).1.wf := by
  have := rdV_lt hy r.2 4
  unfold gTag; unfold S60.wf at h ⊢; dsimp only; omega
theorem gLab_wf (hy : ∀ y ∈ L, isY y) (h : r.1.wf) : (gLab L r).1.wf := by
  have := rdV_lt hy r.2 3
  unfold gLab; unfold S60.wf at h ⊢; dsimp only; omega
theorem gMac_wf (hy : ∀ y ∈ L, isY y) (h : r.1.wf) : (gMac L r).1.wf := by
  have := rdV_lt hy (rdN L r.2 1) 6
  unfold gMac; unfold S60.wf at h ⊢; dsimp only; omega
theorem gHost_wf (hy : ∀ y ∈ L, isY y) (h : x.wf) : (gHost L s x).1.wf := by
  have := rdV_lt hy (rdN L s 1) 4
  unfold gHost
  split
  · unfold S60.wf at h ⊢; dsimp only; omega
  · exact h
theorem gLab2_wf (hy : ∀ y ∈ L, isY y) (h : r.1.wf) : (gLab2 L r).1.wf := by
  have := rdV_lt hy r.2 3
  unfold gLab2
  split
  · unfold S60.wf at h ⊢; dsimp only; omega
  · exact h
theorem gPfx_wf (hy : ∀ y ∈ L, isY y) (h : r.1.wf) : (gPfx L r).1.wf := by
  have h1 := rdV_lt hy r.2 1
  have h2 := rdV_lt hy (rdN L r.2 1) 4
  have h3 := rdV_lt hy (rdN L (rdN L r.2 1) 4) 4
  unfold gPfx; unfold S60.wf at h ⊢; dsimp only; omega
theorem gS_wf {k : Nat} (hy : ∀ y ∈ L, isY y) (h : x.wf) : (gS k L x).1.wf := by
  unfold gS
  split
  · exact gLab_wf hy (gTag_wf hy (gID_wf hy (gRD_wf hy h)))
  split
  · exact gLab2_wf hy (gLab_wf hy (gHost_wf hy (gMac_wf hy (gTag_wf hy (gID_wf hy (gRD_wf hy h))))))
  split
  · exact gHost_wf hy (gTag_wf hy (gRD_wf hy h))
  split
  · exact gHost_wf hy (gID_wf hy (gRD_wf hy h))
  · exact gLab_wf hy (gPfx_wf hy (gTag_wf hy (gID_wf hy (gRD_wf hy h))))
end
def kS (k : Int) : S60 := { zS with a0 := k }
theorem kS_wf {k : Int} (h : 0 ≤ k ∧ k ≤ 255) : (kS k).wf := by unfold kS zS S60.wf; dsimp only; omega
/-- What a piece's value gives. -/
def dcV (b : List Int) : S60 × Rs := gS (b.getD 0 0).toNat (b.drop 2) (kS (b.getD 0 0))
def dcBad (b : List Int) : Prop := (dcV b).2.f = true ∨ (dcV b).2.p < (b.drop 2).length ∨ nlCk (dcV b).1 ≠ 0 ∨ nlB (dcV b).1 ≠ b
open Classical in
/-- What a piece is decoded to. -/
noncomputable def dcR (b : List Int) : S60 × Int :=
  if b.length < 2 ∨ (b.length : Int) < 2 + b.getD 1 0 then (zS, 4)
  else if b.getD 0 0 < 1 ∨ b.getD 0 0 > 5 then (zS, 6)
  else if dcBad b then (zS, 3) else ((dcV b).1, 0)
theorem dc_ok {b : List Int} (hy : ∀ y ∈ b, isY y) (h : (dcR b).2 = 0) : (dcR b).1.wf ∧ NlOk (dcR b).1 ∧ nlB (dcR b).1 = b := by
  unfold dcR at h ⊢
  split
  · rename_i g; rw [if_pos g] at h; cases h
  rename_i g1
  rw [if_neg g1] at h
  split
  · rename_i g; rw [if_pos g] at h; cases h
  rename_i g2
  rw [if_neg g2] at h
  split
  · rename_i g; rw [if_pos g] at h; cases h
  rename_i g3
  unfold dcBad at g3
  have h4 : nlCk (dcV b).1 = 0 := Classical.byContradiction fun g => g3 (.inr (.inr (.inl g)))
  have h5 : nlB (dcV b).1 = b := Classical.byContradiction fun g => g3 (.inr (.inr (.inr g)))
  exact ⟨gS_wf (fun y hm => hy y (List.mem_of_mem_drop hm)) (kS_wf (by omega)), nlOk_iff.1 h4, h5⟩
theorem dc_B {x : S60} (hw : x.wf) (ok : NlOk x) : dcR (nlB x) = (x, 0) := by
  have hk := ok.kind
  have hl := nlV_len x
  have e0 : (nlB x).getD 0 0 = x.a0 := rfl
  have e1 : (nlB x).getD 1 0 = ((nlV x).length : Int) := rfl
  have e2 : (nlB x).length = (nlV x).length + 2 := rfl
  have hv : dcV (nlB x) = (x, ⟨(nlV x).length, false⟩) := by
    unfold dcV
    rw [e0]
    exact gS_V hw ok
  unfold dcR
  rw [e0, e1, e2, if_neg (by omega), if_neg (by omega), if_neg, hv]
  unfold dcBad
  rw [hv]
  rintro (h | h | h | h)
  · cases h
  · exact absurd h (Nat.lt_irrefl _)
  · exact h (nlOk_iff.2 ok)
  · exact h rfl
theorem dc_bad {b : List Int} (h : (dcR b).2 ≠ 0) : (dcR b).1 = zS := by
  unfold dcR at h ⊢
  split
  · rfl
  rename_i g1
  rw [if_neg g1] at h
  split
  · rfl
  rename_i g2
  rw [if_neg g2] at h
  split
  · rfl
  rename_i g3
  rw [if_neg g3] at h
  exact absurd rfl h
end Go.Proofs.Ytjdppdoakbojcaa.Abs

/- The contract of decode: a piece is decoded by the program. -/
namespace Go.Proofs.Ytjdppdoakbojcaa.Abs
open Go
set_option linter.unusedVariables false
theorem p_field {C : Ctx} {l : Sl} {t : TypeId} {x : Operand} {f : Nat} {cs : Array Value} {v : Value} (h : evalL l x = some (.agg cs)) (hv : afield C t (.agg cs) f = some v) : PureT C (.field t x f) l v := by
  unfold PureT
  refine ⟨cov1 h, ?_⟩
  simp only [aP, rhoL_eq h]
  exact hv
theorem m150g (B0 : Nat) (old : Nat → Option (List Value)) : methV (cx B0 old) 150 "leafmesh/nlri.get" = some 160 := by kernel_rfl
theorem m151g (B0 : Nat) (old : Nat → Option (List Value)) : methV (cx B0 old) 151 "leafmesh/nlri.get" = some 174 := by kernel_rfl
theorem m152g (B0 : Nat) (old : Nat → Option (List Value)) : methV (cx B0 old) 152 "leafmesh/nlri.get" = some 181 := by kernel_rfl
theorem m153g (B0 : Nat) (old : Nat → Option (List Value)) : methV (cx B0 old) 153 "leafmesh/nlri.get" = some 183 := by kernel_rfl
theorem m154g (B0 : Nat) (old : Nat → Option (List Value)) : methV (cx B0 old) 154 "leafmesh/nlri.get" = some 185 := by kernel_rfl
set_option maxRecDepth 10000 in
theorem nm103 (B0 : Nat) (old : Nat → Option (List Value)) : NumMap (cx B0 old) 103 .i64 .nilIface := ⟨⟨_, _, _, rfl, rfl, rfl, rfl, rfl⟩⟩
def cdP : List (Int × Nat) := [(1, 150), (2, 151), (3, 152), (4, 153), (5, 154)]
theorem cdE_eq : cdE 5 = mkEs .i64 (fun t => cdI t) cdP 0 := rfl
theorem cd_miss {k : Int} (h : k < 1 ∨ k > 5) : assoc cdP k = none := by
  unfold cdP
  simp only [assoc]
  repeat' (split; · omega)
  all_goals rfl
theorem permI {a x : Nat × AObj} {G R : Hp} : (a :: x :: (G ++ R)).Perm (a :: (G ++ (x :: R))) := List.Perm.cons a List.perm_middle.symm
theorem gS_a0 (k : Nat) (L : List Int) (x : S60) : (gS k L x).1.a0 = x.a0 := by
  have hh : ∀ s y, (gHost L s y).1.a0 = y.a0 := fun s y => by unfold gHost; split <;> rfl
  have hl : ∀ r, (gLab2 L r).1.a0 = r.1.a0 := fun r => by unfold gLab2; split <;> rfl
  unfold gS
  split
  · rfl
  split
  · dsimp only; rw [hl]; exact hh _ _
  split
  · exact hh _ _
  split
  · exact hh _ _
  · rfl
theorem gS_le (k : Nat) (L : List Int) (x : S60) : (gS k L x).2.p ≤ L.length := by
  have h0 : (⟨0, false⟩ : Rs).p ≤ L.length := Nat.zero_le _
  have hl : ∀ r : S60 × Rs, r.2.p ≤ L.length → (gLab2 L r).2.p ≤ L.length := fun r h => by unfold gLab2; split; exact rdN_le h; exact h
  unfold gS
  split
  · exact rdN_le (rdN_le (rdN_le (rdN_le h0)))
  split
  · exact hl _ (rdN_le (gHost_le (rdN_le (rdN_le (rdN_le (rdN_le (rdN_le h0)))))))
  split
  · exact gHost_le (rdN_le (rdN_le h0))
  split
  · exact gHost_le (rdN_le (rdN_le h0))
  · exact rdN_le (rdN_le (rdN_le (rdN_le (rdN_le (rdN_le (rdN_le h0))))))
section
variable {B0 : Nat} {old : Nat → Option (List Value)} {n : Nat} {H Hs : Hp} {Q : Value → Hp → Prop} {mb : Nat} {bv src : Value} {L b : List Int}
set_option maxRecDepth 10000
set_option maxHeartbeats 8000000
theorem newReader122_ct (h : CutV (cx B0 old) H encY 1 L bv) (hl : L.length ≤ 100000) (hQ : ∀ p src G, Own encY 1 L src G → Q (.pointer (some ⟨p, 0, none⟩)) ((p, .row (rdRow L.length src ⟨0, false⟩) 6 false) :: (G ++ H))) :
    CallT (cx B0 old) (acall (cx B0 old) ansP (n + 1)) 122 [bv] H Q := by
  obtain ⟨ad, c, e, ha, _⟩ := h.arr
  subst e
  refine call_in1 10 rfl Try.func122 rfl rfl ?_
  repeat (first | refine Z0 ?_ | (refine ZR ?_; first | refine x1 ?_ | refine x2 ?_ | refine x8 ?_ | refine Z1 ?_ | refine Z2 ?_ | refine x3 fun _ => ?_ | refine x4 fun _ => ?_ | refine x5 fun _ => ?_ | refine Z3 fun _ => ?_ | refine Z4 fun _ => ?_) | refine Za ?_ | refine Zb ?_ | refine Zl ?_ | refine Zc ?_ | refine Ze ?_ | refine Zi ?_ | refine Zj ?_ | refine Zf ?_ | refine Zg ?_ | refine Zm ?_ | refine Zn ?_ | refine Zo ?_ | refine Zp ?_ | refine Zq ?_ | refine Zr ?_ | refine Zk ?_)
  refine rt_step rfl rfl rfl (st_appO (pre := []) (Hs := []) Own.nil encY_len encY_one rfl rfl (ap rfl) ha (by show _ * (1 + 1) ≤ _; simp only [List.length_nil]; omega) fun v2 G2 o2 => ?_)
  obtain ⟨a2, c2, e2, _⟩ := o2.arrW (C := cx B0 old) encY_len
  subst e2
  repeat (first | refine Z0 ?_ | (refine ZR ?_; first | refine x1 ?_ | refine x2 ?_ | refine x8 ?_ | refine Z1 ?_ | refine Z2 ?_ | refine x3 fun _ => ?_ | refine x4 fun _ => ?_ | refine x5 fun _ => ?_ | refine Z3 fun _ => ?_ | refine Z4 fun _ => ?_) | refine Za ?_ | refine Zb ?_ | refine Zl ?_ | refine Zc ?_ | refine Ze ?_ | refine Zi ?_ | refine Zj ?_ | refine Zf ?_ | refine Zg ?_ | refine Zm ?_ | refine Zn ?_ | refine Zo ?_ | refine Zp ?_ | refine Zq ?_ | refine Zr ?_ | refine Zk ?_)
  exact re_1 rfl rfl (List.Sublist.refl _) (hQ _ _ _ o2)
theorem decode93_ct (h : CutV (cx B0 old) H encY 1 b bv) (hy : ∀ y ∈ b, isY y) (hl : b.length ≤ 1000) (hm : (mb, AObj.map (cdE 5) 5) ∈ H) (hQ : Q (.tuple #[.agg ⟨en60 (dcR b).1⟩, .int .i64 (dcR b).2]) H) :
    CallT (cx B0 old) (acall (cx B0 old) ansP (n + 9)) 93 [bv, .map (some mb)] H Q := by
  obtain ⟨ad, c, e, ha, hne⟩ := h.arr
  subst e
  have h1 := ha.arr encY_len
  refine call_in2 69 rfl Try.func93 rfl rfl ?_
  by_cases hs : b.length < 2
  · have e : dcR b = (zS, 4) := by unfold dcR; rw [if_pos (.inl hs)]
    rw [e] at hQ
    unfold en60 zS at hQ
    dsimp only at hQ
    repeat (first | refine Z0 ?_ | (refine ZR ?_; first | refine x1 ?_ | refine x2 ?_ | refine x8 ?_ | refine Z1 ?_ | refine Z2 ?_ | refine x3 fun _ => ?_ | refine x4 fun _ => ?_ | refine x5 fun _ => ?_ | refine Z3 fun _ => ?_ | refine Z4 fun _ => ?_) | refine Za ?_ | refine Zb ?_ | refine Zl ?_ | refine Zc ?_ | refine Ze ?_ | refine Zi ?_ | refine Zj ?_ | refine Zf ?_ | refine Zg ?_ | refine Zm ?_ | refine Zn ?_ | refine Zo ?_ | refine Zp ?_ | refine Zq ?_ | refine Zr ?_ | refine Zk ?_)
    refine isRun ?_
    refine z1 (fun g1 => ?_) (fun g1 => ?_)
    · repeat (first | refine Z0 ?_ | (refine ZR ?_; first | refine x1 ?_ | refine x2 ?_ | refine x8 ?_ | refine Z1 ?_ | refine Z2 ?_ | refine x3 fun _ => ?_ | refine x4 fun _ => ?_ | refine x5 fun _ => ?_ | refine Z3 fun _ => ?_ | refine Z4 fun _ => ?_) | refine Za ?_ | refine Zb ?_ | refine Zl ?_ | refine Zc ?_ | refine Ze ?_ | refine Zi ?_ | refine Zj ?_ | refine Zf ?_ | refine Zg ?_ | refine Zm ?_ | refine Zn ?_ | refine Zo ?_ | refine Zp ?_ | refine Zq ?_ | refine Zr ?_ | refine Zk ?_)
      exact re_c2 (H' := H) rfl rfl (.own _ _ hm0) rfl (sz rfl) rfl rfl (by exact drop_auto) hQ
    · exfalso; omega
  obtain ⟨q0, ha0⟩ : ∃ x, b[0]? = some x := ⟨_, List.getElem?_eq_getElem (by omega)⟩
  obtain ⟨q1, ha1⟩ : ∃ x, b[1]? = some x := ⟨_, List.getElem?_eq_getElem (by omega)⟩
  have w0 := getY hy ha0
  have w1 := getY hy ha1
  have d0 : b.getD 0 0 = q0 := by rw [List.getD_eq_getElem?_getD, ha0]; rfl
  have d1 : b.getD 1 0 = q1 := by rw [List.getD_eq_getElem?_getD, ha1]; rfl
  unfold isY at w0 w1
  obtain ⟨b1, o1, e1, hL0⟩ := h1.ld1 5 ha0 rfl rfl (sz rfl)
  obtain ⟨b2, o2, e2, hL1⟩ := h1.ld1 5 ha1 rfl rfl (sz rfl)
  subst e1
  cases e2
  have u0 : IntKind.i64.wrap q0 = q0 := i64_i (by omega)
  have u1 : IntKind.i64.wrap q1 = q1 := i64_i (by omega)
  repeat (first | refine Z0 ?_ | (refine ZR ?_; first | refine x1 ?_ | refine x2 ?_ | refine x8 ?_ | refine Z1 ?_ | refine Z2 ?_ | refine x3 fun _ => ?_ | refine x4 fun _ => ?_ | refine x5 fun _ => ?_ | refine Z3 fun _ => ?_ | refine Z4 fun _ => ?_) | refine Za ?_ | refine Zb ?_ | refine Zl ?_ | refine Zc ?_ | refine Ze ?_ | refine Zi ?_ | refine Zj ?_ | refine Zf ?_ | refine Zg ?_ | refine Zm ?_ | refine Zn ?_ | refine Zo ?_ | refine Zp ?_ | refine Zq ?_ | refine Zr ?_ | refine Zk ?_)
  refine isRun ?_
  refine z1 (fun g1 => ?_) (fun g1 => ?_)
  · exfalso; omega
  repeat (first | refine Z0 ?_ | (refine ZR ?_; first | refine x1 ?_ | refine x2 ?_ | refine x8 ?_ | refine Z1 ?_ | refine Z2 ?_ | refine x3 fun _ => ?_ | refine x4 fun _ => ?_ | refine x5 fun _ => ?_ | refine Z3 fun _ => ?_ | refine Z4 fun _ => ?_) | refine Za ?_ | refine Zb ?_ | refine Zl ?_ | refine Zc ?_ | refine Ze ?_ | refine Zi ?_ | refine Zj ?_ | refine Zf ?_ | refine Zg ?_ | refine Zm ?_ | refine Zn ?_ | refine Zo ?_ | refine Zp ?_ | refine Zq ?_ | refine Zr ?_ | refine Zk ?_)
  rw [u1]
  repeat (first | refine Z0 ?_ | (refine ZR ?_; first | refine x1 ?_ | refine x2 ?_ | refine x8 ?_ | refine Z1 ?_ | refine Z2 ?_ | refine x3 fun _ => ?_ | refine x4 fun _ => ?_ | refine x5 fun _ => ?_ | refine Z3 fun _ => ?_ | refine Z4 fun _ => ?_) | refine Za ?_ | refine Zb ?_ | refine Zl ?_ | refine Zc ?_ | refine Ze ?_ | refine Zi ?_ | refine Zj ?_ | refine Zf ?_ | refine Zg ?_ | refine Zm ?_ | refine Zn ?_ | refine Zo ?_ | refine Zp ?_ | refine Zq ?_ | refine Zr ?_ | refine Zk ?_)
  refine ct_condT te_d rfl (fun g2 => ?_) (fun g2 => ?_)
  · have e : dcR b = (zS, 4) := by unfold dcR; rw [if_pos (.inr (by rw [d1]; omega))]
    rw [e] at hQ
    unfold en60 zS at hQ
    dsimp only at hQ
    repeat (first | refine Z0 ?_ | (refine ZR ?_; first | refine x1 ?_ | refine x2 ?_ | refine x8 ?_ | refine Z1 ?_ | refine Z2 ?_ | refine x3 fun _ => ?_ | refine x4 fun _ => ?_ | refine x5 fun _ => ?_ | refine Z3 fun _ => ?_ | refine Z4 fun _ => ?_) | refine Za ?_ | refine Zb ?_ | refine Zl ?_ | refine Zc ?_ | refine Ze ?_ | refine Zi ?_ | refine Zj ?_ | refine Zf ?_ | refine Zg ?_ | refine Zm ?_ | refine Zn ?_ | refine Zo ?_ | refine Zp ?_ | refine Zq ?_ | refine Zr ?_ | refine Zk ?_)
    exact re_c2 (H' := H) rfl rfl (.own _ _ hm0) rfl (sz rfl) rfl rfl (by exact drop_auto) hQ
  repeat (first | refine Z0 ?_ | (refine ZR ?_; first | refine x1 ?_ | refine x2 ?_ | refine x8 ?_ | refine Z1 ?_ | refine Z2 ?_ | refine x3 fun _ => ?_ | refine x4 fun _ => ?_ | refine x5 fun _ => ?_ | refine Z3 fun _ => ?_ | refine Z4 fun _ => ?_) | refine Za ?_ | refine Zb ?_ | refine Zl ?_ | refine Zc ?_ | refine Ze ?_ | refine Zi ?_ | refine Zj ?_ | refine Zf ?_ | refine Zg ?_ | refine Zm ?_ | refine Zn ?_ | refine Zo ?_ | refine Zp ?_ | refine Zq ?_ | refine Zr ?_ | refine Zk ?_)
  rw [u0]
  repeat (first | refine Z0 ?_ | (refine ZR ?_; first | refine x1 ?_ | refine x2 ?_ | refine x8 ?_ | refine Z1 ?_ | refine Z2 ?_ | refine x3 fun _ => ?_ | refine x4 fun _ => ?_ | refine x5 fun _ => ?_ | refine Z3 fun _ => ?_ | refine Z4 fun _ => ?_) | refine Za ?_ | refine Zb ?_ | refine Zl ?_ | refine Zc ?_ | refine Ze ?_ | refine Zi ?_ | refine Zj ?_ | refine Zf ?_ | refine Zg ?_ | refine Zm ?_ | refine Zn ?_ | refine Zo ?_ | refine Zp ?_ | refine Zq ?_ | refine Zr ?_ | refine Zk ?_)
  rename_i c4 c6
  by_cases hk : q0 < 1 ∨ q0 > 5
  · have hz := nm103 B0 old
    have hlook := lookE_miss hz (f := fun t => cdI t) (cd_miss hk)
    rw [← cdE_eq] at hlook
    have e : dcR b = (zS, 6) := by unfold dcR; rw [if_neg (by rw [d1]; omega), d0, if_pos hk]
    rw [e] at hQ
    unfold en60 zS at hQ
    dsimp only at hQ
    apply rt_r rfl rfl rfl
    case hp => exact rd_lookup rfl rfl (List.Mem.tail _ (List.Mem.tail _ hm)) hlook
    repeat (first | refine Z0 ?_ | (refine ZR ?_; first | refine x1 ?_ | refine x2 ?_ | refine x8 ?_ | refine Z1 ?_ | refine Z2 ?_ | refine x3 fun _ => ?_ | refine x4 fun _ => ?_ | refine x5 fun _ => ?_ | refine Z3 fun _ => ?_ | refine Z4 fun _ => ?_) | refine Za ?_ | refine Zb ?_ | refine Zl ?_ | refine Zc ?_ | refine Ze ?_ | refine Zi ?_ | refine Zj ?_ | refine Zf ?_ | refine Zg ?_ | refine Zm ?_ | refine Zn ?_ | refine Zo ?_ | refine Zp ?_ | refine Zq ?_ | refine Zr ?_ | refine Zk ?_)
    exact re_c2 (H' := H) rfl rfl (.own _ _ hm1) rfl (sz rfl) rfl rfl (by exact drop_auto) hQ
  have hkk : 1 ≤ q0 ∧ q0 ≤ 5 := by omega
  have hQ3 : dcBad b → Q (.tuple #[.agg ⟨en60 zS⟩, .int .i64 3]) H := fun hb => by
    have e : dcR b = (zS, 3) := by unfold dcR; rw [if_neg (by rw [d1]; omega), d0, if_neg hk, if_pos hb]
    rw [e] at hQ
    exact hQ
  have hQ0 : ¬ dcBad b → Q (.tuple #[.agg ⟨en60 (dcV b).1⟩, .int .i64 0]) H := fun hb => by
    have e : dcR b = ((dcV b).1, 0) := by unfold dcR; rw [if_neg (by rw [d1]; omega), d0, if_neg hk, if_neg hb]
    rw [e] at hQ
    exact hQ
  clear hQ
  obtain ⟨t, g, hmeth, hcal, hget, henc, hlook⟩ : ∃ t g : Nat, methV (cx B0 old) t "leafmesh/nlri.get" = some g ∧ callable (cx B0 old) g = true ∧
      (∀ {p c ez ec : Nat} {el el2 : Bool} {src : Value} {V : List Int} {y : S60} {Hx : Hp} {Θ : Value → Hp → Prop}, CutV (cx B0 old) Hx encY 1 V src → (∀ y ∈ V, isY y) → V.length ≤ 100000 →
        (∀ v, Θ v ((p, .row (rdRow V.length src (gS q0.toNat V y).2) ez el) :: (c, .row (en60 (gS q0.toNat V y).1) ec el2) :: Hx)) → CallT (cx B0 old) (acall (cx B0 old) ansP (n + 8)) g [.agg ⟨[]⟩, .pointer (some ⟨p, 0, none⟩), .pointer (some ⟨c, 0, none⟩)] ((p, .row (rdRow V.length src ⟨0, false⟩) ez el) :: (c, .row (en60 y) ec el2) :: Hx) Θ) ∧
      (∀ {y : S60} {Hx : Hp} {Θ : Value → Hp → Prop}, y.wf → NlOk y → y.a0 = q0 → (∀ v G, Own encY 1 (nlB y) v G → Θ v (G ++ Hx)) → CallT (cx B0 old) (acall (cx B0 old) ansP (n + 8)) 80 [.agg ⟨en60 y⟩, .iface t (.agg ⟨[]⟩)] Hx Θ) ∧
      lookE (cx B0 old) 103 (cdE 5) (.int .i64 q0) true = some (.tuple #[.iface t (.agg ⟨[]⟩), .bool true]) := by
    rcases (by omega : q0 = 1 ∨ q0 = 2 ∨ q0 = 3 ∨ q0 = 4 ∨ q0 = 5) with rfl | rfl | rfl | rfl | rfl
    · exact ⟨150, 160, m150g B0 old, rfl, fun a b c d => get160_ct _ a b c d, fun w o q g => enc80_ct _ w o 150 161 (m150 B0 old) rfl (fun z => put161_ct _ w o q z) g, by kernel_rfl⟩
    · exact ⟨151, 174, m151g B0 old, rfl, fun a b c d => get174_ct _ a b c d, fun w o q g => enc80_ct _ w o 151 175 (m151 B0 old) rfl (fun z => put175_ct _ w o q z) g, by kernel_rfl⟩
    · exact ⟨152, 181, m152g B0 old, rfl, fun a b c d => get181_ct _ a b c d, fun w o q g => enc80_ct _ w o 152 182 (m152 B0 old) rfl (fun z => put182_ct _ w o q z) g, by kernel_rfl⟩
    · exact ⟨153, 183, m153g B0 old, rfl, fun a b c d => get183_ct _ a b c d, fun w o q g => enc80_ct _ w o 153 184 (m153 B0 old) rfl (fun z => put184_ct _ w o q z) g, by kernel_rfl⟩
    · exact ⟨154, 185, m154g B0 old, rfl, fun a b c d => get185_ct _ a b c d, fun w o q g => enc80_ct _ w o 154 186 (m154 B0 old) rfl (fun z => put186_ct _ w o q z) g, by kernel_rfl⟩
  apply rt_r rfl rfl rfl
  case hp => exact rd_lookup rfl rfl (List.Mem.tail _ (List.Mem.tail _ hm)) hlook
  obtain ⟨v2, e2, hv2⟩ := h.part encY_len (t := 34) (e := 5) (lo := some (.int .i64 2)) (hi := none) 2 b.length rfl (sz rfl) (by omega) (Nat.le_refl _) (.inl rfl) (.inr ⟨rfl, rfl⟩)
  have eV : (b.drop 2).take (b.length - 2) = b.drop 2 := List.take_of_length_le (by rw [List.length_drop]; omega)
  rw [eV] at hv2
  have hyV : ∀ y ∈ b.drop 2, isY y := fun y hm => hy y (List.mem_of_mem_drop hm)
  have hlV : (b.drop 2).length ≤ 100000 := by rw [List.length_drop]; omega
  have hdc : dcV b = gS q0.toNat (b.drop 2) (kS q0) := by unfold dcV; rw [d0]
  have hbad : dcBad b ↔ ((dcV b).2.f = true ∨ (dcV b).2.p < (b.drop 2).length ∨ nlCk (dcV b).1 ≠ 0 ∨ nlB (dcV b).1 ≠ b) := Iff.rfl
  have hxw := gS_wf (k := q0.toNat) hyV (kS_wf (k := q0) (by omega))
  have hxa := gS_a0 q0.toNat (b.drop 2) (kS q0)
  have hxp := gS_le q0.toNat (b.drop 2) (kS q0)
  have hbne : b ≠ [] := fun e => by rw [e] at hs; exact hs (by decide)
  rw [hdc] at hbad hQ0
  generalize b.drop 2 = V at *
  repeat (first | refine Z0 ?_ | (refine ZR ?_; first | refine x1 ?_ | refine x2 ?_ | refine x8 ?_ | refine Z1 ?_ | refine Z2 ?_ | refine x3 fun _ => ?_ | refine x4 fun _ => ?_ | refine x5 fun _ => ?_ | refine Z3 fun _ => ?_ | refine Z4 fun _ => ?_) | refine Za ?_ | refine Zb ?_ | refine Zl ?_ | refine Zc ?_ | refine Ze ?_ | refine Zi ?_ | refine Zj ?_ | refine Zf ?_ | refine Zg ?_ | refine Zm ?_ | refine Zn ?_ | refine Zo ?_ | refine Zp ?_ | refine Zq ?_ | refine Zr ?_ | refine Zk ?_)
  apply rt_p rfl rfl rfl
  case hp => exact p_slc rfl rfl rfl e2
  refine rt_step rfl rfl rfl (st_call rfl rfl rfl rfl (newReader122_ct (hv2.weak (by exact drop_auto)) hlV fun p src G ho => ?_))
  repeat (first | refine Z0 ?_ | (refine ZR ?_; first | refine x1 ?_ | refine x2 ?_ | refine x8 ?_ | refine Z1 ?_ | refine Z2 ?_ | refine x3 fun _ => ?_ | refine x4 fun _ => ?_ | refine x5 fun _ => ?_ | refine Z3 fun _ => ?_ | refine Z4 fun _ => ?_) | refine Za ?_ | refine Zb ?_ | refine Zl ?_ | refine Zc ?_ | refine Ze ?_ | refine Zi ?_ | refine Zj ?_ | refine Zf ?_ | refine Zg ?_ | refine Zm ?_ | refine Zn ?_ | refine Zo ?_ | refine Zp ?_ | refine Zq ?_ | refine Zr ?_ | refine Zk ?_)
  refine rt_step rfl rfl rfl (st_invoke rfl rfl (fun s _ => meth_is hmeth _ s) hcal rfl (CallT.permQ (hget (y := kS q0) (show CutV (cx B0 old) (G ++ _) encY 1 V src from ho.cutV (pre := []) encY_len) hyV hlV fun _ => ⟨_, permI.symm, ?_⟩) permI))
  generalize gS q0.toNat V (kS q0) = r at *
  obtain ⟨x, sp, sf⟩ := r
  dsimp only at hbad hxw hxa hxp hQ0 ⊢
  have hxa : x.a0 = q0 := hxa
  have hck : ∀ {H1 : Hp} {Θ : Value → Hp → Prop}, Θ (.int .i64 (nlCk x)) H1 → CallT (cx B0 old) (acall (cx B0 old) ansP (n + 8)) 41 [.agg ⟨en60 x⟩] H1 Θ := fun h => check41_ct x h
  have henc2 : nlCk x = 0 → ∀ {H1 : Hp} {Θ : Value → Hp → Prop}, (∀ v G, Own encY 1 (nlB x) v G → Θ v (G ++ H1)) → CallT (cx B0 old) (acall (cx B0 old) ansP (n + 8)) 80 [.agg ⟨en60 x⟩, .iface t (.agg ⟨[]⟩)] H1 Θ := fun hc => fun {H1} {Θ} g => henc hxw (nlOk_iff.1 hc) hxa g
  have hYB : nlCk x = 0 → ∀ y ∈ nlB x, isY y := fun hc => nlB_z hxw (nlOk_iff.1 hc)
  have hBne := nlB_nz x
  clear henc hget
  rw [hbad] at hQ3 hQ0
  clear hbad
  unfold en60 zS at hQ3
  unfold en60 at hck henc2 hQ0 ⊢
  dsimp only at hQ3
  repeat (first | refine Z0 ?_ | (refine ZR ?_; first | refine x1 ?_ | refine x2 ?_ | refine x8 ?_ | refine Z1 ?_ | refine Z2 ?_ | refine x3 fun _ => ?_ | refine x4 fun _ => ?_ | refine x5 fun _ => ?_ | refine Z3 fun _ => ?_ | refine Z4 fun _ => ?_) | refine Za ?_ | refine Zb ?_ | refine Zl ?_ | refine Zc ?_ | refine Ze ?_ | refine Zi ?_ | refine Zj ?_ | refine Zf ?_ | refine Zg ?_ | refine Zm ?_ | refine Zn ?_ | refine Zo ?_ | refine Zp ?_ | refine Zq ?_ | refine Zr ?_ | refine Zk ?_)
  cases sf with
  | true =>
    refine rt_step rfl rfl rfl (st_call rfl rfl rfl rfl (fault123_ct ?_))
    repeat (first | refine Z0 ?_ | (refine ZR ?_; first | refine x1 ?_ | refine x2 ?_ | refine x8 ?_ | refine Z1 ?_ | refine Z2 ?_ | refine x3 fun _ => ?_ | refine x4 fun _ => ?_ | refine x5 fun _ => ?_ | refine Z3 fun _ => ?_ | refine Z4 fun _ => ?_) | refine Za ?_ | refine Zb ?_ | refine Zl ?_ | refine Zc ?_ | refine Ze ?_ | refine Zi ?_ | refine Zj ?_ | refine Zf ?_ | refine Zg ?_ | refine Zm ?_ | refine Zn ?_ | refine Zo ?_ | refine Zp ?_ | refine Zq ?_ | refine Zr ?_ | refine Zk ?_)
    apply rt_p rfl rfl rfl
    case hp => exact p_field rfl rfl
    repeat (first | refine Z0 ?_ | (refine ZR ?_; first | refine x1 ?_ | refine x2 ?_ | refine x8 ?_ | refine Z1 ?_ | refine Z2 ?_ | refine x3 fun _ => ?_ | refine x4 fun _ => ?_ | refine x5 fun _ => ?_ | refine Z3 fun _ => ?_ | refine Z4 fun _ => ?_) | refine Za ?_ | refine Zb ?_ | refine Zl ?_ | refine Zc ?_ | refine Ze ?_ | refine Zi ?_ | refine Zj ?_ | refine Zf ?_ | refine Zg ?_ | refine Zm ?_ | refine Zn ?_ | refine Zo ?_ | refine Zp ?_ | refine Zq ?_ | refine Zr ?_ | refine Zk ?_)
    exact re_c2 (H' := H) rfl rfl (.own _ _ (List.Mem.tail _ (List.mem_append_right G (List.Mem.tail _ (List.Mem.head _))))) rfl (sz rfl) rfl rfl (by exact drop_auto) (hQ3 (.inl rfl))
  | false =>
    refine rt_step rfl rfl rfl (st_call rfl rfl rfl rfl (fault123_ct ?_))
    repeat (first | refine Z0 ?_ | (refine ZR ?_; first | refine x1 ?_ | refine x2 ?_ | refine x8 ?_ | refine Z1 ?_ | refine Z2 ?_ | refine x3 fun _ => ?_ | refine x4 fun _ => ?_ | refine x5 fun _ => ?_ | refine Z3 fun _ => ?_ | refine Z4 fun _ => ?_) | refine Za ?_ | refine Zb ?_ | refine Zl ?_ | refine Zc ?_ | refine Ze ?_ | refine Zi ?_ | refine Zj ?_ | refine Zf ?_ | refine Zg ?_ | refine Zm ?_ | refine Zn ?_ | refine Zo ?_ | refine Zp ?_ | refine Zq ?_ | refine Zr ?_ | refine Zk ?_)
    apply rt_p rfl rfl rfl
    case hp => exact p_field rfl rfl
    repeat (first | refine Z0 ?_ | (refine ZR ?_; first | refine x1 ?_ | refine x2 ?_ | refine x8 ?_ | refine Z1 ?_ | refine Z2 ?_ | refine x3 fun _ => ?_ | refine x4 fun _ => ?_ | refine x5 fun _ => ?_ | refine Z3 fun _ => ?_ | refine Z4 fun _ => ?_) | refine Za ?_ | refine Zb ?_ | refine Zl ?_ | refine Zc ?_ | refine Ze ?_ | refine Zi ?_ | refine Zj ?_ | refine Zf ?_ | refine Zg ?_ | refine Zm ?_ | refine Zn ?_ | refine Zo ?_ | refine Zp ?_ | refine Zq ?_ | refine Zr ?_ | refine Zk ?_)
    refine rt_step rfl rfl rfl (st_call rfl rfl rfl rfl (left124_ct hxp hlV ?_))
    repeat (first | refine Z0 ?_ | (refine ZR ?_; first | refine x1 ?_ | refine x2 ?_ | refine x8 ?_ | refine Z1 ?_ | refine Z2 ?_ | refine x3 fun _ => ?_ | refine x4 fun _ => ?_ | refine x5 fun _ => ?_ | refine Z3 fun _ => ?_ | refine Z4 fun _ => ?_) | refine Za ?_ | refine Zb ?_ | refine Zl ?_ | refine Zc ?_ | refine Ze ?_ | refine Zi ?_ | refine Zj ?_ | refine Zf ?_ | refine Zg ?_ | refine Zm ?_ | refine Zn ?_ | refine Zo ?_ | refine Zp ?_ | refine Zq ?_ | refine Zr ?_ | refine Zk ?_)
    refine isRun ?_
    refine z1 (fun hg => ?_) (fun hg => ?_)
    · repeat (first | refine Z0 ?_ | (refine ZR ?_; first | refine x1 ?_ | refine x2 ?_ | refine x8 ?_ | refine Z1 ?_ | refine Z2 ?_ | refine x3 fun _ => ?_ | refine x4 fun _ => ?_ | refine x5 fun _ => ?_ | refine Z3 fun _ => ?_ | refine Z4 fun _ => ?_) | refine Za ?_ | refine Zb ?_ | refine Zl ?_ | refine Zc ?_ | refine Ze ?_ | refine Zi ?_ | refine Zj ?_ | refine Zf ?_ | refine Zg ?_ | refine Zm ?_ | refine Zn ?_ | refine Zo ?_ | refine Zp ?_ | refine Zq ?_ | refine Zr ?_ | refine Zk ?_)
      exact re_c2 (H' := H) rfl rfl (.own _ _ (List.Mem.tail _ (List.mem_append_right G (List.Mem.tail _ (List.Mem.head _))))) rfl (sz rfl) rfl rfl (by exact drop_auto) (hQ3 (.inr (.inl (by have hg' : (V.length : Int) - (sp : Int) > 0 := hg; omega))))
    have hg' : ¬ (V.length : Int) - (sp : Int) > 0 := hg
    repeat (first | refine Z0 ?_ | (refine ZR ?_; first | refine x1 ?_ | refine x2 ?_ | refine x8 ?_ | refine Z1 ?_ | refine Z2 ?_ | refine x3 fun _ => ?_ | refine x4 fun _ => ?_ | refine x5 fun _ => ?_ | refine Z3 fun _ => ?_ | refine Z4 fun _ => ?_) | refine Za ?_ | refine Zb ?_ | refine Zl ?_ | refine Zc ?_ | refine Ze ?_ | refine Zi ?_ | refine Zj ?_ | refine Zf ?_ | refine Zg ?_ | refine Zm ?_ | refine Zn ?_ | refine Zo ?_ | refine Zp ?_ | refine Zq ?_ | refine Zr ?_ | refine Zk ?_)
    refine rt_step rfl rfl rfl (st_call rfl rfl rfl rfl (hck ?_))
    repeat (first | refine Z0 ?_ | (refine ZR ?_; first | refine x1 ?_ | refine x2 ?_ | refine x8 ?_ | refine Z1 ?_ | refine Z2 ?_ | refine x3 fun _ => ?_ | refine x4 fun _ => ?_ | refine x5 fun _ => ?_ | refine Z3 fun _ => ?_ | refine Z4 fun _ => ?_) | refine Za ?_ | refine Zb ?_ | refine Zl ?_ | refine Zc ?_ | refine Ze ?_ | refine Zi ?_ | refine Zj ?_ | refine Zf ?_ | refine Zg ?_ | refine Zm ?_ | refine Zn ?_ | refine Zo ?_ | refine Zp ?_ | refine Zq ?_ | refine Zr ?_ | refine Zk ?_)
    refine isRun ?_
    refine z1 (fun hc => ?_) (fun hc => ?_)
    · repeat (first | refine Z0 ?_ | (refine ZR ?_; first | refine x1 ?_ | refine x2 ?_ | refine x8 ?_ | refine Z1 ?_ | refine Z2 ?_ | refine x3 fun _ => ?_ | refine x4 fun _ => ?_ | refine x5 fun _ => ?_ | refine Z3 fun _ => ?_ | refine Z4 fun _ => ?_) | refine Za ?_ | refine Zb ?_ | refine Zl ?_ | refine Zc ?_ | refine Ze ?_ | refine Zi ?_ | refine Zj ?_ | refine Zf ?_ | refine Zg ?_ | refine Zm ?_ | refine Zn ?_ | refine Zo ?_ | refine Zp ?_ | refine Zq ?_ | refine Zr ?_ | refine Zk ?_)
      exact re_c2 (H' := H) rfl rfl (.own _ _ (List.Mem.tail _ (List.mem_append_right G (List.Mem.tail _ (List.Mem.head _))))) rfl (sz rfl) rfl rfl (by exact drop_auto) (hQ3 (.inr (.inr (.inl hc))))
    repeat (first | refine Z0 ?_ | (refine ZR ?_; first | refine x1 ?_ | refine x2 ?_ | refine x8 ?_ | refine Z1 ?_ | refine Z2 ?_ | refine x3 fun _ => ?_ | refine x4 fun _ => ?_ | refine x5 fun _ => ?_ | refine Z3 fun _ => ?_ | refine Z4 fun _ => ?_) | refine Za ?_ | refine Zb ?_ | refine Zl ?_ | refine Zc ?_ | refine Ze ?_ | refine Zi ?_ | refine Zj ?_ | refine Zf ?_ | refine Zg ?_ | refine Zm ?_ | refine Zn ?_ | refine Zo ?_ | refine Zp ?_ | refine Zq ?_ | refine Zr ?_ | refine Zk ?_)
    refine rt_step rfl rfl rfl (st_call rfl rfl rfl rfl (henc2 hc fun v3 G3 o3 => ?_))
    obtain ⟨a3, c3, e3, g3⟩ := o3.arrW (C := cx B0 old) encY_len
    subst e3
    repeat (first | refine Z0 ?_ | (refine ZR ?_; first | refine x1 ?_ | refine x2 ?_ | refine x8 ?_ | refine Z1 ?_ | refine Z2 ?_ | refine x3 fun _ => ?_ | refine x4 fun _ => ?_ | refine x5 fun _ => ?_ | refine Z3 fun _ => ?_ | refine Z4 fun _ => ?_) | refine Za ?_ | refine Zb ?_ | refine Zl ?_ | refine Zc ?_ | refine Ze ?_ | refine Zi ?_ | refine Zj ?_ | refine Zf ?_ | refine Zg ?_ | refine Zm ?_ | refine Zn ?_ | refine Zo ?_ | refine Zp ?_ | refine Zq ?_ | refine Zr ?_ | refine Zk ?_)
    refine rt_step rfl rfl rfl (st_call rfl rfl rfl rfl (eq70_ct (g3 [] _) (ha.weak (by exact drop_auto)) (.inl hBne) (.inl hbne) (hYB hc) hy ?_))
    by_cases hE : nlB x = b
    · rw [decide_eq_true hE]
      repeat (first | refine Z0 ?_ | (refine ZR ?_; first | refine x1 ?_ | refine x2 ?_ | refine x8 ?_ | refine Z1 ?_ | refine Z2 ?_ | refine x3 fun _ => ?_ | refine x4 fun _ => ?_ | refine x5 fun _ => ?_ | refine Z3 fun _ => ?_ | refine Z4 fun _ => ?_) | refine Za ?_ | refine Zb ?_ | refine Zl ?_ | refine Zc ?_ | refine Ze ?_ | refine Zi ?_ | refine Zj ?_ | refine Zf ?_ | refine Zg ?_ | refine Zm ?_ | refine Zn ?_ | refine Zo ?_ | refine Zp ?_ | refine Zq ?_ | refine Zr ?_ | refine Zk ?_)
      exact re_c2 (H' := H) rfl rfl (.own _ _ (List.mem_append_right G3 (List.Mem.tail _ (List.mem_append_right G (List.Mem.tail _ (List.Mem.head _)))))) rfl (sz rfl) rfl rfl (by exact drop_auto) (hQ0 (by
        rintro (h | h | h | h)
        · cases h
        · omega
        · exact h hc
        · exact h hE))
    · rw [decide_eq_false hE]
      repeat (first | refine Z0 ?_ | (refine ZR ?_; first | refine x1 ?_ | refine x2 ?_ | refine x8 ?_ | refine Z1 ?_ | refine Z2 ?_ | refine x3 fun _ => ?_ | refine x4 fun _ => ?_ | refine x5 fun _ => ?_ | refine Z3 fun _ => ?_ | refine Z4 fun _ => ?_) | refine Za ?_ | refine Zb ?_ | refine Zl ?_ | refine Zc ?_ | refine Ze ?_ | refine Zi ?_ | refine Zj ?_ | refine Zf ?_ | refine Zg ?_ | refine Zm ?_ | refine Zn ?_ | refine Zo ?_ | refine Zp ?_ | refine Zq ?_ | refine Zr ?_ | refine Zk ?_)
      exact re_c2 (H' := H) rfl rfl (.own _ _ (List.mem_append_right G3 (List.Mem.tail _ (List.mem_append_right G (List.Mem.tail _ (List.Mem.head _)))))) rfl (sz rfl) rfl rfl (by exact drop_auto) (hQ3 (.inr (.inr (.inr hE))))
end
end Go.Proofs.Ytjdppdoakbojcaa.Abs

/- Pieces of encoded routes: the program's iterator. -/
namespace Go.Proofs.Ytjdppdoakbojcaa.Abs
open Go
set_option linter.unusedVariables false
/-- The size of the first piece. -/
def pcSz (r : List Int) : Nat := if 2 ≤ r.length then min r.length (2 + (r.getD 1 0).toNat) else r.length
theorem pcSz_le (r : List Int) : pcSz r ≤ r.length := by unfold pcSz; split <;> omega
theorem pcSz_pos {r : List Int} (h : r ≠ []) : 0 < pcSz r := by
  have := List.length_pos_iff.2 h
  unfold pcSz
  split <;> omega
/-- What is read of what is left. -/
noncomputable def nlR : Nat → List Int → Nat → List S60 → List S60 × Int × Int
  | 0, _, _, acc => (acc, 0, 0)
  | f + 1, r, i, acc => if r.length = 0 then (acc, 0, 0) else if (dcR (r.take (pcSz r))).2 ≠ 0 then ([], (dcR (r.take (pcSz r))).2, (i : Int)) else nlR f (r.drop (pcSz r)) (i + pcSz r) (acc ++ [(dcR (r.take (pcSz r))).1])
theorem nlR_fuel : ∀ (f g : Nat) (r : List Int) (i : Nat) (acc : List S60), r.length < f → r.length < g → nlR f r i acc = nlR g r i acc
  | 0, _, _, _, _, h, _ => by omega
  | _ + 1, 0, _, _, _, _, h => by omega
  | f + 1, g + 1, r, i, acc, h1, h2 => by
    unfold nlR
    by_cases h0 : r.length = 0
    · rw [if_pos h0, if_pos h0]
    · rw [if_neg h0, if_neg h0]
      have hp := pcSz_pos (r := r) (by intro e; rw [e] at h0; exact h0 rfl)
      split
      · rfl
      · exact nlR_fuel f g _ _ _ (by rw [List.length_drop]; omega) (by rw [List.length_drop]; omega)
noncomputable def nlRd (b : List Int) : List S60 × Int × Int := nlR (b.length + 1) b 0 []
/-- One piece. -/
theorem nlR_step {r : List Int} {i : Nat} {acc : List S60} (h : r ≠ []) : nlR (r.length + 1) r i acc = if (dcR (r.take (pcSz r))).2 ≠ 0 then ([], (dcR (r.take (pcSz r))).2, (i : Int)) else nlR ((r.drop (pcSz r)).length + 1) (r.drop (pcSz r)) (i + pcSz r) (acc ++ [(dcR (r.take (pcSz r))).1]) := by
  have hp := pcSz_pos h
  have hl := List.length_pos_iff.2 h
  rw [nlR, if_neg (by omega)]
  split
  · rfl
  · exact nlR_fuel _ _ _ _ _ (by rw [List.length_drop]; omega) (by omega)
theorem nlR_nil (i : Nat) (acc : List S60) : nlR (([] : List Int).length + 1) [] i acc = (acc, 0, 0) := rfl
/-- A slice that is cut; if it is empty, nothing is known of its place. -/
def CutA {α : Type} (C : Ctx) (H : Hp) (en : α → List Value) (k : Nat) (L : List α) (v : Value) : Prop := (∃ ad c, v = .slice ad L.length c) ∧ (L ≠ [] → CutV C H en k L v)
theorem CutA.weak {α : Type} {C : Ctx} {H H' : Hp} {en : α → List Value} {k : Nat} {L : List α} {v : Value} (h : CutA C H en k L v) (hs : H.Sublist H') : CutA C H' en k L v := ⟨h.1, fun g => (h.2 g).weak hs⟩
theorem CutV.a {α : Type} {C : Ctx} {H : Hp} {en : α → List Value} {k : Nat} {L : List α} {v : Value} (h : CutV C H en k L v) : CutA C H en k L v := ⟨let ⟨ad, c, e, _⟩ := h.arr; ⟨ad, c, e⟩, fun _ => h⟩
def RndP (Lp : Nat) (fr : Fr) (ps : List Nat) (A B : Code) (St : Hp → Prop) (SR : AX → Hp → Prop) (v : Value) (H' : Hp) : Prop :=
  (v = .bool true ∧ ∃ R, St R ∧ ((Lp, .loop 0 none fr ps A B) :: R).Sublist H') ∨ (v = .bool false ∧ ∃ e R, SR e R ∧ ((Lp, .loop 2 (some e) fr ps A B) :: R).Sublist H')
section
variable {B0 : Nat} {old : Nat → Option (List Value)} {n : Nat} {H Hs : Hp} {Q : Value → Hp → Prop} {bv : Value} {b : List Int}
set_option maxRecDepth 10000
set_option maxHeartbeats 8000000
theorem pieces92_ct (hk : ∀ b2, Q (.func (.func 121) #[] #[.pointer (some ⟨b2, 0, none⟩)]) ((b2, .row [bv] 1 false) :: H)) (hb : CutA (cx B0 old) H encY 1 b bv) :
    CallT (cx B0 old) (acall (cx B0 old) ansP (n + 1)) 92 [bv] H Q := by
  obtain ⟨⟨ad, c, e⟩, _⟩ := hb
  subst e
  refine call_in1 4 rfl Try.func92 rfl rfl ?_
  repeat (first | refine Z0 ?_ | (refine ZR ?_; first | refine x1 ?_ | refine x2 ?_ | refine x8 ?_ | refine Z1 ?_ | refine Z2 ?_ | refine x3 fun _ => ?_ | refine x4 fun _ => ?_ | refine x5 fun _ => ?_ | refine Z3 fun _ => ?_ | refine Z4 fun _ => ?_) | refine Za ?_ | refine Zb ?_ | refine Zl ?_ | refine Zc ?_ | refine Ze ?_ | refine Zi ?_ | refine Zj ?_ | refine Zf ?_ | refine Zg ?_ | refine Zm ?_ | refine Zn ?_ | refine Zo ?_ | refine Zp ?_ | refine Zq ?_ | refine Zr ?_ | refine Zk ?_)
  exact re_1 rfl rfl (by exact drop_auto) (hk _)
theorem pcs121_ct (b2 Lp nt : Nat) (lf : Sl) (fr : Fr) (ps : List Nat) (A B : Code) (St : Nat → Hp → Prop) (SR : AX → Hp → Prop) (R0 : Hp) (hps : ps.length = 2) (hfr : FrHas nt lf fr)
    (hb : CutA (cx B0 old) H encY 1 b bv) (hy : ∀ y ∈ b, isY y) (hl : b.length ≤ 1000)
    (hst : ∀ i R, St i R → H.Sublist R ∧ (b2, AObj.row [bv] 1 false) ∈ R) (h0 : St 0 R0)
    (hround : ∀ (i : Nat) R q pv, i < b.length → St i R → CutV (cx B0 old) H encY 1 ((b.drop i).take (pcSz (b.drop i))) pv → CodeT (cx B0 old) (ahand (cx B0 old) ansP n) true nt A (parL nt ps [.int .i64 (i : Int), pv] lf) ((Lp, .loop 0 q fr ps A B) :: R) fun e l2 H2 => match e with
      | .normal => ∃ q' H3, H2.Perm ((Lp, .loop 0 q' fr ps A B) :: H3) ∧ CodeT (cx B0 old) (ahand (cx B0 old) ansP n) true nt B l2 ((Lp, .loop 1 q' fr ps A B) :: H3) fun e l3 H4 => rndΦ Lp fr ps A B (RndP Lp fr ps A B (St (i + pcSz (b.drop i))) SR) e H4
      | _ => False)
    (hQ : ∀ R v, St b.length R → Q v ((Lp, .loop 0 none fr ps A B) :: R)) (hQr : ∀ e R v, SR e R → Q v ((Lp, .loop 2 (some e) fr ps A B) :: R)) :
    CallT (cx B0 old) (acall (cx B0 old) ansP (n + 2)) 121 [.func (.yield Lp) #[] #[], .pointer (some ⟨b2, 0, none⟩)] ((Lp, .loop 0 none fr ps A B) :: R0) Q := by
  obtain ⟨⟨ad, c, e⟩, hb⟩ := hb
  subst e
  refine call_in2 34 rfl Try.func121 rfl rfl ?_
  repeat (first | refine Z0 ?_ | (refine ZR ?_; first | refine x1 ?_ | refine x2 ?_ | refine x8 ?_ | refine Z1 ?_ | refine Z2 ?_ | refine x3 fun _ => ?_ | refine x4 fun _ => ?_ | refine x5 fun _ => ?_ | refine Z3 fun _ => ?_ | refine Z4 fun _ => ?_) | refine Za ?_ | refine Zb ?_ | refine Zl ?_ | refine Zc ?_ | refine Ze ?_ | refine Zi ?_ | refine Zj ?_ | refine Zf ?_ | refine Zg ?_ | refine Zm ?_ | refine Zn ?_ | refine Zo ?_ | refine Zp ?_ | refine Zq ?_ | refine Zr ?_ | refine Zk ?_)
  refine loop_ind (ι := Nat × Hp) (0, R0) (fun i => b.length - i.1) (fun i => i.1 ≤ b.length ∧ St i.1 i.2)
    (fun i => [(3, .int .i64 (i.1 : Int)), (0, .func (.yield Lp) #[] #[]), (1, .pointer (some ⟨b2, 0, none⟩))])
    (fun i => (Lp, .loop 0 none fr ps A B) :: i.2) ⟨Nat.zero_le _, h0⟩ (by repeat (first | exact SubL.nil | refine SubL.cons rfl ?_)) (by exact drop_auto) ?_
  rintro ⟨i, R⟩ ⟨hi, hs⟩
  simp only at hi hs ⊢
  obtain ⟨g1, g2⟩ := hst i R hs
  have hL2 : ∀ H', R.Sublist H' → LdT (cx B0 old) 34 H' b2 0 (.slice ad b.length c) := fun H' hs => ld1 (.own _ _ (hs.subset g2)) rfl (sz rfl) rfl
  repeat (first | refine Z0 ?_ | (refine ZR ?_; first | refine x1 ?_ | refine x2 ?_ | refine x8 ?_ | refine Z1 ?_ | refine Z2 ?_ | refine x3 fun _ => ?_ | refine x4 fun _ => ?_ | refine x5 fun _ => ?_ | refine Z3 fun _ => ?_ | refine Z4 fun _ => ?_) | refine Za ?_ | refine Zb ?_ | refine Zl ?_ | refine Zc ?_ | refine Ze ?_ | refine Zi ?_ | refine Zj ?_ | refine Zf ?_ | refine Zg ?_ | refine Zm ?_ | refine Zn ?_ | refine Zo ?_ | refine Zp ?_ | refine Zq ?_ | refine Zr ?_ | refine Zk ?_)
  refine ct_condT te_d rfl (fun hc => ?_) (fun hc => ?_)
  rotate_left
  · have : i = b.length := by omega
    subst this
    repeat (first | refine Z0 ?_ | (refine ZR ?_; first | refine x1 ?_ | refine x2 ?_ | refine x8 ?_ | refine Z1 ?_ | refine Z2 ?_ | refine x3 fun _ => ?_ | refine x4 fun _ => ?_ | refine x5 fun _ => ?_ | refine Z3 fun _ => ?_ | refine Z4 fun _ => ?_) | refine Za ?_ | refine Zb ?_ | refine Zl ?_ | refine Zc ?_ | refine Ze ?_ | refine Zi ?_ | refine Zj ?_ | refine Zf ?_ | refine Zg ?_ | refine Zm ?_ | refine Zn ?_ | refine Zo ?_ | refine Zp ?_ | refine Zq ?_ | refine Zr ?_ | refine Zk ?_)
    exact re_0 rfl (by exact drop_auto) (fun v => hQ R v hs)
  have hlt : i < b.length := by omega
  have hb := hb (fun e => by rw [e] at hlt; simp at hlt)
  obtain ⟨v2, e2, hv2⟩ := hb.part encY_len (t := 34) (e := 5) (lo := some (.int .i64 (i : Int))) (hi := none) i b.length rfl (sz rfl) (by omega) (Nat.le_refl _) (.inl (by simp [natOf])) (.inr ⟨rfl, rfl⟩)
  have eD : (b.drop i).take (b.length - i) = b.drop i := List.take_of_length_le (by rw [List.length_drop]; omega)
  rw [eD] at hv2
  have hround := hround i R none
  have hDl : (b.drop i).length = b.length - i := List.length_drop
  have hDy : ∀ y ∈ b.drop i, isY y := fun y hm => hy y (List.mem_of_mem_drop hm)
  have hDne : b.drop i ≠ [] := fun e => by rw [e] at hDl; simp at hDl; omega
  have hz1 := pcSz_pos hDne
  have hz2 := pcSz_le (b.drop i)
  have hzd : pcSz (b.drop i) = if 2 ≤ (b.drop i).length then min (b.drop i).length (2 + ((b.drop i).getD 1 0).toNat) else (b.drop i).length := rfl
  generalize b.drop i = D at *
  obtain ⟨ad3, c3, e3, ha3, _⟩ := hv2.arr
  subst e3
  repeat (first | refine Z0 ?_ | (refine ZR ?_; first | refine x1 ?_ | refine x2 ?_ | refine x8 ?_ | refine Z1 ?_ | refine Z2 ?_ | refine x3 fun _ => ?_ | refine x4 fun _ => ?_ | refine x5 fun _ => ?_ | refine Z3 fun _ => ?_ | refine Z4 fun _ => ?_) | refine Za ?_ | refine Zb ?_ | refine Zl ?_ | refine Zc ?_ | refine Ze ?_ | refine Zi ?_ | refine Zj ?_ | refine Zf ?_ | refine Zg ?_ | refine Zm ?_ | refine Zn ?_ | refine Zo ?_ | refine Zp ?_ | refine Zq ?_ | refine Zr ?_ | refine Zk ?_)
  apply rt_p rfl rfl rfl
  case hp => exact p_slc rfl rfl rfl e2
  repeat (first | refine Z0 ?_ | (refine ZR ?_; first | refine x1 ?_ | refine x2 ?_ | refine x8 ?_ | refine Z1 ?_ | refine Z2 ?_ | refine x3 fun _ => ?_ | refine x4 fun _ => ?_ | refine x5 fun _ => ?_ | refine Z3 fun _ => ?_ | refine Z4 fun _ => ?_) | refine Za ?_ | refine Zb ?_ | refine Zl ?_ | refine Zc ?_ | refine Ze ?_ | refine Zi ?_ | refine Zj ?_ | refine Zf ?_ | refine Zg ?_ | refine Zm ?_ | refine Zn ?_ | refine Zo ?_ | refine Zp ?_ | refine Zq ?_ | refine Zr ?_ | refine Zk ?_)
  refine ct_midE (ι := Unit) (fun _ => True) (fun _ => [(5, .int .i64 ((pcSz D : Nat) : Int)), (4, .slice ad3 D.length c3), (3, .int .i64 (i : Int)), (0, .func (.yield Lp) #[] #[]), (1, .pointer (some ⟨b2, 0, none⟩))]) (fun _ => (Lp, .loop 0 none fr ps A B) :: R) ?_ ?_
  · refine ct_condT te_d rfl (fun hg => ?_) (fun hg => ?_)
    · obtain ⟨q1, hq1⟩ : ∃ x, D[1]? = some x := ⟨_, List.getElem?_eq_getElem (by omega)⟩
      have wq := hDy q1 (List.mem_of_getElem? hq1)
      unfold isY at wq
      obtain ⟨b4, o4, e4, hL0⟩ := (((ha3.arr encY_len).weak g1).weak (List.sublist_cons_self (Lp, AObj.loop 0 none fr ps A B) R)).ld1 5 hq1 rfl rfl (sz rfl)
      subst e4
      repeat (first | refine Z0 ?_ | (refine ZR ?_; first | refine x1 ?_ | refine x2 ?_ | refine x8 ?_ | refine Z1 ?_ | refine Z2 ?_ | refine x3 fun _ => ?_ | refine x4 fun _ => ?_ | refine x5 fun _ => ?_ | refine Z3 fun _ => ?_ | refine Z4 fun _ => ?_) | refine Za ?_ | refine Zb ?_ | refine Zl ?_ | refine Zc ?_ | refine Ze ?_ | refine Zi ?_ | refine Zj ?_ | refine Zf ?_ | refine Zg ?_ | refine Zm ?_ | refine Zn ?_ | refine Zo ?_ | refine Zp ?_ | refine Zq ?_ | refine Zr ?_ | refine Zk ?_)
      rw [i64_i (show -9223372036854775808 ≤ q1 ∧ q1 < 9223372036854775808 by omega)]
      repeat (first | refine Z0 ?_ | (refine ZR ?_; first | refine x1 ?_ | refine x2 ?_ | refine x8 ?_ | refine Z1 ?_ | refine Z2 ?_ | refine x3 fun _ => ?_ | refine x4 fun _ => ?_ | refine x5 fun _ => ?_ | refine Z3 fun _ => ?_ | refine Z4 fun _ => ?_) | refine Za ?_ | refine Zb ?_ | refine Zl ?_ | refine Zc ?_ | refine Ze ?_ | refine Zi ?_ | refine Zj ?_ | refine Zf ?_ | refine Zg ?_ | refine Zm ?_ | refine Zn ?_ | refine Zo ?_ | refine Zp ?_ | refine Zq ?_ | refine Zr ?_ | refine Zk ?_)
      refine ⟨(), trivial, ?_, by exact drop_auto⟩
      have gq : D.getD 1 0 = q1 := by rw [List.getD_eq_getElem?_getD, hq1]; rfl
      have e1 : pcSz D = min D.length (2 + q1.toNat) := by rw [hzd, if_pos (show 2 ≤ D.length by omega), gq]
      have e : (if 2 + q1 < (D.length : Int) then 2 + q1 else (D.length : Int)) = ((pcSz D : Nat) : Int) := by
        clear hzd
        rw [e1]
        split <;> omega
      rw [← e, i64_i (show -9223372036854775808 ≤ 2 + q1 ∧ 2 + q1 < 9223372036854775808 by omega)]
      repeat (first | exact SubL.nil | refine SubL.cons rfl ?_)
    · repeat (first | refine Z0 ?_ | (refine ZR ?_; first | refine x1 ?_ | refine x2 ?_ | refine x8 ?_ | refine Z1 ?_ | refine Z2 ?_ | refine x3 fun _ => ?_ | refine x4 fun _ => ?_ | refine x5 fun _ => ?_ | refine Z3 fun _ => ?_ | refine Z4 fun _ => ?_) | refine Za ?_ | refine Zb ?_ | refine Zl ?_ | refine Zc ?_ | refine Ze ?_ | refine Zi ?_ | refine Zj ?_ | refine Zf ?_ | refine Zg ?_ | refine Zm ?_ | refine Zn ?_ | refine Zo ?_ | refine Zp ?_ | refine Zq ?_ | refine Zr ?_ | refine Zk ?_)
      refine ⟨(), trivial, ?_, by exact drop_auto⟩
      rw [hzd, if_neg (by omega)]
      repeat (first | exact SubL.nil | refine SubL.cons rfl ?_)
  intro _ _
  obtain ⟨v5, e5, hv5⟩ := hv2.part encY_len (t := 34) (e := 5) (lo := none) (hi := some (.int .i64 ((pcSz D : Nat) : Int))) 0 (pcSz D) rfl (sz rfl) (by omega) hz2 (.inr ⟨rfl, rfl⟩) (.inl (by simp [natOf]))
  rw [List.drop_zero, Nat.sub_zero] at hv5
  have hround := hround v5 hlt hs hv5
  repeat (first | refine Z0 ?_ | (refine ZR ?_; first | refine x1 ?_ | refine x2 ?_ | refine x8 ?_ | refine Z1 ?_ | refine Z2 ?_ | refine x3 fun _ => ?_ | refine x4 fun _ => ?_ | refine x5 fun _ => ?_ | refine Z3 fun _ => ?_ | refine Z4 fun _ => ?_) | refine Za ?_ | refine Zb ?_ | refine Zl ?_ | refine Zc ?_ | refine Ze ?_ | refine Zi ?_ | refine Zj ?_ | refine Zf ?_ | refine Zg ?_ | refine Zm ?_ | refine Zn ?_ | refine Zo ?_ | refine Zp ?_ | refine Zq ?_ | refine Zr ?_ | refine Zk ?_)
  apply rt_p rfl rfl rfl
  case hp => exact p_slc rfl rfl rfl e5
  refine rt_step rfl rfl rfl (st_yield (q := none) rfl rfl rfl (by rw [hps]; rfl) (List.Perm.refl _) hfr (hround.mono ?_))
  intro e l2 H2 h
  cases e with
  | exit j => exact h
  | ret => exact h
  | normal =>
    obtain ⟨q', H3, hp, h⟩ := h
    refine ⟨q', H3, hp, h.mono fun e l3 H4 h => ?_⟩
    obtain ⟨st, q2, H5, hp2, h⟩ := h
    refine ⟨st, q2, H5, hp2, ?_⟩
    cases e with
    | normal =>
      rcases h with ⟨_, R', hs', hsub⟩ | ⟨hf, _⟩
      · repeat (first | refine Z0 ?_ | (refine ZR ?_; first | refine x1 ?_ | refine x2 ?_ | refine x8 ?_ | refine Z1 ?_ | refine Z2 ?_ | refine x3 fun _ => ?_ | refine x4 fun _ => ?_ | refine x5 fun _ => ?_ | refine Z3 fun _ => ?_ | refine Z4 fun _ => ?_) | refine Za ?_ | refine Zb ?_ | refine Zl ?_ | refine Zc ?_ | refine Ze ?_ | refine Zi ?_ | refine Zj ?_ | refine Zf ?_ | refine Zg ?_ | refine Zm ?_ | refine Zn ?_ | refine Zo ?_ | refine Zp ?_ | refine Zq ?_ | refine Zr ?_ | refine Zk ?_)
        exact ⟨(i + pcSz D, R'), ⟨by omega, hs'⟩, by dsimp only; omega, by repeat (first | exact SubL.nil | refine SubL.cons rfl ?_), hsub⟩
      · cases hf
    | exit j =>
      rcases h with ⟨hf, _⟩ | ⟨_, e2, R', hs', hsub⟩
      · cases hf
      · repeat (first | refine Z0 ?_ | (refine ZR ?_; first | refine x1 ?_ | refine x2 ?_ | refine x8 ?_ | refine Z1 ?_ | refine Z2 ?_ | refine x3 fun _ => ?_ | refine x4 fun _ => ?_ | refine x5 fun _ => ?_ | refine Z3 fun _ => ?_ | refine Z4 fun _ => ?_) | refine Za ?_ | refine Zb ?_ | refine Zl ?_ | refine Zc ?_ | refine Ze ?_ | refine Zi ?_ | refine Zj ?_ | refine Zf ?_ | refine Zg ?_ | refine Zm ?_ | refine Zn ?_ | refine Zo ?_ | refine Zp ?_ | refine Zq ?_ | refine Zr ?_ | refine Zk ?_)
        exact re_0r rfl hsub (fun v => hQr _ R' v hs')
    | ret =>
      rcases h with ⟨hf, _⟩ | ⟨_, e2, R', hs', hsub⟩
      · cases hf
      · repeat (first | refine Z0 ?_ | (refine ZR ?_; first | refine x1 ?_ | refine x2 ?_ | refine x8 ?_ | refine Z1 ?_ | refine Z2 ?_ | refine x3 fun _ => ?_ | refine x4 fun _ => ?_ | refine x5 fun _ => ?_ | refine Z3 fun _ => ?_ | refine Z4 fun _ => ?_) | refine Za ?_ | refine Zb ?_ | refine Zl ?_ | refine Zc ?_ | refine Ze ?_ | refine Zi ?_ | refine Zj ?_ | refine Zf ?_ | refine Zg ?_ | refine Zm ?_ | refine Zn ?_ | refine Zo ?_ | refine Zp ?_ | refine Zq ?_ | refine Zr ?_ | refine Zk ?_)
        exact re_0r rfl hsub (fun v => hQr _ R' v hs')
end
end Go.Proofs.Ytjdppdoakbojcaa.Abs

/- The program's Read of routes. -/
namespace Go.Proofs.Ytjdppdoakbojcaa.Abs
open Go
set_option linter.unusedVariables false
theorem pmA {a l : Nat × AObj} {R : Hp} : (a :: l :: R).Perm (l :: a :: R) := List.Perm.swap _ _ _
theorem pmB {a c l : Nat × AObj} {R : Hp} : (a :: c :: l :: R).Perm (l :: a :: c :: R) := (List.Perm.cons a (List.Perm.swap _ _ _)).trans (List.Perm.swap _ _ _)
section
variable {B0 : Nat} {old : Nat → Option (List Value)} {n : Nat} {H Hs : Hp} {Q : Value → Hp → Prop} {bv : Value} {b : List Int}
set_option maxRecDepth 10000
set_option maxHeartbeats 8000000
theorem read47_ct (hb : CutA (cx B0 old) H encY 1 b bv) (hy : ∀ y ∈ b, isY y) (hl : b.length ≤ 1000)
    (hQ : ∀ v G, Own en60 21 (nlRd b).1 v G → Q (.tuple #[v, .agg ⟨[.int .i64 (nlRd b).2.1, .int .i64 (nlRd b).2.2]⟩]) (G ++ H)) :
    CallT (cx B0 old) (acall (cx B0 old) ansP (n + 12)) 47 [bv] H Q := by
  obtain ⟨⟨ad, c, e⟩, _⟩ := id hb
  subst e
  refine call_inM 37 rfl Try.func47 rfl rfl ?_
  refine cm_seq (cm_code ?_)
  repeat (first | refine Z0 ?_ | (refine ZR ?_; first | refine x1 ?_ | refine x2 ?_ | refine x8 ?_ | refine Z1 ?_ | refine Z2 ?_ | refine x3 fun _ => ?_ | refine x4 fun _ => ?_ | refine x5 fun _ => ?_ | refine Z3 fun _ => ?_ | refine Z4 fun _ => ?_) | refine Za ?_ | refine Zb ?_ | refine Zl ?_ | refine Zc ?_ | refine Ze ?_ | refine Zi ?_ | refine Zj ?_ | refine Zf ?_ | refine Zg ?_ | refine Zm ?_ | refine Zn ?_ | refine Zo ?_ | refine Zp ?_ | refine Zq ?_ | refine Zr ?_ | refine Zk ?_)
  rename_i c2 c3
  refine cm_seq (cm_code ?_)
  repeat (first | refine Z0 ?_ | (refine ZR ?_; first | refine x1 ?_ | refine x2 ?_ | refine x8 ?_ | refine Z1 ?_ | refine Z2 ?_ | refine x3 fun _ => ?_ | refine x4 fun _ => ?_ | refine x5 fun _ => ?_ | refine Z3 fun _ => ?_ | refine Z4 fun _ => ?_) | refine Za ?_ | refine Zb ?_ | refine Zl ?_ | refine Zc ?_ | refine Ze ?_ | refine Zi ?_ | refine Zj ?_ | refine Zf ?_ | refine Zg ?_ | refine Zm ?_ | refine Zn ?_ | refine Zo ?_ | refine Zp ?_ | refine Zq ?_ | refine Zr ?_ | refine Zk ?_)
  rename_i c4
  refine cm_seq (cm_code ?_)
  repeat (first | refine Z0 ?_ | (refine ZR ?_; first | refine x1 ?_ | refine x2 ?_ | refine x8 ?_ | refine Z1 ?_ | refine Z2 ?_ | refine x3 fun _ => ?_ | refine x4 fun _ => ?_ | refine x5 fun _ => ?_ | refine Z3 fun _ => ?_ | refine Z4 fun _ => ?_) | refine Za ?_ | refine Zb ?_ | refine Zl ?_ | refine Zc ?_ | refine Ze ?_ | refine Zi ?_ | refine Zj ?_ | refine Zf ?_ | refine Zg ?_ | refine Zm ?_ | refine Zn ?_ | refine Zo ?_ | refine Zp ?_ | refine Zq ?_ | refine Zr ?_ | refine Zk ?_)
  refine rt_step rfl rfl rfl (st_call rfl rfl rfl rfl (codecs81_ct fun mb => ?_))
  repeat (first | refine Z0 ?_ | (refine ZR ?_; first | refine x1 ?_ | refine x2 ?_ | refine x8 ?_ | refine Z1 ?_ | refine Z2 ?_ | refine x3 fun _ => ?_ | refine x4 fun _ => ?_ | refine x5 fun _ => ?_ | refine Z3 fun _ => ?_ | refine Z4 fun _ => ?_) | refine Za ?_ | refine Zb ?_ | refine Zl ?_ | refine Zc ?_ | refine Ze ?_ | refine Zi ?_ | refine Zj ?_ | refine Zf ?_ | refine Zg ?_ | refine Zm ?_ | refine Zn ?_ | refine Zo ?_ | refine Zp ?_ | refine Zq ?_ | refine Zr ?_ | refine Zk ?_)
  rename_i c5
  refine cm_seq (cm_seq (cm_code ?_))
  repeat (first | refine Z0 ?_ | (refine ZR ?_; first | refine x1 ?_ | refine x2 ?_ | refine x8 ?_ | refine Z1 ?_ | refine Z2 ?_ | refine x3 fun _ => ?_ | refine x4 fun _ => ?_ | refine x5 fun _ => ?_ | refine Z3 fun _ => ?_ | refine Z4 fun _ => ?_) | refine Za ?_ | refine Zb ?_ | refine Zl ?_ | refine Zc ?_ | refine Ze ?_ | refine Zi ?_ | refine Zj ?_ | refine Zf ?_ | refine Zg ?_ | refine Zm ?_ | refine Zn ?_ | refine Zo ?_ | refine Zp ?_ | refine Zq ?_ | refine Zr ?_ | refine Zk ?_)
  refine rt_step rfl rfl rfl (st_call rfl rfl rfl rfl (pieces92_ct (fun b2 => ?_) (hb.weak (by exact drop_auto))))
  repeat (first | refine Z0 ?_ | (refine ZR ?_; first | refine x1 ?_ | refine x2 ?_ | refine x8 ?_ | refine Z1 ?_ | refine Z2 ?_ | refine x3 fun _ => ?_ | refine x4 fun _ => ?_ | refine x5 fun _ => ?_ | refine Z3 fun _ => ?_ | refine Z4 fun _ => ?_) | refine Za ?_ | refine Zb ?_ | refine Zl ?_ | refine Zc ?_ | refine Ze ?_ | refine Zi ?_ | refine Zj ?_ | refine Zf ?_ | refine Zg ?_ | refine Zm ?_ | refine Zn ?_ | refine Zo ?_ | refine Zp ?_ | refine Zq ?_ | refine Zr ?_ | refine Zk ?_)
  refine cm_block (cm_range rfl rfl ?_)
  intro m fr hfr
  refine pcs121_ct (n := n + 9) (b := b) (bv := .slice ad b.length c) (H := H) b2 (m + 1) 37 _ fr _ _ _
    (fun i R => ∃ acc v G, Own en60 21 acc v G ∧ acc.length ≤ i ∧ nlR ((b.drop i).length + 1) (b.drop i) i acc = nlRd b ∧ R = (m, .dblk) :: (b2, .row [.slice ad b.length c] 1 false) :: (c5, .row [.map (some mb)] 1 false) :: (mb, .map (cdE 5) 5) :: (c4, .row [v] 1 false) :: (c3, .row [.int .i64 0, .int .i64 0] 2 false) :: (c2, .row [.slice none 0 0] 1 false) :: (G ++ H))
    (fun e R => e = .ret ∧ ∃ er at', nlRd b = ([], er, at') ∧ R = (m, .dblk) :: (c3, .row [.int .i64 er, .int .i64 at'] 2 false) :: (c2, .row [.slice none 0 0] 1 false) :: H) _ rfl hfr hb hy hl ?_ ?_ ?_ ?_ ?_
  · rintro i R ⟨acc, v, G, ho, hal, hnl, rfl⟩
    exact ⟨by exact drop_auto, by exact in_auto⟩
  · exact ⟨[], _, _, Own.nil, Nat.le_refl _, rfl, rfl⟩
  · rintro i R q pv hlt ⟨acc, v, G, ho, hal, hnl, rfl⟩ hpv
    obtain ⟨ad4, c4', e4, _⟩ := ho.arrW (C := cx B0 old) en60_len
    subst e4
    have hDl : (b.drop i).length = b.length - i := List.length_drop
    have hDne : b.drop i ≠ [] := fun e => by rw [e] at hDl; simp at hDl; omega
    have hstep := nlR_step (r := b.drop i) (i := i) (acc := acc) hDne
    rw [hnl] at hstep
    have hpy : ∀ y ∈ (b.drop i).take (pcSz (b.drop i)), isY y := fun y hm => hy y (List.mem_of_mem_drop (List.mem_of_mem_take hm))
    have hpl : ((b.drop i).take (pcSz (b.drop i))).length ≤ 1000 := by rw [List.length_take]; omega
    have hz1 := pcSz_pos hDne
    have hz2 := pcSz_le (b.drop i)
    have hdd : (b.drop i).drop (pcSz (b.drop i)) = b.drop (i + pcSz (b.drop i)) := List.drop_drop
    rw [hdd] at hstep
    repeat (first | refine Z0 ?_ | (refine ZR ?_; first | refine x1 ?_ | refine x2 ?_ | refine x8 ?_ | refine Z1 ?_ | refine Z2 ?_ | refine x3 fun _ => ?_ | refine x4 fun _ => ?_ | refine x5 fun _ => ?_ | refine Z3 fun _ => ?_ | refine Z4 fun _ => ?_) | refine Za ?_ | refine Zb ?_ | refine Zl ?_ | refine Zc ?_ | refine Ze ?_ | refine Zi ?_ | refine Zj ?_ | refine Zf ?_ | refine Zg ?_ | refine Zm ?_ | refine Zn ?_ | refine Zo ?_ | refine Zp ?_ | refine Zq ?_ | refine Zr ?_ | refine Zk ?_)
    refine ⟨q, _, List.Perm.refl _, ?_⟩
    repeat (first | refine Z0 ?_ | (refine ZR ?_; first | refine x1 ?_ | refine x2 ?_ | refine x8 ?_ | refine Z1 ?_ | refine Z2 ?_ | refine x3 fun _ => ?_ | refine x4 fun _ => ?_ | refine x5 fun _ => ?_ | refine Z3 fun _ => ?_ | refine Z4 fun _ => ?_) | refine Za ?_ | refine Zb ?_ | refine Zl ?_ | refine Zc ?_ | refine Ze ?_ | refine Zi ?_ | refine Zj ?_ | refine Zf ?_ | refine Zg ?_ | refine Zm ?_ | refine Zn ?_ | refine Zo ?_ | refine Zp ?_ | refine Zq ?_ | refine Zr ?_ | refine Zk ?_)
    refine ct_condT te_e rfl (fun hg => ?_) (fun hg => ?_)
    · exfalso; omega
    repeat (first | refine Z0 ?_ | (refine ZR ?_; first | refine x1 ?_ | refine x2 ?_ | refine x8 ?_ | refine Z1 ?_ | refine Z2 ?_ | refine x3 fun _ => ?_ | refine x4 fun _ => ?_ | refine x5 fun _ => ?_ | refine Z3 fun _ => ?_ | refine Z4 fun _ => ?_) | refine Za ?_ | refine Zb ?_ | refine Zl ?_ | refine Zc ?_ | refine Ze ?_ | refine Zi ?_ | refine Zj ?_ | refine Zf ?_ | refine Zg ?_ | refine Zm ?_ | refine Zn ?_ | refine Zo ?_ | refine Zp ?_ | refine Zq ?_ | refine Zr ?_ | refine Zk ?_)
    refine rt_step rfl rfl rfl (st_call rfl rfl rfl rfl (decode93_ct (hpv.weak (by exact drop_auto)) hpy hpl (by exact in_auto) ?_))
    generalize dcR ((b.drop i).take (pcSz (b.drop i))) = d at *
    obtain ⟨x, er⟩ := d
    dsimp only at hstep ⊢
    unfold en60
    repeat (first | refine Z0 ?_ | (refine ZR ?_; first | refine x1 ?_ | refine x2 ?_ | refine x8 ?_ | refine Z1 ?_ | refine Z2 ?_ | refine x3 fun _ => ?_ | refine x4 fun _ => ?_ | refine x5 fun _ => ?_ | refine Z3 fun _ => ?_ | refine Z4 fun _ => ?_) | refine Za ?_ | refine Zb ?_ | refine Zl ?_ | refine Zc ?_ | refine Ze ?_ | refine Zi ?_ | refine Zj ?_ | refine Zf ?_ | refine Zg ?_ | refine Zm ?_ | refine Zn ?_ | refine Zo ?_ | refine Zp ?_ | refine Zq ?_ | refine Zr ?_ | refine Zk ?_)
    refine ct_condT te_ne rfl (fun hd => ?_) (fun hd => ?_)
    · rw [if_pos hd] at hstep
      repeat (first | refine Z0 ?_ | (refine ZR ?_; first | refine x1 ?_ | refine x2 ?_ | refine x8 ?_ | refine Z1 ?_ | refine Z2 ?_ | refine x3 fun _ => ?_ | refine x4 fun _ => ?_ | refine x5 fun _ => ?_ | refine Z3 fun _ => ?_ | refine Z4 fun _ => ?_) | refine Za ?_ | refine Zb ?_ | refine Zl ?_ | refine Zc ?_ | refine Ze ?_ | refine Zi ?_ | refine Zj ?_ | refine Zf ?_ | refine Zg ?_ | refine Zm ?_ | refine Zn ?_ | refine Zo ?_ | refine Zp ?_ | refine Zq ?_ | refine Zr ?_ | refine Zk ?_)
      unfold rndΦ RndP
      exact ⟨1, q, _, pmA, .inr ⟨rfl, _, _, ⟨rfl, er, i, hstep, rfl⟩, by exact drop_auto⟩⟩
    · rw [if_neg (fun g => g hd)] at hstep
      repeat (first | refine Z0 ?_ | (refine ZR ?_; first | refine x1 ?_ | refine x2 ?_ | refine x8 ?_ | refine Z1 ?_ | refine Z2 ?_ | refine x3 fun _ => ?_ | refine x4 fun _ => ?_ | refine x5 fun _ => ?_ | refine Z3 fun _ => ?_ | refine Z4 fun _ => ?_) | refine Za ?_ | refine Zb ?_ | refine Zl ?_ | refine Zc ?_ | refine Ze ?_ | refine Zi ?_ | refine Zj ?_ | refine Zf ?_ | refine Zg ?_ | refine Zm ?_ | refine Zn ?_ | refine Zo ?_ | refine Zp ?_ | refine Zq ?_ | refine Zr ?_ | refine Zk ?_)
      refine rt_step rfl rfl rfl (st_appP (M := [x]) (c := 1) (pre := [_, _, _, _, _, _, _, _, _, _]) ho en60_len en60_one rfl rfl (ap rfl) (arrW_one en60_len hm0) (Nat.le_trans (Nat.mul_le_mul_right _ (show 2 * (acc.length + [x].length) + 192 ≤ 4000 by simp only [List.length_singleton]; omega)) (by decide)) fun v1 G1 o1 => ?_)
      obtain ⟨ad5, c5', e5, _⟩ := o1.arrW (C := cx B0 old) en60_len
      subst e5
      repeat (first | refine Z0 ?_ | (refine ZR ?_; first | refine x1 ?_ | refine x2 ?_ | refine x8 ?_ | refine Z1 ?_ | refine Z2 ?_ | refine x3 fun _ => ?_ | refine x4 fun _ => ?_ | refine x5 fun _ => ?_ | refine Z3 fun _ => ?_ | refine Z4 fun _ => ?_) | refine Za ?_ | refine Zb ?_ | refine Zl ?_ | refine Zc ?_ | refine Ze ?_ | refine Zi ?_ | refine Zj ?_ | refine Zf ?_ | refine Zg ?_ | refine Zm ?_ | refine Zn ?_ | refine Zo ?_ | refine Zp ?_ | refine Zq ?_ | refine Zr ?_ | refine Zk ?_)
      unfold rndΦ RndP
      exact ⟨1, q, _, pmB, .inl ⟨rfl, _, ⟨_, _, _, o1, by simp only [List.length_append, List.length_singleton]; omega, hstep.symm, rfl⟩, by exact drop_auto⟩⟩
  · rintro R v ⟨acc, v', G, ho, hal, hnl, rfl⟩
    obtain ⟨ad4, c4', e4, _⟩ := ho.arrW (C := cx B0 old) en60_len
    subst e4
    rw [List.drop_length] at hnl
    have hnl : (acc, (0 : Int), (0 : Int)) = nlRd b := hnl
    rw [← hnl] at hQ
    refine ⟨0, none, _, List.Perm.refl _, rfl, ?_⟩
    refine cm_code ?_
    repeat (first | refine Z0 ?_ | (refine ZR ?_; first | refine x1 ?_ | refine x2 ?_ | refine x8 ?_ | refine Z1 ?_ | refine Z2 ?_ | refine x3 fun _ => ?_ | refine x4 fun _ => ?_ | refine x5 fun _ => ?_ | refine Z3 fun _ => ?_ | refine Z4 fun _ => ?_) | refine Za ?_ | refine Zb ?_ | refine Zl ?_ | refine Zc ?_ | refine Ze ?_ | refine Zi ?_ | refine Zj ?_ | refine Zf ?_ | refine Zg ?_ | refine Zm ?_ | refine Zn ?_ | refine Zo ?_ | refine Zp ?_ | refine Zq ?_ | refine Zr ?_ | refine Zk ?_)
    refine lv_one (List.Perm.refl _) ⟨G ++ H, by exact drop_auto, ?_⟩
    exact res_cell rfl (.own _ _ hm5) rfl (sz rfl) rfl rfl (res_cell rfl (.own _ _ hm4) rfl (sz rfl) rfl rfl (res_nil (hQ _ _ ho)))
  · rintro e R v ⟨rfl, er, at', hnl, rfl⟩
    rw [hnl] at hQ
    refine ⟨2, some .ret, _, List.Perm.refl _, rfl, ?_⟩
    refine lv_one (List.Perm.refl _) ⟨[] ++ H, List.Sublist.cons _ (List.Sublist.cons _ (List.Sublist.refl _)), ?_⟩
    exact res_cell rfl (.own _ _ hm1) rfl (sz rfl) rfl rfl (res_cell rfl (.own _ _ hm0) rfl (sz rfl) rfl rfl (res_nil (hQ _ _ Own.nil)))
end
end Go.Proofs.Ytjdppdoakbojcaa.Abs
