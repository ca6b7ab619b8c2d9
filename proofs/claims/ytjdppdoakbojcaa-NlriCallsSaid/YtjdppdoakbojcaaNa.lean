/- Frames and their bytes, in plain Lean. -/
import Derived.Test.YtjdppdoakbojcaaBy
import Derived.Test.YtjdppdoakbojcaaStr
import Derived.Test.YtjdppdoakbojcaaAd
import Derived.Test.YtjdppdoakbojcaaSep15
namespace Go.Proofs.Ytjdppdoakbojcaa.Abs
open Go
set_option linter.unusedVariables false
/-- The number in some bytes. -/
def num (L : List Int) : Nat := L.foldl (fun a x => a * 256 + x.toNat) 0
theorem num_from (L : List Int) : ∀ a : Nat, L.foldl (fun a x => a * 256 + x.toNat) a = a * 256 ^ L.length + num L := by
  induction L with
  | nil => intro a; simp [num]
  | cons x L ih =>
    intro a
    have h : num (x :: L) = (0 * 256 + x.toNat) * 256 ^ L.length + num L := ih _
    rw [List.foldl_cons, ih, h, List.length_cons, Nat.pow_succ, Nat.add_mul, Nat.zero_mul, Nat.zero_add, Nat.mul_assoc a, Nat.mul_comm 256]
    omega
theorem num_cons (x : Int) (L : List Int) : num (x :: L) = x.toNat * 256 ^ L.length + num L := by
  rw [num, List.foldl_cons, num_from, Nat.zero_mul, Nat.zero_add]
theorem num_snoc (L : List Int) (x : Int) : num (L ++ [x]) = num L * 256 + x.toNat := by
  rw [num, List.foldl_append]; rfl
theorem num_be (x : Nat) : ∀ k, num (be x k) = x % 256 ^ k
  | 0 => by rw [be, Nat.pow_zero, Nat.mod_one]; rfl
  | k + 1 => by
    rw [be, num_cons, num_be x k, be_len, Int.toNat_natCast, Nat.pow_succ, Nat.mod_mul]
    rw [Nat.mul_comm (256 ^ k)]; omega
theorem num_bei {x : Int} {k : Nat} (h0 : 0 ≤ x) (h : x < 256 ^ k) : ((num (be x.toNat k) : Nat) : Int) = x := by
  obtain ⟨n, rfl⟩ := Int.eq_ofNat_of_zero_le h0
  rw [Int.toNat_natCast, num_be, Nat.mod_eq_of_lt (by rw [show (256 : Int) ^ k = ((256 ^ k : Nat) : Int) from (Int.natCast_pow 256 k).symm] at h; exact Int.ofNat_lt.1 h)]
theorem num_lt {L : List Int} (h : ∀ y ∈ L, isY y) : num L < 256 ^ L.length := by
  induction L with
  | nil => exact Nat.one_pos
  | cons x L ih =>
    have hx := h x (List.mem_cons_self ..)
    have := ih fun y hy => h y (List.mem_cons_of_mem _ hy)
    rw [num_cons, List.length_cons, Nat.pow_succ]
    unfold isY at hx
    have h1 : x.toNat ≤ 255 := by omega
    have := Nat.mul_le_mul_right (256 ^ L.length) h1
    omega
theorem be_mod (x : Nat) : ∀ k m, be (x + m * 256 ^ k) k = be x k
  | 0, m => rfl
  | k + 1, m => by
    have e : x + m * 256 ^ (k + 1) = x + (m * 256) * 256 ^ k := by rw [Nat.pow_succ, Nat.mul_comm (256 ^ k), Nat.mul_assoc]
    rw [be, be, e, be_mod x k (m * 256), Nat.add_mul_div_right _ _ (Nat.pow_pos (by decide))]
    congr 2
    omega
theorem be_num {L : List Int} (h : ∀ y ∈ L, isY y) : be (num L) L.length = L := by
  induction L with
  | nil => rfl
  | cons x L ih =>
    have hx := h x (List.mem_cons_self ..)
    have hL : ∀ y ∈ L, isY y := fun y hy => h y (List.mem_cons_of_mem _ hy)
    have hl := num_lt hL
    rw [List.length_cons, be, num_cons, Nat.add_comm, be_mod, ih hL, Nat.add_mul_div_right _ _ (Nat.pow_pos (by decide)), Nat.div_eq_of_lt hl]
    unfold isY at hx
    congr 1
    omega
theorem be_inj {x y k : Nat} (hx : x < 256 ^ k) (hy : y < 256 ^ k) (h : be x k = be y k) : x = y := by
  have := congrArg num h
  rwa [num_be, num_be, Nat.mod_eq_of_lt hx, Nat.mod_eq_of_lt hy] at this
/-- Some elements from a place on. -/
def sub (L : List Int) (i k : Nat) : List Int := (L.drop i).take k
theorem sub_len {L : List Int} {i k : Nat} (h : i + k ≤ L.length) : (sub L i k).length = k := by
  unfold sub; rw [List.length_take, List.length_drop]; omega
theorem sub_l {A B : List Int} {i k : Nat} (h : i + k ≤ A.length) : sub (A ++ B) i k = sub A i k := by
  unfold sub
  rw [List.drop_append_of_le_length (by omega), List.take_append_of_le_length (by rw [List.length_drop]; omega)]
theorem sub_r {A B : List Int} {i k : Nat} (h : A.length ≤ i) : sub (A ++ B) i k = sub B (i - A.length) k := by
  unfold sub
  rw [List.drop_append, List.drop_eq_nil_of_le h, List.nil_append]
theorem sub_e {A : List Int} {k : Nat} (h : A.length = k) : sub A 0 k = A := by
  unfold sub; rw [List.drop_zero, ← h, List.take_length]
theorem sub_mem {L : List Int} {i k : Nat} {y : Int} (h : y ∈ sub L i k) : y ∈ L := List.mem_of_mem_drop (List.mem_of_mem_take h)
theorem sub_take {L : List Int} {c i k : Nat} (h : i + k ≤ c) : sub (L.take c) i k = sub L i k := by
  unfold sub
  rw [List.drop_take, List.take_take, Nat.min_eq_left (by omega)]

/-! ### Checksums -/
def sumW : List Int → Nat
  | [] => 0
  | [a] => a.toNat * 256
  | a :: b :: r => a.toNat * 256 + b.toNat + sumW r
theorem sumW_snoc : ∀ (L : List Int) (x : Int), sumW (L ++ [x]) = sumW L + (if L.length % 2 = 0 then x.toNat * 256 else x.toNat)
  | [], x => by simp [sumW]
  | [a], x => by simp [sumW]
  | a :: b :: r, x => by
    have := sumW_snoc r x
    simp only [List.cons_append, sumW, this, List.length_cons]
    split <;> split <;> omega
theorem sumW_app : ∀ (A B : List Int), A.length % 2 = 0 → sumW (A ++ B) = sumW A + sumW B
  | [], B, _ => by simp [sumW]
  | [a], B, h => by simp at h
  | a :: b :: r, B, h => by
    have := sumW_app r B (by simp only [List.length_cons] at h; omega)
    simp only [List.cons_append, sumW, this]; omega
theorem sumW_set : ∀ (L : List Int) (i : Nat) (x v : Int), L[i]? = some x → sumW (L.set i v) + (if i % 2 = 0 then x.toNat * 256 else x.toNat) = sumW L + (if i % 2 = 0 then v.toNat * 256 else v.toNat)
  | [], i, x, v, h => by simp at h
  | [a], 0, x, v, h => by simp at h; subst h; simp [sumW]; omega
  | [a], i + 1, x, v, h => by simp at h
  | a :: b :: r, 0, x, v, h => by simp at h; subst h; simp [sumW]; omega
  | a :: b :: r, 1, x, v, h => by simp at h; subst h; simp [sumW]; omega
  | a :: b :: r, i + 2, x, v, h => by
    have := sumW_set r i x v (by simpa using h)
    simp only [List.set_cons_succ, sumW, show (i + 2) % 2 = i % 2 by omega]; omega
def foldS (s : Nat) : Nat := if h : s ≤ 65535 then s else foldS (s / 65536 + s % 65536)
termination_by s
decreasing_by omega
theorem foldS_le (s : Nat) : foldS s ≤ 65535 := by
  induction s using Nat.strongRecOn with
  | ind s ih =>
    unfold foldS
    split
    · assumption
    · exact ih _ (by omega)
theorem foldS_mod (s : Nat) : foldS s % 65535 = s % 65535 := by
  induction s using Nat.strongRecOn with
  | ind s ih =>
    unfold foldS
    split
    · rfl
    · rw [ih _ (by omega)]; omega
theorem foldS_pos (s : Nat) (h : 0 < s) : 0 < foldS s := by
  induction s using Nat.strongRecOn with
  | ind s ih =>
    unfold foldS
    split
    · exact h
    · exact ih _ (by omega) (by omega)
theorem foldS_step {s : Nat} (h : ¬ s ≤ 65535) : foldS s = foldS (s / 65536 + s % 65536) := by rw [foldS, dif_neg h]
theorem foldS_end {s : Nat} (h : s ≤ 65535) : foldS s = s := by rw [foldS, dif_pos h]
/-- The checksum of bytes. -/
def ck (L : List Int) : Nat := 65535 - foldS (sumW L)
theorem ck_lt (L : List Int) : ck L < 65536 := by unfold ck; omega
theorem ck_zero {L : List Int} (h : 0 < sumW L) : ck L = 0 ↔ sumW L % 65535 = 0 := by
  have h1 := foldS_le (sumW L)
  have h2 := foldS_mod (sumW L)
  have h3 := foldS_pos _ h
  unfold ck
  omega
theorem sumW_be2 (x : Nat) (h : x < 65536) : sumW (be x 2) = x := by
  simp only [be, sumW, Nat.pow_one, Nat.pow_zero, Nat.div_one, Int.toNat_natCast]; omega

/-! ### Frames -/
def ported (p : Int) : Bool := p == 6 || p == 17
/-- An IPv4 header. -/
def ipH (size ttl proto sum src dst : Nat) : List Int := be 17664 2 ++ (be size 2 ++ (be 0 4 ++ (be ttl 1 ++ (be proto 1 ++ (be sum 2 ++ (be src 4 ++ be dst 4))))))
theorem ipH_len (size ttl proto sum src dst : Nat) : (ipH size ttl proto sum src dst).length = 20 := by simp [ipH, be_len]
/-- With its checksum. -/
def ipC (size ttl proto src dst : Nat) : List Int := ipH size ttl proto (ck (ipH size ttl proto 0 src dst)) src dst
theorem sumW_ipH (size ttl proto sum src dst : Nat) (h : sum < 65536) : sumW (ipH size ttl proto sum src dst) = sumW (ipH size ttl proto 0 src dst) + sum ∧ 0 < sumW (ipH size ttl proto 0 src dst) := by
  have e2 : (be ttl 1 ++ be proto 1).length % 2 = 0 := by simp [be_len]
  have h1 : ∀ c, sumW (ipH size ttl proto c src dst) = sumW (be 17664 2) + (sumW (be size 2) + (sumW (be 0 4) + (sumW (be ttl 1 ++ be proto 1) + (sumW (be c 2) + sumW (be src 4 ++ be dst 4))))) := by
    intro c
    unfold ipH
    rw [sumW_app _ _ (by simp [be_len]), sumW_app _ _ (by simp [be_len]), sumW_app _ _ (by simp [be_len]), ← List.append_assoc (be ttl 1), sumW_app _ _ e2, sumW_app (be c 2) _ (by simp [be_len])]
  rw [h1, h1, sumW_be2 sum h, sumW_be2 0 (by decide), sumW_be2 17664 (by decide)]
  omega
theorem ck_ipC (size ttl proto src dst : Nat) : ck (ipC size ttl proto src dst) = 0 := by
  have hc := ck_lt (ipH size ttl proto 0 src dst)
  obtain ⟨h1, h2⟩ := sumW_ipH size ttl proto _ src dst hc
  unfold ipC
  rw [ck_zero (by omega), h1]
  have h3 := foldS_mod (sumW (ipH size ttl proto 0 src dst))
  have h4 := foldS_le (sumW (ipH size ttl proto 0 src dst))
  unfold ck
  omega
def ipSz (s : S31) : Nat := if ported s.a11 then 36 else 28
def arpB (s : S31) : List Int := be 1 2 ++ (be 2048 2 ++ (be 1540 2 ++ (be s.a3.toNat 2 ++ (be s.a4.toNat 6 ++ (be s.a5.toNat 4 ++ (be s.a6.toNat 6 ++ be s.a7.toNat 4))))))
def ipB (s : S31) : List Int := ipC (ipSz s) s.a10.toNat s.a11.toNat s.a8.toNat s.a9.toNat ++ (if ported s.a11 then be s.a12.toNat 2 ++ (be s.a13.toNat 2 ++ (be 16 2 ++ be 0 2)) else [])
def kindT (s : S31) : Nat := if s.a2 = 1 then 2054 else if s.a2 = 2 then 2048 else 34997
def hdrB (s : S31) : List Int := if s.a2 = 1 then arpB s else if s.a2 = 2 then ipB s else []
/-- The bytes of a frame. -/
def pkB (s : S31) : List Int := be s.a1.toNat 6 ++ (be s.a0.toNat 6 ++ (be (kindT s) 2 ++ (hdrB s ++ be s.a14.toNat 8)))
def noArp (s : S31) : Prop := s.a3 = 0 ∧ s.a4 = 0 ∧ s.a5 = 0 ∧ s.a6 = 0 ∧ s.a7 = 0
def noIp (s : S31) : Prop := s.a8 = 0 ∧ s.a9 = 0 ∧ s.a10 = 0 ∧ s.a11 = 0 ∧ s.a12 = 0 ∧ s.a13 = 0
instance (s : S31) : Decidable (noArp s) := by unfold noArp; infer_instance
instance (s : S31) : Decidable (noIp s) := by unfold noIp; infer_instance
def mcast (x : Int) : Bool := x.toNat / 1099511627776 % 2 == 1
/-- Why a frame is not valid. -/
def pkC (s : S31) : Int :=
  if s.a0 > 281474976710655 ∨ s.a1 > 281474976710655 then 2
  else if mcast s.a0 = true then 3
  else if s.a2 ≠ 0 ∧ s.a2 ≠ 1 ∧ s.a2 ≠ 2 then 6
  else if (s.a2 ≠ 1 ∧ ¬ noArp s) ∨ (s.a2 ≠ 2 ∧ ¬ noIp s) then 3
  else if s.a2 = 1 ∧ (s.a3 < 1 ∨ s.a3 > 2 ∨ s.a4 > 281474976710655 ∨ s.a6 > 281474976710655) then 2
  else if s.a2 = 2 ∧ (s.a10 < 0 ∨ s.a10 > 255 ∨ s.a11 < 0 ∨ s.a11 > 255 ∨ s.a12 < 0 ∨ s.a12 > 65535 ∨ s.a13 < 0 ∨ s.a13 > 65535) then 2
  else if s.a2 = 2 ∧ ported s.a11 = false ∧ (s.a12 ≠ 0 ∨ s.a13 ≠ 0) then 3
  else 0
structure PkOk (s : S31) : Prop where
  src : s.a0 ≤ 281474976710655
  dst : s.a1 ≤ 281474976710655
  mc : mcast s.a0 = false
  kind : s.a2 = 0 ∨ s.a2 = 1 ∨ s.a2 = 2
  arp0 : s.a2 ≠ 1 → noArp s
  ip0 : s.a2 ≠ 2 → noIp s
  arp : s.a2 = 1 → 1 ≤ s.a3 ∧ s.a3 ≤ 2 ∧ s.a4 ≤ 281474976710655 ∧ s.a6 ≤ 281474976710655
  ip : s.a2 = 2 → 0 ≤ s.a10 ∧ s.a10 ≤ 255 ∧ 0 ≤ s.a11 ∧ s.a11 ≤ 255 ∧ 0 ≤ s.a12 ∧ s.a12 ≤ 65535 ∧ 0 ≤ s.a13 ∧ s.a13 ≤ 65535
  ports : s.a2 = 2 → ported s.a11 = false → s.a12 = 0 ∧ s.a13 = 0
theorem pkC_ok {s : S31} : pkC s = 0 ↔ PkOk s := by
  unfold pkC
  constructor
  · intro h
    split at h
    · cases h
    split at h
    · cases h
    split at h
    · cases h
    split at h
    · cases h
    split at h
    · cases h
    split at h
    · cases h
    split at h
    · cases h
    rename_i h1 h2 h3 h4 h5 h6 h7
    refine ⟨by omega, by omega, by simpa using h2, by omega, fun h => ?_, fun h => ?_, fun h => by omega, fun h => by omega, fun h hp => ?_⟩
    · exact Decidable.byContradiction fun hn => h4 (.inl ⟨h, hn⟩)
    · exact Decidable.byContradiction fun hn => h4 (.inr ⟨h, hn⟩)
    · exact ⟨Decidable.byContradiction fun hn => h7 ⟨h, hp, .inl hn⟩, Decidable.byContradiction fun hn => h7 ⟨h, hp, .inr hn⟩⟩
  · intro h
    have h1 := h.src
    have h2 := h.dst
    have h3 := h.kind
    rw [if_neg (by omega), if_neg (by rw [h.mc]; decide), if_neg (by omega), if_neg, if_neg, if_neg, if_neg]
    · rintro ⟨e, hp, hn⟩; have := h.ports e hp; omega
    · rintro ⟨e, hn⟩; have := h.ip e; omega
    · rintro ⟨e, hn⟩; have := h.arp e; omega
    · rintro (⟨e, hn⟩ | ⟨e, hn⟩)
      · exact hn (h.arp0 e)
      · exact hn (h.ip0 e)
theorem arpB_len (s : S31) : (arpB s).length = 28 := by simp [arpB, be_len]
theorem ipB_len (s : S31) : (ipB s).length = if ported s.a11 then 28 else 20 := by
  unfold ipB ipC
  rw [List.length_append, ipH_len]
  split <;> simp [be_len]
def pkSz (s : S31) : Nat := if s.a2 = 1 then 50 else if s.a2 = 2 then (if ported s.a11 then 50 else 42) else 22
theorem pkB_len (s : S31) : (pkB s).length = pkSz s := by
  unfold pkB hdrB pkSz
  simp only [List.length_append, be_len]
  split
  · rw [arpB_len]
  split
  · rw [ipB_len]; split <;> rfl
  · rfl
/-- The size of the frame in b, as far as b tells it. -/
def pkS (b : List Int) : Option Nat := if num (sub b 12 2) = 34997 then some 22 else if num (sub b 12 2) = 2054 then some 50 else if num (sub b 12 2) = 2048 then some (if 34 ≤ b.length ∧ ported (num (sub b 23 1)) then 50 else 42) else none
def pkZ : S31 := ⟨0, 0, 0, 0, 0, 0, 0, 0, 0, 0, 0, 0, 0, 0, 0⟩
/-- The frame in b. -/
def pkD (b : List Int) : S31 where
  a0 := num (sub b 6 6)
  a1 := num (sub b 0 6)
  a2 := if num (sub b 12 2) = 2054 then 1 else if num (sub b 12 2) = 2048 then 2 else 0
  a3 := if num (sub b 12 2) = 2054 then num (sub b 20 2) else 0
  a4 := if num (sub b 12 2) = 2054 then num (sub b 22 6) else 0
  a5 := if num (sub b 12 2) = 2054 then num (sub b 28 4) else 0
  a6 := if num (sub b 12 2) = 2054 then num (sub b 32 6) else 0
  a7 := if num (sub b 12 2) = 2054 then num (sub b 38 4) else 0
  a8 := if num (sub b 12 2) = 2048 then num (sub b 26 4) else 0
  a9 := if num (sub b 12 2) = 2048 then num (sub b 30 4) else 0
  a10 := if num (sub b 12 2) = 2048 then num (sub b 22 1) else 0
  a11 := if num (sub b 12 2) = 2048 then num (sub b 23 1) else 0
  a12 := if num (sub b 12 2) = 2048 ∧ b.length = 50 then num (sub b 34 2) else 0
  a13 := if num (sub b 12 2) = 2048 ∧ b.length = 50 then num (sub b 36 2) else 0
  a14 := num (sub b (b.length - 8) 8)
/-- What is read: the frame, the fault, its position. -/
def pkR (b : List Int) : S31 × Int × Int := if b.length < 14 then (pkZ, 4, b.length) else match pkS b with
  | none => (pkZ, 6, 12)
  | some n => if b.length < n then (pkZ, 4, b.length) else if n < b.length then (pkZ, 5, n) else
    if pkC (pkD b) = 0 ∧ pkB (pkD b) = b then (pkD b, 0, 0) else (pkZ, 3, 0)
end Go.Proofs.Ytjdppdoakbojcaa.Abs

/- Frames and their bytes, in plain Lean: what is read of what was written. -/
namespace Go.Proofs.Ytjdppdoakbojcaa.Abs
open Go
set_option linter.unusedVariables false
theorem kindT_lt (s : S31) : kindT s < 256 ^ 2 := by
  unfold kindT
  split
  · decide
  · split <;> decide
theorem pkB_dst (s : S31) : sub (pkB s) 0 6 = be s.a1.toNat 6 := by
  unfold pkB; rw [sub_l (by simp [be_len]), sub_e (be_len _ _)]
theorem pkB_src (s : S31) : sub (pkB s) 6 6 = be s.a0.toNat 6 := by
  unfold pkB; rw [sub_r (by simp [be_len]), sub_l (by simp [be_len]), be_len, sub_e (be_len _ _)]
theorem pkB_type (s : S31) : sub (pkB s) 12 2 = be (kindT s) 2 := by
  unfold pkB
  rw [sub_r (by simp [be_len]), sub_r (by simp [be_len]), sub_l (by simp [be_len]), be_len, be_len, sub_e (be_len _ _)]
theorem pkB_typ (s : S31) : num (sub (pkB s) 12 2) = kindT s := by
  rw [pkB_type, num_be, Nat.mod_eq_of_lt (kindT_lt s)]
theorem pkB_hdr (s : S31) {i k : Nat} (h : 14 ≤ i) (h2 : i + k ≤ 14 + (hdrB s).length) : sub (pkB s) i k = sub (hdrB s) (i - 14) k := by
  unfold pkB
  rw [sub_r (by simp [be_len]; omega), sub_r (by simp [be_len]; omega), sub_r (by simp [be_len]; omega), sub_l (by simp [be_len]; omega), be_len, be_len, be_len]
  congr 1
theorem pkB_data (s : S31) : sub (pkB s) ((pkB s).length - 8) 8 = be s.a14.toNat 8 := by
  have e : (pkB s).length = 14 + (hdrB s).length + 8 := by unfold pkB; simp [be_len]; omega
  rw [e]
  unfold pkB
  rw [sub_r (by simp [be_len]; omega), sub_r (by simp [be_len]; omega), sub_r (by simp [be_len]; omega), sub_r (by simp [be_len]; omega), be_len, be_len, be_len, show 14 + (hdrB s).length + 8 - 8 - 6 - 6 - 2 - (hdrB s).length = 0 by omega, sub_e (be_len _ _)]
theorem kindT_1 {s : S31} (h : s.a2 = 1) : kindT s = 2054 := if_pos h
theorem kindT_2 {s : S31} (h : s.a2 = 2) : kindT s = 2048 := by unfold kindT; rw [if_neg (by omega), if_pos h]
theorem kindT_0 {s : S31} (h1 : s.a2 ≠ 1) (h2 : s.a2 ≠ 2) : kindT s = 34997 := by unfold kindT; rw [if_neg h1, if_neg h2]
theorem hdrB_1 {s : S31} (h : s.a2 = 1) : hdrB s = arpB s := if_pos h
theorem hdrB_2 {s : S31} (h : s.a2 = 2) : hdrB s = ipB s := by unfold hdrB; rw [if_neg (by omega), if_pos h]
section
variable {s : S31}
theorem arp_op : sub (arpB s) 6 2 = be s.a3.toNat 2 := by
  unfold arpB; rw [sub_r (by simp [be_len]), sub_r (by simp [be_len]), sub_r (by simp [be_len]), sub_l (by simp [be_len])]; simp only [be_len]; exact sub_e (be_len _ _)
theorem arp_sm : sub (arpB s) 8 6 = be s.a4.toNat 6 := by
  unfold arpB; rw [sub_r (by simp [be_len]), sub_r (by simp [be_len]), sub_r (by simp [be_len]), sub_r (by simp [be_len]), sub_l (by simp [be_len])]; simp only [be_len]; exact sub_e (be_len _ _)
theorem arp_si : sub (arpB s) 14 4 = be s.a5.toNat 4 := by
  unfold arpB; rw [sub_r (by simp [be_len]), sub_r (by simp [be_len]), sub_r (by simp [be_len]), sub_r (by simp [be_len]), sub_r (by simp [be_len]), sub_l (by simp [be_len])]; simp only [be_len]; exact sub_e (be_len _ _)
theorem arp_tm : sub (arpB s) 18 6 = be s.a6.toNat 6 := by
  unfold arpB; rw [sub_r (by simp [be_len]), sub_r (by simp [be_len]), sub_r (by simp [be_len]), sub_r (by simp [be_len]), sub_r (by simp [be_len]), sub_r (by simp [be_len]), sub_l (by simp [be_len])]; simp only [be_len]; exact sub_e (be_len _ _)
theorem arp_ti : sub (arpB s) 24 4 = be s.a7.toNat 4 := by
  unfold arpB; rw [sub_r (by simp [be_len]), sub_r (by simp [be_len]), sub_r (by simp [be_len]), sub_r (by simp [be_len]), sub_r (by simp [be_len]), sub_r (by simp [be_len]), sub_r (by simp [be_len])]; simp only [be_len]; exact sub_e (be_len _ _)
end
section
variable {z t p c x y : Nat}
theorem ip_ttl : sub (ipH z t p c x y) 8 1 = be t 1 := by
  unfold ipH; rw [sub_r (by simp [be_len]), sub_r (by simp [be_len]), sub_r (by simp [be_len]), sub_l (by simp [be_len])]; simp only [be_len]; exact sub_e (be_len _ _)
theorem ip_proto : sub (ipH z t p c x y) 9 1 = be p 1 := by
  unfold ipH; rw [sub_r (by simp [be_len]), sub_r (by simp [be_len]), sub_r (by simp [be_len]), sub_r (by simp [be_len]), sub_l (by simp [be_len])]; simp only [be_len]; exact sub_e (be_len _ _)
theorem ip_src : sub (ipH z t p c x y) 12 4 = be x 4 := by
  unfold ipH; rw [sub_r (by simp [be_len]), sub_r (by simp [be_len]), sub_r (by simp [be_len]), sub_r (by simp [be_len]), sub_r (by simp [be_len]), sub_r (by simp [be_len]), sub_l (by simp [be_len])]; simp only [be_len]; exact sub_e (be_len _ _)
theorem ip_dst : sub (ipH z t p c x y) 16 4 = be y 4 := by
  unfold ipH; rw [sub_r (by simp [be_len]), sub_r (by simp [be_len]), sub_r (by simp [be_len]), sub_r (by simp [be_len]), sub_r (by simp [be_len]), sub_r (by simp [be_len]), sub_r (by simp [be_len])]; simp only [be_len]; exact sub_e (be_len _ _)
end
theorem ipC_len (z t p x y : Nat) : (ipC z t p x y).length = 20 := ipH_len _ _ _ _ _ _
theorem ipB_hd (s : S31) {i k : Nat} (h : i + k ≤ 20) : sub (ipB s) i k = sub (ipC (ipSz s) s.a10.toNat s.a11.toNat s.a8.toNat s.a9.toNat) i k := by
  unfold ipB; rw [sub_l (by rw [ipC_len]; exact h)]
theorem ipB_sp {s : S31} (h : ported s.a11 = true) : sub (ipB s) 20 2 = be s.a12.toNat 2 ∧ sub (ipB s) 22 2 = be s.a13.toNat 2 := by
  unfold ipB
  rw [if_pos h]
  constructor
  · rw [sub_r (by rw [ipC_len]; omega), sub_l (by simp [be_len, ipC_len]), ipC_len, sub_e (be_len _ _)]
  · rw [sub_r (by rw [ipC_len]; omega), ipC_len, sub_r (by simp [be_len]), sub_l (by simp [be_len]), be_len, sub_e (be_len _ _)]
theorem pkD_B {s : S31} (hw : s.wf) (h : PkOk s) : pkD (pkB s) = s := by
  have hw' := hw
  unfold S31.wf at hw'
  have hs := h.src
  have hd := h.dst
  have e0 := num_bei (x := s.a0) (k := 6) (by omega) (by omega)
  have e1 := num_bei (x := s.a1) (k := 6) (by omega) (by omega)
  have e14 := num_bei (x := s.a14) (k := 8) (by omega) (by omega)
  have hty := pkB_typ s
  by_cases c1 : s.a2 = 1
  · rw [kindT_1 c1] at hty
    have hh := hdrB_1 c1
    have hl : (hdrB s).length = 28 := by rw [hh, arpB_len]
    have ha := h.arp c1
    obtain ⟨i1, i2, i3, i4, i5, i6⟩ := h.ip0 (by omega)
    unfold pkD
    rw [hty, pkB_src, pkB_dst, pkB_data, pkB_hdr s (by omega) (by omega), pkB_hdr s (by omega) (by omega), pkB_hdr s (by omega) (by omega), pkB_hdr s (by omega) (by omega), pkB_hdr s (by omega) (by omega), hh]
    simp only [if_true, show ¬ (2054 = 2048) by decide, if_false, false_and]
    rw [arp_op, arp_sm, arp_si, arp_tm, arp_ti, e0, e1, e14, num_bei (by omega) (by omega), num_bei (by omega) (by omega), num_bei (by omega) (by omega), num_bei (by omega) (by omega), num_bei (by omega) (by omega)]
    cases s
    simp only at *
    simp [c1, i1, i2, i3, i4, i5, i6]
  by_cases c2 : s.a2 = 2
  · rw [kindT_2 c2] at hty
    have hh := hdrB_2 c2
    have hp := h.ip c2
    obtain ⟨i1, i2, i3, i4, i5⟩ := h.arp0 (by omega)
    have hl := pkB_len s
    unfold pkSz at hl
    rw [if_neg c1, if_pos c2] at hl
    have hl2 : (hdrB s).length = if ported s.a11 then 28 else 20 := by rw [hh, ipB_len]
    have hl3 : 20 ≤ (hdrB s).length := by rw [hl2]; split <;> omega
    have e10 := num_bei (x := s.a10) (k := 1) (by omega) (by omega)
    have e11 := num_bei (x := s.a11) (k := 1) (by omega) (by omega)
    have e8 := num_bei (x := s.a8) (k := 4) (by omega) (by omega)
    have e9 := num_bei (x := s.a9) (k := 4) (by omega) (by omega)
    have g1 : sub (pkB s) 22 1 = be s.a10.toNat 1 := by rw [pkB_hdr s (by omega) (by omega), hh, ipB_hd s (by omega)]; exact ip_ttl
    have g2 : sub (pkB s) 23 1 = be s.a11.toNat 1 := by rw [pkB_hdr s (by omega) (by omega), hh, ipB_hd s (by omega)]; exact ip_proto
    have g3 : sub (pkB s) 26 4 = be s.a8.toNat 4 := by rw [pkB_hdr s (by omega) (by omega), hh, ipB_hd s (by omega)]; exact ip_src
    have g4 : sub (pkB s) 30 4 = be s.a9.toNat 4 := by rw [pkB_hdr s (by omega) (by omega), hh, ipB_hd s (by omega)]; exact ip_dst
    unfold pkD
    rw [hty, pkB_src, pkB_dst, pkB_data, g1, g2, g3, g4, e0, e1, e14, e8, e9, e10, e11]
    simp only [if_true, show ¬ (2048 = 2054) by decide, if_false, true_and]
    by_cases cp : ported s.a11 = true
    · rw [if_pos cp] at hl hl2
      have g5 : sub (pkB s) 34 2 = be s.a12.toNat 2 := by rw [pkB_hdr s (by omega) (by omega), hh]; exact (ipB_sp cp).1
      have g6 : sub (pkB s) 36 2 = be s.a13.toNat 2 := by rw [pkB_hdr s (by omega) (by omega), hh]; exact (ipB_sp cp).2
      rw [hl, g5, g6, num_bei (by omega) (by omega), num_bei (by omega) (by omega)]
      cases s
      simp only at *
      simp [c2, i1, i2, i3, i4, i5]
    · have cp : ported s.a11 = false := by simpa using cp
      rw [if_neg (by rw [cp]; decide)] at hl hl2
      obtain ⟨j1, j2⟩ := h.ports c2 cp
      rw [hl]
      cases s
      simp only at *
      simp [c2, i1, i2, i3, i4, i5, j1, j2]
  · have c0 : s.a2 = 0 := by have := h.kind; omega
    rw [kindT_0 c1 c2] at hty
    obtain ⟨i1, i2, i3, i4, i5⟩ := h.arp0 (by omega)
    obtain ⟨j1, j2, j3, j4, j5, j6⟩ := h.ip0 (by omega)
    unfold pkD
    rw [hty, pkB_src, pkB_dst, pkB_data, e0, e1, e14]
    simp only [show ¬ (34997 = 2048) by decide, show ¬ (34997 = 2054) by decide, if_false, false_and]
    cases s
    simp only at *
    simp [c0, i1, i2, i3, i4, i5, j1, j2, j3, j4, j5, j6]
theorem pkS_B {s : S31} (h : PkOk s) : pkS (pkB s) = some (pkB s).length := by
  unfold pkS
  rw [pkB_typ]
  have hl := pkB_len s
  unfold pkSz at hl
  by_cases c1 : s.a2 = 1
  · rw [kindT_1 c1, hl, if_pos c1]; rfl
  by_cases c2 : s.a2 = 2
  · have hh := hdrB_2 c2
    have hp := h.ip c2
    rw [if_neg c1, if_pos c2] at hl
    have hl2 : (hdrB s).length = if ported s.a11 then 28 else 20 := by rw [hh, ipB_len]
    have hl3 : 20 ≤ (hdrB s).length := by rw [hl2]; split <;> omega
    have g2 : sub (pkB s) 23 1 = be s.a11.toNat 1 := by rw [pkB_hdr s (by omega) (by omega), hh, ipB_hd s (by omega)]; exact ip_proto
    have e11 := num_bei (x := s.a11) (k := 1) (by omega) (by omega)
    rw [kindT_2 c2, g2, e11, hl, if_neg (by decide), if_neg (by decide), if_pos rfl]
    cases ported s.a11 <;> rfl
  · rw [kindT_0 c1 c2, hl, if_neg c1, if_neg c2]; rfl
theorem pkB_14 (s : S31) : 14 ≤ (pkB s).length := by
  rw [pkB_len]; unfold pkSz
  split
  · omega
  · split
    · split <;> omega
    · omega
/-- What was written is read. -/
theorem pkR_B {s : S31} (hw : s.wf) (h : PkOk s) : pkR (pkB s) = (s, 0, 0) := by
  unfold pkR
  rw [if_neg (by have := pkB_14 s; omega), pkS_B h]
  simp only
  rw [if_neg (by omega), if_neg (by omega), pkD_B hw h, if_pos ⟨pkC_ok.2 h, rfl⟩]
/-- What is read. -/
theorem pkR_bad {b : List Int} (h : (pkR b).2.1 ≠ 0) : (pkR b).1 = pkZ ∧ 0 ≤ (pkR b).2.2 ∧ (pkR b).2.2 ≤ b.length := by
  unfold pkR at h ⊢
  split
  · exact ⟨rfl, by dsimp only; omega, by dsimp only; omega⟩
  rename_i h0
  split
  · exact ⟨rfl, by dsimp only; omega, by dsimp only; omega⟩
  · split
    · exact ⟨rfl, by dsimp only; omega, by dsimp only; omega⟩
    split
    · exact ⟨rfl, by dsimp only; omega, by dsimp only; omega⟩
    split
    · rename_i h1
      simp only [h0, if_false] at h
      rename_i n e _ _
      simp only [e] at h
      rw [if_neg (by assumption), if_neg (by assumption), if_pos h1] at h
      exact absurd rfl h
    · exact ⟨rfl, by dsimp only; omega, by dsimp only; omega⟩
structure RdOk (b : List Int) : Prop where
  l14 : 14 ≤ b.length
  sz : pkS b = some b.length
  ck : pkC (pkD b) = 0
  eq : pkB (pkD b) = b
  res : pkR b = (pkD b, 0, 0)
theorem pkR_ok {b : List Int} (h : (pkR b).2.1 = 0) : RdOk b := by
  unfold pkR at h
  split at h
  · cases h
  rename_i h0
  split at h
  · cases h
  rename_i n e
  split at h
  · cases h
  split at h
  · cases h
  split at h
  · rename_i h1 h2 h3
    have : n = b.length := by omega
    subst this
    refine ⟨by omega, e, h3.1, h3.2, ?_⟩
    unfold pkR
    rw [if_neg h0, e]
    simp only
    rw [if_neg (by omega), if_neg (by omega), if_pos h3]
  · cases h
theorem num_app {b : List Int} {c i k : Nat} (h : i + k ≤ c) : num (sub (b.take c) i k) = num (sub b i k) := by rw [sub_take h]
theorem RdOk.cut {b : List Int} (h : RdOk b) {c : Nat} (hc : c < b.length) : pkR (b.take c) = (pkZ, 4, (c : Int)) := by
  have hl : (b.take c).length = c := by rw [List.length_take]; omega
  have hb := pkB_len (pkD b)
  rw [h.eq] at hb
  have ht := pkB_typ (pkD b)
  rw [h.eq] at ht
  have h50 : b.length ≤ 50 := by
    rw [hb]; unfold pkSz
    split
    · omega
    · split
      · split <;> omega
      · omega
  unfold pkR
  rw [hl]
  split
  · rfl
  rename_i h14
  have hs := h.sz
  unfold pkS at hs ⊢
  rw [hl, num_app (by omega)]
  split at hs
  · rename_i g; rw [if_pos g]; simp only; have hs := Option.some.inj hs; rw [if_pos (by omega)]
  split at hs
  · rename_i g0 g; rw [if_neg g0, if_pos g]; simp only; have hs := Option.some.inj hs; rw [if_pos (by omega)]
  split at hs
  · rename_i g1 g0 g
    rw [if_neg g1, if_neg g0, if_pos g]
    simp only
    split
    · rename_i g3
      rw [num_app (by omega)] at g3
      rw [if_pos ⟨by omega, g3.2⟩] at hs
      have hs := Option.some.inj hs
      rw [if_pos (by omega)]
    · rename_i g3
      have : c < 42 := by
        by_cases c34 : 34 ≤ c
        · rw [num_app (by omega)] at g3
          rw [if_neg (fun h => g3 ⟨c34, h.2⟩)] at hs
          have hs := Option.some.inj hs; omega
        · omega
      rw [if_pos this]
  · cases hs
theorem RdOk.more {b m : List Int} (h : RdOk b) (hm : m ≠ []) : pkR (b ++ m) = (pkZ, 5, (b.length : Int)) := by
  have h0 := h.l14
  have hmp : 0 < m.length := List.length_pos_iff.2 hm
  have hb := pkB_len (pkD b)
  rw [h.eq] at hb
  unfold pkR
  rw [List.length_append, if_neg (by omega)]
  have hs := h.sz
  unfold pkS at hs ⊢
  rw [List.length_append, sub_l (by omega)]
  split at hs
  · rename_i g; rw [if_pos g]; simp only; have hs := Option.some.inj hs; rw [if_neg (by omega), if_pos (by omega), ← hs]
  split at hs
  · rename_i g0 g; rw [if_neg g0, if_pos g]; simp only; have hs := Option.some.inj hs; rw [if_neg (by omega), if_pos (by omega), ← hs]
  split at hs
  · rename_i g1 g0 g
    rw [if_neg g1, if_neg g0, if_pos g]
    simp only
    split at hs
    · rename_i g3
      rw [sub_l (by omega), show (if 34 ≤ b.length + m.length ∧ ported (num (sub b 23 1)) = true then 50 else 42) = 50 from if_pos ⟨by omega, g3.2⟩]
      have hs := Option.some.inj hs
      rw [if_neg (by omega), if_pos (by omega), ← hs]
    · rename_i g3
      have e42 : b.length = 42 := (Option.some.inj hs).symm
      rw [sub_l (by omega), show (if 34 ≤ b.length + m.length ∧ ported (num (sub b 23 1)) = true then 50 else 42) = 42 from if_neg (fun h => g3 ⟨by omega, h.2⟩), if_neg (by omega), if_pos (by omega), e42]
  · cases hs
theorem getD_sub {b : List Int} {i : Nat} {x : Int} (h : b[i]? = some x) : sub b i 1 = [x] := by
  unfold sub
  have hi : i < b.length := by
    rcases Nat.lt_or_ge i b.length with g | g
    · exact g
    · rw [List.getElem?_eq_none g] at h; cases h
  rw [List.drop_eq_getElem_cons hi]
  rw [List.getElem?_eq_getElem hi] at h
  cases h
  rfl
theorem sub_set {b : List Int} {i j k : Nat} {v : Int} (h : i ≤ j) (h2 : j < i + k) : sub (b.set j v) i k = (sub b i k).set (j - i) v := by
  unfold sub
  rw [List.drop_set, if_neg (by omega), List.take_set]
theorem sub_set_l {b : List Int} {i j k : Nat} {v : Int} (h : i + k ≤ j) : sub (b.set j v) i k = sub b i k := by
  unfold sub
  rw [List.drop_set, if_neg (by omega), List.take_set, List.set_eq_of_length_le]
  rw [List.length_take]; omega
theorem pkB_ck {s : S31} (h : s.a2 = 2) : ck (sub (pkB s) 14 20) = 0 ∧ 0 < sumW (sub (pkB s) 14 20) := by
  have hh := hdrB_2 h
  have hl2 : (hdrB s).length = if ported s.a11 then 28 else 20 := by rw [hh, ipB_len]
  have hl3 : 20 ≤ (hdrB s).length := by rw [hl2]; split <;> omega
  rw [pkB_hdr s (by omega) (by omega), hh, ipB_hd s (by omega), sub_e (ipC_len _ _ _ _ _)]
  refine ⟨ck_ipC _ _ _ _ _, ?_⟩
  have := sumW_ipH (ipSz s) s.a10.toNat s.a11.toNat (ck (ipH (ipSz s) s.a10.toNat s.a11.toNat 0 s.a8.toNat s.a9.toNat)) s.a8.toNat s.a9.toNat (ck_lt _)
  unfold ipC
  omega
/-- A byte of an IPv4 header is changed. -/
theorem pkR_set {s : S31} (hw : s.wf) (h : PkOk s) (h2 : s.a2 = 2) {i : Nat} (h14 : 14 ≤ i) (h34 : i < 34) {x v : Int} (hx : (pkB s)[i]? = some x) (yx : isY x) (yv : isY v) : (pkR ((pkB s).set i v)).2.1 = 0 ↔ v = x := by
  constructor
  · intro h0
    have ok := pkR_ok h0
    have et := pkB_typ (pkD ((pkB s).set i v))
    rw [ok.eq, sub_set_l (by omega), pkB_typ, kindT_2 h2] at et
    have e2 : (pkD ((pkB s).set i v)).a2 = 2 := by
      unfold kindT at et
      split at et
      · cases et
      split at et
      · assumption
      · cases et
    obtain ⟨c1, c2⟩ := pkB_ck e2
    obtain ⟨c3, c4⟩ := pkB_ck h2
    rw [ok.eq, sub_set h14 (by omega)] at c1 c2
    rw [ck_zero c2] at c1
    rw [ck_zero c4] at c3
    have hx2 : (sub (pkB s) 14 20)[i - 14]? = some x := by
      unfold sub
      rw [List.getElem?_take_of_lt (by omega), List.getElem?_drop, show 14 + (i - 14) = i by omega, hx]
    have := sumW_set _ (i - 14) x v hx2
    unfold isY at yx yv
    have hxn : x.toNat < 256 := by omega
    have hvn : v.toNat < 256 := by omega
    split at this <;> omega
  · rintro rfl
    have : (pkB s).set i v = pkB s := by
      apply List.ext_getElem?
      intro j
      rw [List.getElem?_set]
      split
      · rename_i e; subst e; rw [hx]; split
        · rfl
        · rename_i g; rw [List.getElem?_eq_none (by omega)] at hx; cases hx
      · rfl
    rw [this, pkR_B hw h]
end Go.Proofs.Ytjdppdoakbojcaa.Abs

/- Contracts: why a frame is not valid. -/
namespace Go.Proofs.Ytjdppdoakbojcaa.Abs
open Go
set_option linter.unusedVariables false
theorem and1 {a : Int} (h : 0 ≤ a) (hk : a < 18446744073709551616) : IntKind.u64.wrap ((BitVec.ofInt IntKind.u64.bits a &&& BitVec.ofInt IntKind.u64.bits 1).toNat : Int) = a % 2 := by
  obtain ⟨n, rfl⟩ := Int.eq_ofNat_of_zero_le h
  have hn : n < 18446744073709551616 := by omega
  have e : (BitVec.ofInt IntKind.u64.bits (n : Int) &&& BitVec.ofInt IntKind.u64.bits 1).toNat = n % 2 := by
    rw [BitVec.toNat_and, BitVec.ofInt_natCast, BitVec.toNat_ofNat]
    show n % 2 ^ 64 &&& 1 = n % 2
    rw [Nat.mod_eq_of_lt (by omega : n < 2 ^ 64)]
    exact Nat.and_one_is_mod n
  rw [e, u64_id (by omega)]
  omega
theorem mc_val {a : Int} (h : 0 ≤ a) (hk : a < 18446744073709551616) : IntKind.u64.wrap ((BitVec.ofInt IntKind.u64.bits (a.fdiv (2 ^ (min (40 : Int).toNat IntKind.u64.bits))) &&& BitVec.ofInt IntKind.u64.bits 1).toNat : Int) = ((a.toNat / 1099511627776 % 2 : Nat) : Int) := by
  obtain ⟨n, rfl⟩ := Int.eq_ofNat_of_zero_le h
  have e : ((n : Int)).fdiv (2 ^ (min (40 : Int).toNat IntKind.u64.bits)) = ((n / 1099511627776 : Nat) : Int) := by
    rw [show ((2 : Int) ^ (min (40 : Int).toNat IntKind.u64.bits)) = ((1099511627776 : Nat) : Int) from rfl]
    exact (Int.ofNat_fdiv n 1099511627776).symm
  rw [e, and1 (by omega) (by omega), Int.toNat_natCast]
  omega
section
variable {B0 : Nat} {old : Nat → Option (List Value)} {n : Nat} {H Hs : Hp} {Q : Value → Hp → Prop}
set_option maxRecDepth 10000
set_option maxHeartbeats 4000000
theorem ported59_ct (p : Int) (hQ : Q (.bool (ported p)) H) : CallT (cx B0 old) (acall (cx B0 old) ansP (n + 1)) 59 [.int .i64 p] H Q := by
  refine call_in1 9 rfl Try.func59 rfl rfl ?_
  repeat' (first | (first | refine rt_nil ?_ | (refine isRun ?_; first | refine x1 ?_ | refine x2 ?_ | refine x3 fun _ => ?_ | refine x4 fun _ => ?_ | refine x5 fun _ => ?_ | (refine rt_step rfl rfl rfl ?_; first | refine st_buildSlice rfl (zr rfl) rfl rfl rfl rfl rfl rfl fun _ => ?_ | refine st_A rfl rfl (fun _ => rfl) rfl fun _ => ?_) | refine x8 ?_ | refine rt_skip rfl rfl rfl ?_ | refine rt_skip0 rfl rfl ?_)) | (first | refine sq_n ?_ | refine sq_r ?_ | refine sq_e ?_ | refine bk_n ?_ | refine bk_r ?_ | refine bk_e rfl ?_ | refine bk_x rfl ?_ | refine ct_seq ?_ | refine ct_region rfl ?_ | refine ct_skip ?_ | refine ct_label ?_ | refine ct_block ?_ | refine ct_exit ?_ | refine ct_ret ?_ | refine ct_scope ?_ | refine ct_true rfl ?_ | refine ct_false rfl ?_ | refine lt_step ?_) | (first | refine pl_nil ?_ | (refine isPlan ?_; first | refine y1 ?_ | refine y2 ?_ | refine pl_skip rfl rfl rfl rfl rfl ?_ | refine pl_skip0 rfl rfl rfl rfl ?_)) | (refine isPlan ?_; refine y3 ?_) | (first | (refine isRun ?_; refine z1 (fun hc => ?_) (fun hc => ?_)) | refine z2 (fun hc => ?_) (fun hc => ?_) | (refine isPlan ?_; refine z3 (fun hc => ?_) (fun hc => ?_))))
  · exact re_1 rfl rfl (by exact drop_auto) (by rwa [show ported p = true by unfold ported; rw [hc]; rfl] at hQ)
  · exact re_1 rfl rfl (by exact drop_auto) (by rwa [show ported p = (p == 17) by unfold ported; rw [beq_eq_false_iff_ne.2 hc]; rfl] at hQ)
theorem ported60_ct (p : Int) (hQ : Q (.bool (ported p)) H) : CallT (cx B0 old) (acall (cx B0 old) ansP (n + 1)) 60 [.int .i64 p] H Q := by
  refine call_in1 9 rfl Try.func60 rfl rfl ?_
  repeat' (first | (first | refine rt_nil ?_ | (refine isRun ?_; first | refine x1 ?_ | refine x2 ?_ | refine x3 fun _ => ?_ | refine x4 fun _ => ?_ | refine x5 fun _ => ?_ | (refine rt_step rfl rfl rfl ?_; first | refine st_buildSlice rfl (zr rfl) rfl rfl rfl rfl rfl rfl fun _ => ?_ | refine st_A rfl rfl (fun _ => rfl) rfl fun _ => ?_) | refine x8 ?_ | refine rt_skip rfl rfl rfl ?_ | refine rt_skip0 rfl rfl ?_)) | (first | refine sq_n ?_ | refine sq_r ?_ | refine sq_e ?_ | refine bk_n ?_ | refine bk_r ?_ | refine bk_e rfl ?_ | refine bk_x rfl ?_ | refine ct_seq ?_ | refine ct_region rfl ?_ | refine ct_skip ?_ | refine ct_label ?_ | refine ct_block ?_ | refine ct_exit ?_ | refine ct_ret ?_ | refine ct_scope ?_ | refine ct_true rfl ?_ | refine ct_false rfl ?_ | refine lt_step ?_) | (first | refine pl_nil ?_ | (refine isPlan ?_; first | refine y1 ?_ | refine y2 ?_ | refine pl_skip rfl rfl rfl rfl rfl ?_ | refine pl_skip0 rfl rfl rfl rfl ?_)) | (refine isPlan ?_; refine y3 ?_) | (first | (refine isRun ?_; refine z1 (fun hc => ?_) (fun hc => ?_)) | refine z2 (fun hc => ?_) (fun hc => ?_) | (refine isPlan ?_; refine z3 (fun hc => ?_) (fun hc => ?_))))
  · exact re_1 rfl rfl (by exact drop_auto) (by rwa [show ported p = true by unfold ported; rw [hc]; rfl] at hQ)
  · exact re_1 rfl rfl (by exact drop_auto) (by rwa [show ported p = (p == 17) by unfold ported; rw [beq_eq_false_iff_ne.2 hc]; rfl] at hQ)
theorem mc96_ct (a : Int) (h0 : 0 ≤ a) (h1 : a ≤ 281474976710655) (hQ : Q (.bool (mcast a)) H) : CallT (cx B0 old) (acall (cx B0 old) ansP (n + 1)) 96 [.int .u64 a] H Q := by
  refine call_in1 11 rfl Try.func96 rfl rfl ?_
  repeat' (first | (first | refine rt_nil ?_ | (refine isRun ?_; first | refine x1 ?_ | refine x2 ?_ | refine x3 fun _ => ?_ | refine x4 fun _ => ?_ | refine x5 fun _ => ?_ | (refine rt_step rfl rfl rfl ?_; first | refine st_buildSlice rfl (zr rfl) rfl rfl rfl rfl rfl rfl fun _ => ?_ | refine st_A rfl rfl (fun _ => rfl) rfl fun _ => ?_) | refine x8 ?_ | refine rt_skip rfl rfl rfl ?_ | refine rt_skip0 rfl rfl ?_)) | (first | refine sq_n ?_ | refine sq_r ?_ | refine sq_e ?_ | refine bk_n ?_ | refine bk_r ?_ | refine bk_e rfl ?_ | refine bk_x rfl ?_ | refine ct_seq ?_ | refine ct_region rfl ?_ | refine ct_skip ?_ | refine ct_label ?_ | refine ct_block ?_ | refine ct_exit ?_ | refine ct_ret ?_ | refine ct_scope ?_ | refine ct_true rfl ?_ | refine ct_false rfl ?_ | refine lt_step ?_) | (first | refine pl_nil ?_ | (refine isPlan ?_; first | refine y1 ?_ | refine y2 ?_ | refine pl_skip rfl rfl rfl rfl rfl ?_ | refine pl_skip0 rfl rfl rfl rfl ?_)) | (refine isPlan ?_; refine y3 ?_) | (first | (refine isRun ?_; refine z1 (fun hc => ?_) (fun hc => ?_)) | refine z2 (fun hc => ?_) (fun hc => ?_) | (refine isPlan ?_; refine z3 (fun hc => ?_) (fun hc => ?_))))
  · rw [mc_val h0 (by omega)]
    exact re_1 rfl rfl (by exact drop_auto) (by
      rwa [show mcast a = (((a.toNat / 1099511627776 % 2 : Nat) : Int) != 0) by
        unfold mcast
        rcases Nat.mod_two_eq_zero_or_one (a.toNat / 1099511627776) with e | e <;> rw [e] <;> rfl] at hQ)
  · exact absurd h1 hc
theorem mc99_ct (a : Int) (h0 : 0 ≤ a) (h1 : a ≤ 281474976710655) (hQ : Q (.bool (mcast a)) H) : CallT (cx B0 old) (acall (cx B0 old) ansP (n + 1)) 99 [.int .u64 a] H Q := by
  refine call_in1 11 rfl Try.func99 rfl rfl ?_
  repeat' (first | (first | refine rt_nil ?_ | (refine isRun ?_; first | refine x1 ?_ | refine x2 ?_ | refine x3 fun _ => ?_ | refine x4 fun _ => ?_ | refine x5 fun _ => ?_ | (refine rt_step rfl rfl rfl ?_; first | refine st_buildSlice rfl (zr rfl) rfl rfl rfl rfl rfl rfl fun _ => ?_ | refine st_A rfl rfl (fun _ => rfl) rfl fun _ => ?_) | refine x8 ?_ | refine rt_skip rfl rfl rfl ?_ | refine rt_skip0 rfl rfl ?_)) | (first | refine sq_n ?_ | refine sq_r ?_ | refine sq_e ?_ | refine bk_n ?_ | refine bk_r ?_ | refine bk_e rfl ?_ | refine bk_x rfl ?_ | refine ct_seq ?_ | refine ct_region rfl ?_ | refine ct_skip ?_ | refine ct_label ?_ | refine ct_block ?_ | refine ct_exit ?_ | refine ct_ret ?_ | refine ct_scope ?_ | refine ct_true rfl ?_ | refine ct_false rfl ?_ | refine lt_step ?_) | (first | refine pl_nil ?_ | (refine isPlan ?_; first | refine y1 ?_ | refine y2 ?_ | refine pl_skip rfl rfl rfl rfl rfl ?_ | refine pl_skip0 rfl rfl rfl rfl ?_)) | (refine isPlan ?_; refine y3 ?_) | (first | (refine isRun ?_; refine z1 (fun hc => ?_) (fun hc => ?_)) | refine z2 (fun hc => ?_) (fun hc => ?_) | (refine isPlan ?_; refine z3 (fun hc => ?_) (fun hc => ?_))))
  · rw [mc_val h0 (by omega)]
    exact re_1 rfl rfl (by exact drop_auto) (by
      rwa [show mcast a = (((a.toNat / 1099511627776 % 2 : Nat) : Int) == 1) by
        unfold mcast
        rcases Nat.mod_two_eq_zero_or_one (a.toNat / 1099511627776) with e | e <;> rw [e] <;> rfl] at hQ)
  · exact absurd h1 hc
theorem arp97_ct (op sm si tm ti : Int) (hbad : (op < 1 ∨ op > 2 ∨ sm > 281474976710655 ∨ tm > 281474976710655) → Q (.int .i64 2) H) (hok : ¬ (op < 1 ∨ op > 2 ∨ sm > 281474976710655 ∨ tm > 281474976710655) → Q (.int .i64 0) H) :
    CallT (cx B0 old) (acall (cx B0 old) ansP (n + 1)) 97 [.agg ⟨[.int .i64 op, .int .u64 sm, .int .u32 si, .int .u64 tm, .int .u32 ti]⟩] H Q := by
  refine call_in1 21 rfl Try.func97 rfl rfl ?_
  repeat' (first | (first | refine rt_nil ?_ | (refine isRun ?_; first | refine x1 ?_ | refine x2 ?_ | refine x3 fun _ => ?_ | refine x4 fun _ => ?_ | refine x5 fun _ => ?_ | (refine rt_step rfl rfl rfl ?_; first | refine st_buildSlice rfl (zr rfl) rfl rfl rfl rfl rfl rfl fun _ => ?_ | refine st_A rfl rfl (fun _ => rfl) rfl fun _ => ?_) | refine x8 ?_ | refine rt_skip rfl rfl rfl ?_ | refine rt_skip0 rfl rfl ?_)) | (first | refine sq_n ?_ | refine sq_r ?_ | refine sq_e ?_ | refine bk_n ?_ | refine bk_r ?_ | refine bk_e rfl ?_ | refine bk_x rfl ?_ | refine ct_seq ?_ | refine ct_region rfl ?_ | refine ct_skip ?_ | refine ct_label ?_ | refine ct_block ?_ | refine ct_exit ?_ | refine ct_ret ?_ | refine ct_scope ?_ | refine ct_true rfl ?_ | refine ct_false rfl ?_ | refine lt_step ?_) | (first | refine pl_nil ?_ | (refine isPlan ?_; first | refine y1 ?_ | refine y2 ?_ | refine pl_skip rfl rfl rfl rfl rfl ?_ | refine pl_skip0 rfl rfl rfl rfl ?_)) | (refine isPlan ?_; refine y3 ?_) | (first | (refine isRun ?_; refine z1 (fun hc => ?_) (fun hc => ?_)) | refine z2 (fun hc => ?_) (fun hc => ?_) | (refine isPlan ?_; refine z3 (fun hc => ?_) (fun hc => ?_))))
  all_goals (first | exact re_1 rfl rfl (by exact drop_auto) (hbad (by omega)) | exact re_1 rfl rfl (by exact drop_auto) (hok (by omega)))
theorem ip98_ct (s1 d1 ttl pr sp dp : Int) (hr : (ttl < 0 ∨ ttl > 255 ∨ pr < 0 ∨ pr > 255 ∨ sp < 0 ∨ sp > 65535 ∨ dp < 0 ∨ dp > 65535) → Q (.int .i64 2) H)
    (hf : ¬ (ttl < 0 ∨ ttl > 255 ∨ pr < 0 ∨ pr > 255 ∨ sp < 0 ∨ sp > 65535 ∨ dp < 0 ∨ dp > 65535) → ported pr = false ∧ (sp ≠ 0 ∨ dp ≠ 0) → Q (.int .i64 3) H)
    (hok : ¬ (ttl < 0 ∨ ttl > 255 ∨ pr < 0 ∨ pr > 255 ∨ sp < 0 ∨ sp > 65535 ∨ dp < 0 ∨ dp > 65535) → ¬ (ported pr = false ∧ (sp ≠ 0 ∨ dp ≠ 0)) → Q (.int .i64 0) H) :
    CallT (cx B0 old) (acall (cx B0 old) ansP (n + 2)) 98 [.agg ⟨[.int .u32 s1, .int .u32 d1, .int .i64 ttl, .int .i64 pr, .int .i64 sp, .int .i64 dp]⟩] H Q := by
  refine call_in1 53 rfl Try.func98 rfl rfl ?_
  repeat' (first | (first | refine rt_nil ?_ | (refine isRun ?_; first | refine x1 ?_ | refine x2 ?_ | refine x3 fun _ => ?_ | refine x4 fun _ => ?_ | refine x5 fun _ => ?_ | (refine rt_step rfl rfl rfl ?_; first | refine st_buildSlice rfl (zr rfl) rfl rfl rfl rfl rfl rfl fun _ => ?_ | refine st_A rfl rfl (fun _ => rfl) rfl fun _ => ?_) | refine x8 ?_ | refine rt_skip rfl rfl rfl ?_ | refine rt_skip0 rfl rfl ?_)) | (first | refine sq_n ?_ | refine sq_r ?_ | refine sq_e ?_ | refine bk_n ?_ | refine bk_r ?_ | refine bk_e rfl ?_ | refine bk_x rfl ?_ | refine ct_seq ?_ | refine ct_region rfl ?_ | refine ct_skip ?_ | refine ct_label ?_ | refine ct_block ?_ | refine ct_exit ?_ | refine ct_ret ?_ | refine ct_scope ?_ | refine ct_true rfl ?_ | refine ct_false rfl ?_ | refine lt_step ?_) | (first | refine pl_nil ?_ | (refine isPlan ?_; first | refine y1 ?_ | refine y2 ?_ | refine pl_skip rfl rfl rfl rfl rfl ?_ | refine pl_skip0 rfl rfl rfl rfl ?_)) | (refine isPlan ?_; refine y3 ?_) | (first | (refine isRun ?_; refine z1 (fun hc => ?_) (fun hc => ?_)) | refine z2 (fun hc => ?_) (fun hc => ?_) | (refine isPlan ?_; refine z3 (fun hc => ?_) (fun hc => ?_))))
  all_goals first | exact re_1 rfl rfl (by exact drop_auto) (hr (by omega)) | skip
  refine rt_step rfl rfl rfl (st_call rfl rfl rfl rfl (ported59_ct pr ?_))
  cases hp : ported pr with
  | false =>
    repeat' (first | (first | refine rt_nil ?_ | (refine isRun ?_; first | refine x1 ?_ | refine x2 ?_ | refine x3 fun _ => ?_ | refine x4 fun _ => ?_ | refine x5 fun _ => ?_ | (refine rt_step rfl rfl rfl ?_; first | refine st_buildSlice rfl (zr rfl) rfl rfl rfl rfl rfl rfl fun _ => ?_ | refine st_A rfl rfl (fun _ => rfl) rfl fun _ => ?_) | refine x8 ?_ | refine rt_skip rfl rfl rfl ?_ | refine rt_skip0 rfl rfl ?_)) | (first | refine sq_n ?_ | refine sq_r ?_ | refine sq_e ?_ | refine bk_n ?_ | refine bk_r ?_ | refine bk_e rfl ?_ | refine bk_x rfl ?_ | refine ct_seq ?_ | refine ct_region rfl ?_ | refine ct_skip ?_ | refine ct_label ?_ | refine ct_block ?_ | refine ct_exit ?_ | refine ct_ret ?_ | refine ct_scope ?_ | refine ct_true rfl ?_ | refine ct_false rfl ?_ | refine lt_step ?_) | (first | refine pl_nil ?_ | (refine isPlan ?_; first | refine y1 ?_ | refine y2 ?_ | refine pl_skip rfl rfl rfl rfl rfl ?_ | refine pl_skip0 rfl rfl rfl rfl ?_)) | (refine isPlan ?_; refine y3 ?_) | (first | (refine isRun ?_; refine z1 (fun hc => ?_) (fun hc => ?_)) | refine z2 (fun hc => ?_) (fun hc => ?_) | (refine isPlan ?_; refine z3 (fun hc => ?_) (fun hc => ?_))))
    · exact re_1 rfl rfl (by exact drop_auto) (hf (by omega) ⟨hp, by omega⟩)
    · exact re_1 rfl rfl (by exact drop_auto) (hf (by omega) ⟨hp, by omega⟩)
    · exact re_1 rfl rfl (by exact drop_auto) (hok (by omega) (by omega))
  | true =>
    repeat' (first | (first | refine rt_nil ?_ | (refine isRun ?_; first | refine x1 ?_ | refine x2 ?_ | refine x3 fun _ => ?_ | refine x4 fun _ => ?_ | refine x5 fun _ => ?_ | (refine rt_step rfl rfl rfl ?_; first | refine st_buildSlice rfl (zr rfl) rfl rfl rfl rfl rfl rfl fun _ => ?_ | refine st_A rfl rfl (fun _ => rfl) rfl fun _ => ?_) | refine x8 ?_ | refine rt_skip rfl rfl rfl ?_ | refine rt_skip0 rfl rfl ?_)) | (first | refine sq_n ?_ | refine sq_r ?_ | refine sq_e ?_ | refine bk_n ?_ | refine bk_r ?_ | refine bk_e rfl ?_ | refine bk_x rfl ?_ | refine ct_seq ?_ | refine ct_region rfl ?_ | refine ct_skip ?_ | refine ct_label ?_ | refine ct_block ?_ | refine ct_exit ?_ | refine ct_ret ?_ | refine ct_scope ?_ | refine ct_true rfl ?_ | refine ct_false rfl ?_ | refine lt_step ?_) | (first | refine pl_nil ?_ | (refine isPlan ?_; first | refine y1 ?_ | refine y2 ?_ | refine pl_skip rfl rfl rfl rfl rfl ?_ | refine pl_skip0 rfl rfl rfl rfl ?_)) | (refine isPlan ?_; refine y3 ?_) | (first | (refine isRun ?_; refine z1 (fun hc => ?_) (fun hc => ?_)) | refine z2 (fun hc => ?_) (fun hc => ?_) | (refine isPlan ?_; refine z3 (fun hc => ?_) (fun hc => ?_))))
    exact re_1 rfl rfl (by exact drop_auto) (hok (by omega) (by rintro ⟨h, _⟩; rw [hp] at h; cases h))
end
end Go.Proofs.Ytjdppdoakbojcaa.Abs
