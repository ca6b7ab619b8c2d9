/- Numbers as bytes, the most significant one first, in plain Lean. -/
import Derived.Test.YthcohphflhkceaaSep8
namespace Go.Proofs.Ythcohphflhkceaa.Abs
open Go
set_option linter.unusedVariables false
def encY (x : Int) : List Value := [.int .u8 x]
theorem encY_len (x : Int) : (encY x).length = 1 := rfl
theorem encY_one (x : Int) : (encY x).all Value.oneCell' = true := rfl
/-- The lowest k bytes of a number. -/
def be (x : Nat) : Nat → List Int
  | 0 => []
  | k + 1 => ((x / 256 ^ k % 256 : Nat) : Int) :: be x k
theorem be_len (x : Nat) : ∀ k, (be x k).length = k
  | 0 => rfl
  | k + 1 => by rw [be, List.length_cons, be_len x k]
def isY (x : Int) : Prop := 0 ≤ x ∧ x < 256
theorem be_Y (x : Nat) : ∀ k, ∀ y ∈ be x k, isY y
  | 0, y, h => by cases h
  | k + 1, y, h => by
    rw [be] at h
    rcases List.mem_cons.1 h with rfl | h
    · unfold isY; omega
    · exact be_Y x k y h
theorem u64r (x : Int) : 0 ≤ IntKind.u64.wrap x ∧ IntKind.u64.wrap x < 18446744073709551616 := by
  have e : IntKind.u64.wrap x = x % 18446744073709551616 := by simp [IntKind.wrap, IntKind.bits, IntKind.signed]
  omega
theorem u32r (x : Int) : 0 ≤ IntKind.u32.wrap x ∧ IntKind.u32.wrap x < 4294967296 := by
  have e : IntKind.u32.wrap x = x % 4294967296 := by simp [IntKind.wrap, IntKind.bits, IntKind.signed]
  omega
theorem u64_id {x : Int} (h : 0 ≤ x ∧ x < 18446744073709551616) : IntKind.u64.wrap x = x := by
  have e : IntKind.u64.wrap x = x % 18446744073709551616 := by simp [IntKind.wrap, IntKind.bits, IntKind.signed]
  omega
theorem byteV {x : Int} {i : Nat} (h0 : 0 ≤ x) (hi : i ≤ 7) : IntKind.u8.wrap (x.fdiv (2 ^ (min (8 * (i : Int)).toNat IntKind.u64.bits))) = ((x.toNat / 256 ^ i % 256 : Nat) : Int) := by
  obtain ⟨n, rfl⟩ := Int.eq_ofNat_of_zero_le h0
  have e : min (8 * (i : Int)).toNat IntKind.u64.bits = 8 * i := by show min _ 64 = _; omega
  rw [e, show ((2 : Int) ^ (8 * i)) = ((256 ^ i : Nat) : Int) by rw [show (256 : Nat) = 2 ^ 8 from rfl, ← Nat.pow_mul]; exact (Int.natCast_pow 2 (8 * i)).symm]
  rw [show ((n : Int)).fdiv ((256 ^ i : Nat) : Int) = ((n / 256 ^ i : Nat) : Int) from (Int.ofNat_fdiv n (256 ^ i)).symm]
  have e2 : ∀ y : Int, IntKind.u8.wrap y = y % 256 := fun y => by simp [IntKind.wrap, IntKind.bits, IntKind.signed]
  rw [e2, Int.toNat_natCast]
  omega
theorem byte1 (x : Int) : be (IntKind.u64.wrap x).toNat 1 = [IntKind.u8.wrap x] := by
  have e : IntKind.u64.wrap x = x % 18446744073709551616 := by simp [IntKind.wrap, IntKind.bits, IntKind.signed]
  have e2 : IntKind.u8.wrap x = x % 256 := by simp [IntKind.wrap, IntKind.bits, IntKind.signed]
  rw [be, be, e, e2]
  congr 1
  simp only [Nat.pow_zero, Nat.div_one]
  omega
theorem p_xor {C : Ctx} {l : Sl} {t yt : TypeId} {x y : Operand} {k : IntKind} {a b : Int} (h : evalL l x = some (.int k a)) (h2 : evalL l y = some (.int k b)) : PureT C (.binOp .xor t x y yt) l (.int k (k.wrap (BitVec.ofInt k.bits a ^^^ BitVec.ofInt k.bits b).toNat)) := by
  unfold PureT
  exact ⟨cov2 h h2, by simp only [aP, abin, isShift, aint, rhoL_eq h, rhoL_eq h2, if_true]⟩
theorem RunT.weak {C : Ctx} {hd : HH Prop} {nt : Nat} {ops : Array Oper} {os : List Oper} {l : Sl} {H H' : Hp} {Ψ : Sl → Hp → Prop} (h : RunT C hd nt ops os l H' Ψ) (hs : H'.Sublist H) : RunT C hd nt ops os l H Ψ := by
  unfold RunT at h ⊢
  exact fun fr s k h1 h2 h3 => h fr s k h1 (h2.sub hs) h3
theorem PlanT.weak {C : Ctx} {hd : HH Prop} {nt : Nat} {ops : Array Oper} {E masks plan : List Nat} {rs : List RdE} {l : Sl} {H H' : Hp} {Ψ : Sl → Hp → Prop} (h : PlanT C hd nt ops E masks plan rs l H' Ψ) (hs : H'.Sublist H) : PlanT C hd nt ops E masks plan rs l H Ψ := by
  unfold PlanT at h ⊢
  exact fun fr s k ns h1 h2 h3 => h fr s k ns h1 (h2.sub hs) h3
/-- One step of the hash, the hash. -/
def hashF (a x : Int) : Int := IntKind.u32.wrap (IntKind.u32.wrap (BitVec.ofInt IntKind.u32.bits a ^^^ BitVec.ofInt IntKind.u32.bits (IntKind.u32.wrap x)).toNat * 16777619)
def hashL (L : List Int) : Int := L.foldl hashF 2166136261
theorem hash_range (L : List Int) : ∀ a : Int, 0 ≤ a ∧ a < 4294967296 → 0 ≤ L.foldl hashF a ∧ L.foldl hashF a < 4294967296 := by
  induction L with
  | nil => intro a h; exact h
  | cons x L ih => intro a _; rw [List.foldl_cons]; exact ih _ (u32r _)
/-- The entropy of a flow. -/
def entV (L : List Int) : Int := 49152 + (hashL L).tmod 16384
theorem entV_eq (L : List Int) : IntKind.i64.wrap (49152 + IntKind.i64.wrap ((hashL L).tmod 16384)) = entV L ∧ 49152 ≤ entV L ∧ entV L ≤ 65535 := by
  have h := hash_range L 2166136261 (by decide)
  have h2 : (hashL L).tmod 16384 = (hashL L) % 16384 := Int.tmod_eq_emod_of_nonneg h.1
  unfold entV
  rw [h2]
  have h3 : 0 ≤ hashL L % 16384 ∧ hashL L % 16384 < 16384 := by omega
  rw [IntWalk.i64_in (hashL L % 16384) (by omega), IntWalk.i64_in (49152 + hashL L % 16384) (by omega)]
  omega
end Go.Proofs.Ythcohphflhkceaa.Abs
