/- Numbers of 64 bits, byte by byte. -/
import Derived.Test.YtcbifjbmbceipaaRd3
namespace Go.Proofs.Ytcbifjbmbceipaa.Abs
open Go
theorem u64_mod (n : Int) : IntKind.u64.wrap n = n % 18446744073709551616 := by
  simp [IntKind.wrap, IntKind.bits, IntKind.signed]
theorem bv_nat (n : Nat) (h : n < 18446744073709551616) : (BitVec.ofInt IntKind.u64.bits (n : Int)).toNat = n := by
  show (BitVec.ofInt 64 (n : Int)).toNat = n
  rw [BitVec.ofInt_natCast, BitVec.toNat_ofNat]
  exact Nat.mod_eq_of_lt h
def isB (x : Int) : Prop := 0 ≤ x ∧ x < 256
/-- n<<8 + x. -/
def stepF (acc x : Int) : Int := IntKind.u64.wrap (IntKind.u64.wrap (acc * 2 ^ (min (8 : Int).toNat IntKind.u64.bits)) + IntKind.u64.wrap x)
theorem min8 : min (8 : Int).toNat IntKind.u64.bits = 8 := rfl
theorem stepN_eq (acc x : Int) (h : isB x) : stepN acc x = IntKind.u64.wrap (acc * 256 + x) := by
  obtain ⟨h1, h2⟩ := h
  unfold stepN
  rw [min8, show (2 : Int) ^ 8 = 256 from rfl]
  have e1 : IntKind.u64.wrap (acc * 256) = ((2 ^ 8 * (acc % 72057594037927936).toNat : Nat) : Int) := by rw [u64_mod]; omega
  have e2 : IntKind.u64.wrap x = ((x.toNat : Nat) : Int) := by rw [u64_mod]; omega
  have hb : x.toNat < 2 ^ 8 := by omega
  rw [e1, e2, BitVec.toNat_or, bv_nat _ (by omega), bv_nat _ (by omega), ← Nat.two_pow_add_eq_or_of_lt hb, u64_mod, u64_mod]
  omega
theorem stepF_eq (acc x : Int) : stepF acc x = IntKind.u64.wrap (acc * 256 + x) := by
  unfold stepF
  rw [min8, show (2 : Int) ^ 8 = 256 from rfl, u64_mod, u64_mod, u64_mod, u64_mod]
  omega
def numF (M : List Int) : Int := M.foldl stepF 0
theorem numF_eq (M : List Int) (h : ∀ x ∈ M, isB x) : numF M = numV M := by
  unfold numF numV
  have : ∀ (M : List Int) (a : Int), (∀ x ∈ M, isB x) → M.foldl stepF a = M.foldl stepN a := by
    intro M
    induction M with
    | nil => intro a _; rfl
    | cons x M ih =>
      intro a h
      rw [List.foldl_cons, List.foldl_cons, ih _ fun y hy => h y (List.mem_cons_of_mem _ hy), stepF_eq, stepN_eq _ _ (h x (List.mem_cons_self ..))]
  exact this M 0 h
end Go.Proofs.Ytcbifjbmbceipaa.Abs
