/- Numbers as bytes, the most significant one first, in plain Lean. -/
import Derived.Test.YtphadapcafibpaaGreatSep8
namespace Go.Proofs.YtphadapcafibpaaGreat.Abs
open Go
set_option linter.unusedVariables false
/-- The lowest k bytes of a number. -/
def be (x : Nat) : Nat → List Int
  | 0 => []
  | k + 1 => ((x / 256 ^ k % 256 : Nat) : Int) :: be x k
def isY (x : Int) : Prop := 0 ≤ x ∧ x < 256
theorem u64_id {x : Int} (h : 0 ≤ x ∧ x < 18446744073709551616) : IntKind.u64.wrap x = x := by
  have e : IntKind.u64.wrap x = x % 18446744073709551616 := by simp [IntKind.wrap, IntKind.bits, IntKind.signed]
  omega
theorem RunT.weak {C : Ctx} {hd : HH Prop} {nt : Nat} {ops : Array Oper} {os : List Oper} {l : Sl} {H H' : Hp} {Ψ : Sl → Hp → Prop} (h : RunT C hd nt ops os l H' Ψ) (hs : H'.Sublist H) : RunT C hd nt ops os l H Ψ := by
  unfold RunT at h ⊢
  exact fun fr s k h1 h2 h3 => h fr s k h1 (h2.sub hs) h3
theorem PlanT.weak {C : Ctx} {hd : HH Prop} {nt : Nat} {ops : Array Oper} {E masks plan : List Nat} {rs : List RdE} {l : Sl} {H H' : Hp} {Ψ : Sl → Hp → Prop} (h : PlanT C hd nt ops E masks plan rs l H' Ψ) (hs : H'.Sublist H) : PlanT C hd nt ops E masks plan rs l H Ψ := by
  unfold PlanT at h ⊢
  exact fun fr s k ns h1 h2 h3 => h fr s k ns h1 (h2.sub hs) h3
end Go.Proofs.YtphadapcafibpaaGreat.Abs
