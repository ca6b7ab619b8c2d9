/- Flat structs: their fields and their cells. -/
import Derived.Test.YtoimfchhmocgeaaCx
namespace Go.Proofs.Ytoimfchhmocgeaa.Abs
open Go
set_option linter.unusedVariables false
structure S27 where
  a0 : Int
  a1 : Int
  a2 : Int
  a3 : Int
  a4 : Bool
def en27 (x : S27) : List Value := [.int .i64 x.a0, .int .u64 x.a1, .int .u32 x.a2, .int .u32 x.a3, .bool x.a4]
theorem en27_len (x : S27) : (en27 x).length = 5 := rfl
theorem en27_one (x : S27) : (en27 x).all Value.oneCell' = true := rfl
def S27.wf (x : S27) : Prop := (-9223372036854775808 ≤ x.a0 ∧ x.a0 ≤ 9223372036854775807) ∧ (0 ≤ x.a1 ∧ x.a1 ≤ 18446744073709551615) ∧ (0 ≤ x.a2 ∧ x.a2 ≤ 4294967295) ∧ (0 ≤ x.a3 ∧ x.a3 ≤ 4294967295)
structure S52 where
  a0 : Int
  a1 : Int
  a2 : Int
  a3 : Option Addr × Nat × Nat
  a4 : Option Addr × Nat × Nat
  a5 : Int
  a6 : Int
def en52 (x : S52) : List Value := [.int .i64 x.a0, .int .i64 x.a1, .int .u32 x.a2, .slice x.a3.1 x.a3.2.1 x.a3.2.2, .slice x.a4.1 x.a4.2.1 x.a4.2.2, .int .i64 x.a5, .int .u64 x.a6]
theorem en52_len (x : S52) : (en52 x).length = 7 := rfl
theorem en52_one (x : S52) : (en52 x).all Value.oneCell' = true := rfl
def S52.wf (x : S52) : Prop := (-9223372036854775808 ≤ x.a0 ∧ x.a0 ≤ 9223372036854775807) ∧ (-9223372036854775808 ≤ x.a1 ∧ x.a1 ≤ 9223372036854775807) ∧ (0 ≤ x.a2 ∧ x.a2 ≤ 4294967295) ∧ (-9223372036854775808 ≤ x.a5 ∧ x.a5 ≤ 9223372036854775807) ∧ (0 ≤ x.a6 ∧ x.a6 ≤ 18446744073709551615)
end Go.Proofs.Ytoimfchhmocgeaa.Abs
