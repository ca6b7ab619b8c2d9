/- Flat structs: their fields and their cells. -/
import Derived.Test.YtojnbjandkbkmaaCx
namespace Go.Proofs.Ytojnbjandkbkmaa.Abs
open Go
set_option linter.unusedVariables false
structure S37 where
  a0 : Int
  a1 : Int
  a2 : Int
  a3 : Int
  a4 : Bool
  a5 : Int
def en37 (x : S37) : List Value := [.int .i64 x.a0, .int .i64 x.a1, .int .u64 x.a2, .int .u32 x.a3, .bool x.a4, .int .i64 x.a5]
theorem en37_len (x : S37) : (en37 x).length = 6 := rfl
theorem en37_one (x : S37) : (en37 x).all Value.oneCell' = true := rfl
def S37.wf (x : S37) : Prop := (-9223372036854775808 ≤ x.a0 ∧ x.a0 ≤ 9223372036854775807) ∧ (-9223372036854775808 ≤ x.a1 ∧ x.a1 ≤ 9223372036854775807) ∧ (0 ≤ x.a2 ∧ x.a2 ≤ 18446744073709551615) ∧ (0 ≤ x.a3 ∧ x.a3 ≤ 4294967295) ∧ (-9223372036854775808 ≤ x.a5 ∧ x.a5 ≤ 9223372036854775807)
end Go.Proofs.Ytojnbjandkbkmaa.Abs
