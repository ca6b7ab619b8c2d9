/- A route of chapter 04 as the cells of its value (S60 as in rP). -/
import Derived.Test.YtphadapcafibpaaGreatCx
namespace Go.Proofs.YtphadapcafibpaaGreat.Abs
open Go
set_option linter.unusedVariables false
structure S60 where
  a0 : Int
  a1 : Int
  a2 : Int
  a3 : Int
  a4 : Int
  a5 : Int
  a6 : Int
  a7 : Int
  a8 : Int
  a9 : Int
  a10 : Int
  a11 : Int
  a12 : Int
  a13 : Int
  a14 : Int
  a15 : Bool
  a16 : Int
  a17 : Int
  a18 : Int
  a19 : Int
  a20 : Int
def en60 (x : S60) : List Value := [.int .i64 x.a0, .int .u64 x.a1, .int .u8 x.a2, .int .u8 x.a3, .int .u8 x.a4, .int .u8 x.a5, .int .u8 x.a6, .int .u8 x.a7, .int .u8 x.a8, .int .u8 x.a9, .int .u8 x.a10, .int .u8 x.a11, .int .u32 x.a12, .int .u64 x.a13, .int .u32 x.a14, .bool x.a15, .int .u32 x.a16, .int .i64 x.a17, .int .u32 x.a18, .int .u32 x.a19, .int .u32 x.a20]
theorem en60_len (x : S60) : (en60 x).length = 21 := rfl
theorem en60_one (x : S60) : (en60 x).all Value.oneCell' = true := rfl
def S60.wf (x : S60) : Prop := (-9223372036854775808 ≤ x.a0 ∧ x.a0 ≤ 9223372036854775807) ∧ (0 ≤ x.a1 ∧ x.a1 ≤ 18446744073709551615) ∧ (0 ≤ x.a2 ∧ x.a2 ≤ 255) ∧ (0 ≤ x.a3 ∧ x.a3 ≤ 255) ∧ (0 ≤ x.a4 ∧ x.a4 ≤ 255) ∧ (0 ≤ x.a5 ∧ x.a5 ≤ 255) ∧ (0 ≤ x.a6 ∧ x.a6 ≤ 255) ∧ (0 ≤ x.a7 ∧ x.a7 ≤ 255) ∧ (0 ≤ x.a8 ∧ x.a8 ≤ 255) ∧ (0 ≤ x.a9 ∧ x.a9 ≤ 255) ∧ (0 ≤ x.a10 ∧ x.a10 ≤ 255) ∧ (0 ≤ x.a11 ∧ x.a11 ≤ 255) ∧ (0 ≤ x.a12 ∧ x.a12 ≤ 4294967295) ∧ (0 ≤ x.a13 ∧ x.a13 ≤ 18446744073709551615) ∧ (0 ≤ x.a14 ∧ x.a14 ≤ 4294967295) ∧ (0 ≤ x.a16 ∧ x.a16 ≤ 4294967295) ∧ (-9223372036854775808 ≤ x.a17 ∧ x.a17 ≤ 9223372036854775807) ∧ (0 ≤ x.a18 ∧ x.a18 ≤ 4294967295) ∧ (0 ≤ x.a19 ∧ x.a19 ≤ 4294967295) ∧ (0 ≤ x.a20 ∧ x.a20 ≤ 4294967295)
end Go.Proofs.YtphadapcafibpaaGreat.Abs
