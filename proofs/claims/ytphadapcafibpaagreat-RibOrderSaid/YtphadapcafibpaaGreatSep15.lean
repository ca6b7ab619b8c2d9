/- Bytes as strings, strings compared; slices as arrays; methods of values in interfaces. -/
import Derived.Test.YtphadapcafibpaaGreatBy
import Derived.Test.YtphadapcafibpaaGreatSep14
namespace Go.Proofs.YtphadapcafibpaaGreat.Abs
open Go
set_option linter.unusedVariables false
section
variable {C : Ctx} {hd : HH Prop} {l : Sl} {H : Hp} {x y : Operand} {t yt e : TypeId} {L M : List Int} {ad : Option Addr} {c : Nat}
end
end Go.Proofs.YtphadapcafibpaaGreat.Abs
