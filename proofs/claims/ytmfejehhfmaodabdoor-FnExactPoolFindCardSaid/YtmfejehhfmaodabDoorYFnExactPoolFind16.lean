/- Own texts and the print's words that they use, joined by a program of this session. -/
import Derived.Test.YtmfejehhfmaodabDoorYFnExactPoolFind15
import Derived.Test.YtmfejehhfmaodabDoorYFnExactPoolFind9
namespace Go.Proofs.YtmfejehhfmaodabDoorW.PrintWords
open Go.RowKit
end Go.Proofs.YtmfejehhfmaodabDoorW.PrintWords
namespace Go.Proofs.YtmfejehhfmaodabDoorW.PrintLast
section
variable {ops : Array Oper} {a : Act} {o og : Oper} {g : Nat} {t : Tmp} {u : Bool}
end
end Go.Proofs.YtmfejehhfmaodabDoorW.PrintLast
