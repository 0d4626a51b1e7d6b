/- Own texts and the print's words that they use, joined by a program of this session. -/
import Derived.Test.YthnnphinfiobmaaDoorYFnExactRange15
import Derived.Test.YthnnphinfiobmaaDoorYFnExactRange9
namespace Go.Proofs.YthnnphinfiobmaaDoorW.PrintWords
open Go.RowKit
end Go.Proofs.YthnnphinfiobmaaDoorW.PrintWords
namespace Go.Proofs.YthnnphinfiobmaaDoorW.PrintLast
section
variable {ops : Array Oper} {a : Act} {o og : Oper} {g : Nat} {t : Tmp} {u : Bool}
end
end Go.Proofs.YthnnphinfiobmaaDoorW.PrintLast
