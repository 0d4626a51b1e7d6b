/- Own texts, joined. -/
import Derived.Test.YthnnphinfiobmaaDoorYFnExactClash15
import Derived.Test.YthnnphinfiobmaaDoorYFnExactClash9
namespace Go.Proofs.YthnnphinfiobmaaDoorW.PrintWords
open RowKit
end Go.Proofs.YthnnphinfiobmaaDoorW.PrintWords
namespace Go.Proofs.YthnnphinfiobmaaDoorW.PrintLast
section
variable {ops : Array Oper} {a : Act} {o og : Oper} {g : Nat} {t : Tmp} {u : Bool}
end
end Go.Proofs.YthnnphinfiobmaaDoorW.PrintLast
