/- Own texts, joined. -/
import Derived.Test.YtonbmghgbblifaaDoorYFnExactProve15
import Derived.Test.YtonbmghgbblifaaDoorYFnExactProve9
namespace Go.Proofs.YtonbmghgbblifaaDoorW.PrintWords
open RowKit
end Go.Proofs.YtonbmghgbblifaaDoorW.PrintWords
namespace Go.Proofs.YtonbmghgbblifaaDoorW.PrintLast
section
variable {ops : Array Oper} {a : Act} {o og : Oper} {g : Nat} {t : Tmp} {u : Bool}
end
end Go.Proofs.YtonbmghgbblifaaDoorW.PrintLast
