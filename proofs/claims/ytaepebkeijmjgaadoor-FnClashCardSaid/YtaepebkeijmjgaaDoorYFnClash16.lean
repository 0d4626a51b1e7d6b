/- Own texts, joined. -/
import Derived.Test.YtaepebkeijmjgaaDoorYFnClash15
import Derived.Test.YtaepebkeijmjgaaDoorYFnClash9
namespace Go.Proofs.YtaepebkeijmjgaaDoorW.PrintWords
open RowKit
end Go.Proofs.YtaepebkeijmjgaaDoorW.PrintWords
namespace Go.Proofs.YtaepebkeijmjgaaDoorW.PrintLast
section
variable {ops : Array Oper} {a : Act} {o og : Oper} {g : Nat} {t : Tmp} {u : Bool}
end
end Go.Proofs.YtaepebkeijmjgaaDoorW.PrintLast
