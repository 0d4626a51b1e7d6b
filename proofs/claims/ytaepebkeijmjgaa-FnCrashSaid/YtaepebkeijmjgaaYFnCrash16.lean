/- Own texts, joined. -/
import Derived.Test.YtaepebkeijmjgaaYFnCrash15
import Derived.Test.YtaepebkeijmjgaaYFnCrash9
namespace Go.Proofs.YtaepebkeijmjgaaW.PrintWords
open Go.RowKit
end Go.Proofs.YtaepebkeijmjgaaW.PrintWords
namespace Go.Proofs.YtaepebkeijmjgaaW.PrintLast
section
variable {ops : Array Oper} {a : Act} {o og : Oper} {g : Nat} {t : Tmp} {u : Bool}
end
end Go.Proofs.YtaepebkeijmjgaaW.PrintLast
