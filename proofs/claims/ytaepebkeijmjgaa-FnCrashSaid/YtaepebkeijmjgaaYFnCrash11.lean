/- Own texts, joined. -/
import Derived.Test.YtaepebkeijmjgaaYFnCrash0
import Derived.Laws.StructEq
namespace Go.Proofs.YtaepebkeijmjgaaW.PrintWords
open Go.RowKit
section
variable {P : Program} {d : Nat} {xs ys : Array Value} {f : Field} {fs : List Field} {a b : Value} {r s : Bool} {w : World}
end
end Go.Proofs.YtaepebkeijmjgaaW.PrintWords
