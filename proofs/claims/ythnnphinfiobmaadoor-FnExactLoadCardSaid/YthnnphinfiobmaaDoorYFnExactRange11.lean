/- Own texts and the print's words that they use, joined by a program of this session. -/
import Derived.Test.YthnnphinfiobmaaDoorYFnExactRange0
import Derived.Laws.StructEq
namespace Go.Proofs.YthnnphinfiobmaaDoorW.PrintWords
open Go.RowKit
section
variable {P : Program} {d : Nat} {xs ys : Array Value} {f : Field} {fs : List Field} {a b : Value} {r s : Bool} {w : World}
end
end Go.Proofs.YthnnphinfiobmaaDoorW.PrintWords
