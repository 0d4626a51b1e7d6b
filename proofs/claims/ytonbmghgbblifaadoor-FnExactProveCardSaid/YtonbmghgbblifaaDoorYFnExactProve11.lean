/- Own texts, joined. -/
import Derived.Test.YtonbmghgbblifaaDoorYFnExactProve0
import Derived.Laws.StructEq
namespace Go.Proofs.YtonbmghgbblifaaDoorW.PrintWords
open RowKit
section
variable {P : Program} {d : Nat} {xs ys : Array Value} {f : Field} {fs : List Field} {a b : Value} {r s : Bool} {w : World}
end
end Go.Proofs.YtonbmghgbblifaaDoorW.PrintWords
