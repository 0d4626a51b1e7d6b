/- Own texts, joined. -/
import Derived.Test.YthnnphinfiobmaaDoorYFnExactClash0
namespace Go.Proofs.YthnnphinfiobmaaDoorW.PrintWords
open RowKit
section
variable {P : Program} {ops : Array Oper} {rest : List Oper} {o : Oper} {a : Act} {Q : Exit → Act → World → Prop} {W : World}
end
end Go.Proofs.YthnnphinfiobmaaDoorW.PrintWords
