/- Own texts, joined. -/
import Derived.Test.YtaepebkeijmjgaaYFnCrash12
namespace Go.Proofs.YtaepebkeijmjgaaW.PrintLast
section
variable {P : Program} {ops : Array Oper} {Q : Exit → Act → World → Prop} {md : Region.Mode} {S : World → Prop} {ds : List Nat} {T : Bool × List (List Nat × List Nat)}
end
end Go.Proofs.YtaepebkeijmjgaaW.PrintLast
