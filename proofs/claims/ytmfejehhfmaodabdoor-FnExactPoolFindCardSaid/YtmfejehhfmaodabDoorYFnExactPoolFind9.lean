/- Own texts and the print's words that they use, joined by a program of this session. -/
import Derived.Test.YtmfejehhfmaodabDoorYFnExactPoolFind8
namespace Go.Proofs.YtmfejehhfmaodabDoorW.PrintWords
open Go.RowKit
namespace Kd
section
variable {α : Type} {d : Kd α} {W : World} {g n : Nat} {S ok : Nat → Prop} {A : Option Addr} {ad : Addr} {xs : List α}
end
end Kd
end Go.Proofs.YtmfejehhfmaodabDoorW.PrintWords
