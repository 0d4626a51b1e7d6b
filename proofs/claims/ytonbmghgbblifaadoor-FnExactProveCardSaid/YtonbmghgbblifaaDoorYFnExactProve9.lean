/- Own texts, joined. -/
import Derived.Test.YtonbmghgbblifaaDoorYFnExactProve8
namespace Go.Proofs.YtonbmghgbblifaaDoorW.PrintWords
open RowKit
namespace Kd
section
variable {α : Type} {d : Kd α} {W : World} {g n : Nat} {S ok : Nat → Prop} {A : Option Addr} {ad : Addr} {xs : List α}
end
end Kd
end Go.Proofs.YtonbmghgbblifaaDoorW.PrintWords
