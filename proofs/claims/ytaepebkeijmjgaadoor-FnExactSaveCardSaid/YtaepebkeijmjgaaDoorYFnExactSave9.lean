/- Own texts, joined. -/
import Derived.Test.YtaepebkeijmjgaaDoorYFnExactSave8
namespace Go.Proofs.YtaepebkeijmjgaaDoorW.PrintWords
open RowKit
namespace Kd
section
variable {α : Type} {d : Kd α} {W : World} {g n : Nat} {S ok : Nat → Prop} {A : Option Addr} {ad : Addr} {xs : List α}
end
end Kd
end Go.Proofs.YtaepebkeijmjgaaDoorW.PrintWords
