/-
  DERIVED. GIVEN WITH THE SEED: THE CARDS: each row of YthnnphinfiobmaaDoorRows.lean that lists a variable, with what it lists TIED to the program's text (the seventh form; the later family's looks); each row that meets fmt, with fmt's text TOLD by the authors' own Lean function (tested against real Go, not proved from fmt's source: count such statements apart). THE CARD IS WHAT COUNTS. Prove the row's statement (the work); the ties are given (YthnnphinfiobmaaDoorTie.lean); close each card by the builder's one call (the guide's Derived/Test/ToyasCard.lean, 'card_holds'). Laid BY PROGRAM, IN A SANDBOX (cutbox-door.mjs). By AI agents, Wed Nov 11 2026. No macro, syntax, notation, axiom, sorry.
-/
import Derived.Test.YthnnphinfiobmaaDoorRows
import GoSem.ClaimSeven
namespace Go.Proofs.YthnnphinfiobmaaDoor
namespace Rows

/-- THE TIED CARD OF 'laws.FnExactRoot'. -/
def fnExactRootCard : Claim7 := { stood := { row := fnExactRootRow, standIns := [], harness := (true, "94a1ed1dcf0824c9f3da22be4a832036996f22fffb586a37a0bb94bc7bf453e9"), looks := false }, kinds := [], alts := [], laidByText := true, laidKinds := [.data], laidTests := true, laidLooks := .later }
def FnExactRootCardSaid : Prop := Claim7.holds Tryd.pinned (.plain (OpenSpec.ofChange fnExactRootSpec)) fnExactRootCard

/-- THE TIED CARD OF 'laws.FnExactClash'. -/
def fnExactClashCard : Claim7 := { stood := { row := fnExactClashRow, standIns := [], harness := (true, "94a1ed1dcf0824c9f3da22be4a832036996f22fffb586a37a0bb94bc7bf453e9"), looks := false }, kinds := [], alts := [], laidByText := true, laidKinds := [.data], laidTests := true, laidLooks := .later }
def FnExactClashCardSaid : Prop := Claim7.holds Tryd.pinned (.plain (OpenSpec.ofChange fnExactClashSpec)) fnExactClashCard

/-- THE TIED CARD OF 'laws.FnExactRange'. -/
def fnExactRangeCard : Claim7 := { stood := { row := fnExactRangeRow, standIns := [], harness := (true, "94a1ed1dcf0824c9f3da22be4a832036996f22fffb586a37a0bb94bc7bf453e9"), looks := false }, kinds := [], alts := [], laidByText := true, laidKinds := [.data], laidTests := true, laidLooks := .later }
def FnExactRangeCardSaid : Prop := Claim7.holds Tryd.pinned (.plain (OpenSpec.ofChange fnExactRangeSpec)) fnExactRangeCard

/-- THE TIED CARD OF 'laws.FnExactLoad'. -/
def fnExactLoadCard : Claim7 := { stood := { row := fnExactLoadRow, standIns := [], harness := (true, "94a1ed1dcf0824c9f3da22be4a832036996f22fffb586a37a0bb94bc7bf453e9"), looks := false }, kinds := [], alts := [], laidByText := true, laidKinds := [.data], laidTests := true, laidLooks := .later }
def FnExactLoadCardSaid : Prop := Claim7.holds Tryd.pinned (.plain (OpenSpec.ofChange fnExactLoadSpec)) fnExactLoadCard

/-- THE TIED CARD OF 'laws.FnExactSave'. -/
def fnExactSaveCard : Claim7 := { stood := { row := fnExactSaveRow, standIns := [], harness := (true, "94a1ed1dcf0824c9f3da22be4a832036996f22fffb586a37a0bb94bc7bf453e9"), looks := false }, kinds := [], alts := [], laidByText := true, laidKinds := [.data], laidTests := true, laidLooks := .later }
def FnExactSaveCardSaid : Prop := Claim7.holds Tryd.pinned (.plain (OpenSpec.ofChange fnExactSaveSpec)) fnExactSaveCard

/-- THE TIED CARD OF 'laws.FnExactDiff'. -/
def fnExactDiffCard : Claim7 := { stood := { row := fnExactDiffRow, standIns := [], harness := (true, "94a1ed1dcf0824c9f3da22be4a832036996f22fffb586a37a0bb94bc7bf453e9"), looks := false }, kinds := [], alts := [], laidByText := true, laidKinds := [.data], laidTests := true, laidLooks := .later }
def FnExactDiffCardSaid : Prop := Claim7.holds Tryd.pinned (.plain (OpenSpec.ofChange fnExactDiffSpec)) fnExactDiffCard

/-- THE SECOND FORM's CARD OF 'laws.FnExactRoot'. -/
def fnExactRootUptoCard : Claim7 := { stood := { row := fnExactRootUptoRow, standIns := [], harness := (true, "94a1ed1dcf0824c9f3da22be4a832036996f22fffb586a37a0bb94bc7bf453e9"), looks := false }, kinds := [], alts := [], laidByText := true, laidKinds := [.data], laidTests := true, laidLooks := .later }
def FnExactRootUptoCardSaid : Prop := Claim7.holds Tryd.pinned (.plain (OpenSpec.upto fnExactRootSpec)) fnExactRootUptoCard

/-- THE SECOND FORM's CARD OF 'laws.FnExactClash'. -/
def fnExactClashUptoCard : Claim7 := { stood := { row := fnExactClashUptoRow, standIns := [], harness := (true, "94a1ed1dcf0824c9f3da22be4a832036996f22fffb586a37a0bb94bc7bf453e9"), looks := false }, kinds := [], alts := [], laidByText := true, laidKinds := [.data], laidTests := true, laidLooks := .later }
def FnExactClashUptoCardSaid : Prop := Claim7.holds Tryd.pinned (.plain (OpenSpec.upto fnExactClashSpec)) fnExactClashUptoCard

/-- THE SECOND FORM's CARD OF 'laws.FnExactRange'. -/
def fnExactRangeUptoCard : Claim7 := { stood := { row := fnExactRangeUptoRow, standIns := [], harness := (true, "94a1ed1dcf0824c9f3da22be4a832036996f22fffb586a37a0bb94bc7bf453e9"), looks := false }, kinds := [], alts := [], laidByText := true, laidKinds := [.data], laidTests := true, laidLooks := .later }
def FnExactRangeUptoCardSaid : Prop := Claim7.holds Tryd.pinned (.plain (OpenSpec.upto fnExactRangeSpec)) fnExactRangeUptoCard

/-- THE SECOND FORM's CARD OF 'laws.FnExactLoad'. -/
def fnExactLoadUptoCard : Claim7 := { stood := { row := fnExactLoadUptoRow, standIns := [], harness := (true, "94a1ed1dcf0824c9f3da22be4a832036996f22fffb586a37a0bb94bc7bf453e9"), looks := false }, kinds := [], alts := [], laidByText := true, laidKinds := [.data], laidTests := true, laidLooks := .later }
def FnExactLoadUptoCardSaid : Prop := Claim7.holds Tryd.pinned (.plain (OpenSpec.upto fnExactLoadSpec)) fnExactLoadUptoCard

/-- THE SECOND FORM's CARD OF 'laws.FnExactSave'. -/
def fnExactSaveUptoCard : Claim7 := { stood := { row := fnExactSaveUptoRow, standIns := [], harness := (true, "94a1ed1dcf0824c9f3da22be4a832036996f22fffb586a37a0bb94bc7bf453e9"), looks := false }, kinds := [], alts := [], laidByText := true, laidKinds := [.data], laidTests := true, laidLooks := .later }
def FnExactSaveUptoCardSaid : Prop := Claim7.holds Tryd.pinned (.plain (OpenSpec.upto fnExactSaveSpec)) fnExactSaveUptoCard

/-- THE SECOND FORM's CARD OF 'laws.FnExactDiff'. -/
def fnExactDiffUptoCard : Claim7 := { stood := { row := fnExactDiffUptoRow, standIns := [], harness := (true, "94a1ed1dcf0824c9f3da22be4a832036996f22fffb586a37a0bb94bc7bf453e9"), looks := false }, kinds := [], alts := [], laidByText := true, laidKinds := [.data], laidTests := true, laidLooks := .later }
def FnExactDiffUptoCardSaid : Prop := Claim7.holds Tryd.pinned (.plain (OpenSpec.upto fnExactDiffSpec)) fnExactDiffUptoCard
end Rows
end Go.Proofs.YthnnphinfiobmaaDoor
