/-
  DERIVED. GIVEN WITH THE SEED: THE CARDS: each row of YtmfejehhfmaodabDoorRows.lean that lists a variable, with what it lists TIED to the program's text (the seventh form; the later family's looks); each row that meets fmt, with fmt's text TOLD by the authors' own Lean function (tested against real Go, not proved from fmt's source: count such statements apart). THE CARD IS WHAT COUNTS. Prove the row's statement (the work); the ties are given (YtmfejehhfmaodabDoorTie.lean); close each card by the builder's one call (the guide's Derived/Test/ToyasCard.lean, 'card_holds'). Laid BY PROGRAM, IN A SANDBOX (cutbox-door.mjs). By AI agents, Wed Nov 11 2026. No macro, syntax, notation, axiom, sorry.
-/
import Derived.Test.YtmfejehhfmaodabDoorRows
import GoSem.ClaimSeven
namespace Go.Proofs.YtmfejehhfmaodabDoor
namespace Rows

/-- THE TIED CARD OF 'laws.FnExactPoolFind'. -/
def fnExactPoolFindCard : Claim7 := { stood := { row := fnExactPoolFindRow, standIns := [], harness := (true, "6defe876e7c9d58a3d84228b57f4209cfbe340e82e0f9dbde04990e3a8b74821"), looks := false }, kinds := [], alts := [], laidByText := true, laidKinds := [.data], laidTests := true, laidLooks := .later }
def FnExactPoolFindCardSaid : Prop := Claim7.holds Tryd.pinned (.plain (OpenSpec.ofChange fnExactPoolFindSpec)) fnExactPoolFindCard

/-- THE TIED CARD OF 'laws.FnExactRoot'. -/
def fnExactRootCard : Claim7 := { stood := { row := fnExactRootRow, standIns := [], harness := (true, "6defe876e7c9d58a3d84228b57f4209cfbe340e82e0f9dbde04990e3a8b74821"), looks := false }, kinds := [], alts := [], laidByText := true, laidKinds := [.data], laidTests := true, laidLooks := .later }
def FnExactRootCardSaid : Prop := Claim7.holds Tryd.pinned (.plain (OpenSpec.ofChange fnExactRootSpec)) fnExactRootCard

/-- THE TIED CARD OF 'laws.FnExactReadRecord'. -/
def fnExactReadRecordCard : Claim7 := { stood := { row := fnExactReadRecordRow, standIns := [], harness := (true, "6defe876e7c9d58a3d84228b57f4209cfbe340e82e0f9dbde04990e3a8b74821"), looks := false }, kinds := [], alts := [], laidByText := true, laidKinds := [.data, .pinned], laidTests := true, laidLooks := .later }
def FnExactReadRecordCardSaid : Prop := Claim7.holds Tryd.pinned (.plain (OpenSpec.ofChange fnExactReadRecordSpec)) fnExactReadRecordCard

/-- THE TIED CARD OF 'laws.FnExactClash'. -/
def fnExactClashCard : Claim7 := { stood := { row := fnExactClashRow, standIns := [], harness := (true, "6defe876e7c9d58a3d84228b57f4209cfbe340e82e0f9dbde04990e3a8b74821"), looks := false }, kinds := [], alts := [], laidByText := true, laidKinds := [.data], laidTests := true, laidLooks := .later }
def FnExactClashCardSaid : Prop := Claim7.holds Tryd.pinned (.plain (OpenSpec.ofChange fnExactClashSpec)) fnExactClashCard

/-- THE TIED CARD OF 'laws.FnExactRange'. -/
def fnExactRangeCard : Claim7 := { stood := { row := fnExactRangeRow, standIns := [], harness := (true, "6defe876e7c9d58a3d84228b57f4209cfbe340e82e0f9dbde04990e3a8b74821"), looks := false }, kinds := [], alts := [], laidByText := true, laidKinds := [.data], laidTests := true, laidLooks := .later }
def FnExactRangeCardSaid : Prop := Claim7.holds Tryd.pinned (.plain (OpenSpec.ofChange fnExactRangeSpec)) fnExactRangeCard

/-- THE TIED CARD OF 'laws.FnExactLoad'. -/
def fnExactLoadCard : Claim7 := { stood := { row := fnExactLoadRow, standIns := [], harness := (true, "6defe876e7c9d58a3d84228b57f4209cfbe340e82e0f9dbde04990e3a8b74821"), looks := false }, kinds := [], alts := [], laidByText := true, laidKinds := [.data], laidTests := true, laidLooks := .later }
def FnExactLoadCardSaid : Prop := Claim7.holds Tryd.pinned (.plain (OpenSpec.ofChange fnExactLoadSpec)) fnExactLoadCard

/-- THE SECOND FORM's CARD OF 'laws.FnExactPoolFind'. -/
def fnExactPoolFindUptoCard : Claim7 := { stood := { row := fnExactPoolFindUptoRow, standIns := [], harness := (true, "6defe876e7c9d58a3d84228b57f4209cfbe340e82e0f9dbde04990e3a8b74821"), looks := false }, kinds := [], alts := [], laidByText := true, laidKinds := [.data], laidTests := true, laidLooks := .later }
def FnExactPoolFindUptoCardSaid : Prop := Claim7.holds Tryd.pinned (.plain (OpenSpec.upto fnExactPoolFindSpec)) fnExactPoolFindUptoCard

/-- THE SECOND FORM's CARD OF 'laws.FnExactRoot'. -/
def fnExactRootUptoCard : Claim7 := { stood := { row := fnExactRootUptoRow, standIns := [], harness := (true, "6defe876e7c9d58a3d84228b57f4209cfbe340e82e0f9dbde04990e3a8b74821"), looks := false }, kinds := [], alts := [], laidByText := true, laidKinds := [.data], laidTests := true, laidLooks := .later }
def FnExactRootUptoCardSaid : Prop := Claim7.holds Tryd.pinned (.plain (OpenSpec.upto fnExactRootSpec)) fnExactRootUptoCard

/-- THE SECOND FORM's CARD OF 'laws.FnExactReadRecord'. -/
def fnExactReadRecordUptoCard : Claim7 := { stood := { row := fnExactReadRecordUptoRow, standIns := [], harness := (true, "6defe876e7c9d58a3d84228b57f4209cfbe340e82e0f9dbde04990e3a8b74821"), looks := false }, kinds := [], alts := [], laidByText := true, laidKinds := [.data, .pinned], laidTests := true, laidLooks := .later }
def FnExactReadRecordUptoCardSaid : Prop := Claim7.holds Tryd.pinned (.plain (OpenSpec.upto fnExactReadRecordSpec)) fnExactReadRecordUptoCard

/-- THE SECOND FORM's CARD OF 'laws.FnExactClash'. -/
def fnExactClashUptoCard : Claim7 := { stood := { row := fnExactClashUptoRow, standIns := [], harness := (true, "6defe876e7c9d58a3d84228b57f4209cfbe340e82e0f9dbde04990e3a8b74821"), looks := false }, kinds := [], alts := [], laidByText := true, laidKinds := [.data], laidTests := true, laidLooks := .later }
def FnExactClashUptoCardSaid : Prop := Claim7.holds Tryd.pinned (.plain (OpenSpec.upto fnExactClashSpec)) fnExactClashUptoCard

/-- THE SECOND FORM's CARD OF 'laws.FnExactRange'. -/
def fnExactRangeUptoCard : Claim7 := { stood := { row := fnExactRangeUptoRow, standIns := [], harness := (true, "6defe876e7c9d58a3d84228b57f4209cfbe340e82e0f9dbde04990e3a8b74821"), looks := false }, kinds := [], alts := [], laidByText := true, laidKinds := [.data], laidTests := true, laidLooks := .later }
def FnExactRangeUptoCardSaid : Prop := Claim7.holds Tryd.pinned (.plain (OpenSpec.upto fnExactRangeSpec)) fnExactRangeUptoCard

/-- THE SECOND FORM's CARD OF 'laws.FnExactLoad'. -/
def fnExactLoadUptoCard : Claim7 := { stood := { row := fnExactLoadUptoRow, standIns := [], harness := (true, "6defe876e7c9d58a3d84228b57f4209cfbe340e82e0f9dbde04990e3a8b74821"), looks := false }, kinds := [], alts := [], laidByText := true, laidKinds := [.data], laidTests := true, laidLooks := .later }
def FnExactLoadUptoCardSaid : Prop := Claim7.holds Tryd.pinned (.plain (OpenSpec.upto fnExactLoadSpec)) fnExactLoadUptoCard
end Rows
end Go.Proofs.YtmfejehhfmaodabDoor
