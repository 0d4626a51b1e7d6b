/-
  DERIVED. GIVEN WITH THE SEED: THE CARDS: each row of YtonbmghgbblifaaDoorRows.lean that lists a variable, with what it lists TIED to the program's text (the seventh form; the later family's looks); each row that meets fmt, with fmt's text TOLD by the authors' own Lean function (tested against real Go, not proved from fmt's source: count such statements apart). THE CARD IS WHAT COUNTS. Prove the row's statement (the work); the ties are given (YtonbmghgbblifaaDoorTie.lean); close each card by the builder's one call (the guide's Derived/Test/ToyasCard.lean, 'card_holds'). Laid BY PROGRAM, IN A SANDBOX (cutbox-door.mjs). By AI agents, Wed Nov 11 2026. No macro, syntax, notation, axiom, sorry.
-/
import Derived.Test.YtonbmghgbblifaaDoorRows
import GoSem.ClaimSeven
namespace Go.Proofs.YtonbmghgbblifaaDoor
namespace Rows

/-- THE TIED CARD OF 'laws.FnExactVerify'. -/
def fnExactVerifyCard : Claim7 := { stood := { row := fnExactVerifyRow, standIns := [], harness := (true, "67b4205af3ac08a5e668b62d81b96f19d0c510826841cdd808ec1bd691fca943"), looks := true }, kinds := [], alts := [], laidByText := true, laidKinds := [.data], laidTests := true, laidLooks := .later }
def FnExactVerifyCardSaid : Prop := Claim7.holds Tryd.pinned (.plain (OpenSpec.ofChange fnExactVerifySpec)) fnExactVerifyCard

/-- THE TIED CARD OF 'laws.FnExactProve'. -/
def fnExactProveCard : Claim7 := { stood := { row := fnExactProveRow, standIns := [], harness := (true, "67b4205af3ac08a5e668b62d81b96f19d0c510826841cdd808ec1bd691fca943"), looks := true }, kinds := [], alts := [], laidByText := true, laidKinds := [.data], laidTests := true, laidLooks := .later }
def FnExactProveCardSaid : Prop := Claim7.holds Tryd.pinned (.plain (OpenSpec.ofChange fnExactProveSpec)) fnExactProveCard

/-- THE TIED CARD OF 'laws.FnExactExtract'. -/
def fnExactExtractCard : Claim7 := { stood := { row := fnExactExtractRow, standIns := [], harness := (true, "67b4205af3ac08a5e668b62d81b96f19d0c510826841cdd808ec1bd691fca943"), looks := true }, kinds := [], alts := [], laidByText := true, laidKinds := [.data], laidTests := true, laidLooks := .later }
def FnExactExtractCardSaid : Prop := Claim7.holds Tryd.pinned (.plain (OpenSpec.ofChange fnExactExtractSpec)) fnExactExtractCard

/-- THE TIED CARD OF 'laws.FnExactScan'. -/
def fnExactScanCard : Claim7 := { stood := { row := fnExactScanRow, standIns := [], harness := (true, "67b4205af3ac08a5e668b62d81b96f19d0c510826841cdd808ec1bd691fca943"), looks := true }, kinds := [], alts := [], laidByText := true, laidKinds := [.data, .data, .pinned], laidTests := true, laidLooks := .later }
def FnExactScanCardSaid : Prop := Claim7.holds Tryd.pinned (.plain (OpenSpec.ofChange fnExactScanSpec)) fnExactScanCard

/-- THE TIED CARD OF 'laws.FnCodec'. -/
def fnCodecCard : Claim7 := { stood := { row := fnCodecRow, standIns := [], harness := (true, "67b4205af3ac08a5e668b62d81b96f19d0c510826841cdd808ec1bd691fca943"), looks := true }, kinds := [], alts := [], laidByText := true, laidKinds := [.data, .data, .pinned], laidTests := true, laidLooks := .later }
def FnCodecCardSaid : Prop := Claim7.holds Tryd.pinned (.plain (OpenSpec.ofChange fnCodecSpec)) fnCodecCard

/-- THE SECOND FORM's CARD OF 'laws.FnExactVerify'. -/
def fnExactVerifyUptoCard : Claim7 := { stood := { row := fnExactVerifyUptoRow, standIns := [], harness := (true, "67b4205af3ac08a5e668b62d81b96f19d0c510826841cdd808ec1bd691fca943"), looks := true }, kinds := [], alts := [], laidByText := true, laidKinds := [.data], laidTests := true, laidLooks := .later }
def FnExactVerifyUptoCardSaid : Prop := Claim7.holds Tryd.pinned (.plain (OpenSpec.upto fnExactVerifySpec)) fnExactVerifyUptoCard

/-- THE SECOND FORM's CARD OF 'laws.FnExactProve'. -/
def fnExactProveUptoCard : Claim7 := { stood := { row := fnExactProveUptoRow, standIns := [], harness := (true, "67b4205af3ac08a5e668b62d81b96f19d0c510826841cdd808ec1bd691fca943"), looks := true }, kinds := [], alts := [], laidByText := true, laidKinds := [.data], laidTests := true, laidLooks := .later }
def FnExactProveUptoCardSaid : Prop := Claim7.holds Tryd.pinned (.plain (OpenSpec.upto fnExactProveSpec)) fnExactProveUptoCard

/-- THE SECOND FORM's CARD OF 'laws.FnExactExtract'. -/
def fnExactExtractUptoCard : Claim7 := { stood := { row := fnExactExtractUptoRow, standIns := [], harness := (true, "67b4205af3ac08a5e668b62d81b96f19d0c510826841cdd808ec1bd691fca943"), looks := true }, kinds := [], alts := [], laidByText := true, laidKinds := [.data], laidTests := true, laidLooks := .later }
def FnExactExtractUptoCardSaid : Prop := Claim7.holds Tryd.pinned (.plain (OpenSpec.upto fnExactExtractSpec)) fnExactExtractUptoCard

/-- THE SECOND FORM's CARD OF 'laws.FnExactScan'. -/
def fnExactScanUptoCard : Claim7 := { stood := { row := fnExactScanUptoRow, standIns := [], harness := (true, "67b4205af3ac08a5e668b62d81b96f19d0c510826841cdd808ec1bd691fca943"), looks := true }, kinds := [], alts := [], laidByText := true, laidKinds := [.data, .data, .pinned], laidTests := true, laidLooks := .later }
def FnExactScanUptoCardSaid : Prop := Claim7.holds Tryd.pinned (.plain (OpenSpec.upto fnExactScanSpec)) fnExactScanUptoCard

/-- THE SECOND FORM's CARD OF 'laws.FnCodec'. -/
def fnCodecUptoCard : Claim7 := { stood := { row := fnCodecUptoRow, standIns := [], harness := (true, "67b4205af3ac08a5e668b62d81b96f19d0c510826841cdd808ec1bd691fca943"), looks := true }, kinds := [], alts := [], laidByText := true, laidKinds := [.data, .data, .pinned], laidTests := true, laidLooks := .later }
def FnCodecUptoCardSaid : Prop := Claim7.holds Tryd.pinned (.plain (OpenSpec.upto fnCodecSpec)) fnCodecUptoCard
end Rows
end Go.Proofs.YtonbmghgbblifaaDoor
