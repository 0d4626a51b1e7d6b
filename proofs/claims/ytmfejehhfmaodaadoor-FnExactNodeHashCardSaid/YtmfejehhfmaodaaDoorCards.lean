/-
  DERIVED. GIVEN WITH THE SEED: THE CARDS: each row of YtmfejehhfmaodaaDoorRows.lean that lists a variable, with what it lists TIED to the program's text (the seventh form; the later family's looks); each row that meets fmt, with fmt's text TOLD by the authors' own Lean function (tested against real Go, not proved from fmt's source: count such statements apart). THE CARD IS WHAT COUNTS. Prove the row's statement (the work); the ties are given (YtmfejehhfmaodaaDoorTie.lean); close each card by the builder's one call (the guide's Derived/Test/ToyasCard.lean, 'card_holds'). Laid BY PROGRAM, IN A SANDBOX (cutbox-door.mjs). By AI agents, Wed Nov 11 2026. No macro, syntax, notation, axiom, sorry.
-/
import Derived.Test.YtmfejehhfmaodaaDoorRows
import GoSem.ClaimSeven
namespace Go.Proofs.YtmfejehhfmaodaaDoor
namespace Rows

/-- THE TIED CARD OF 'laws.FnExactSha256'. -/
def fnExactSha256Card : Claim7 := { stood := { row := fnExactSha256Row, standIns := [], harness := (true, "3e2523582cc7b1b9d2b646625fd58788ab16283cec3251bfd5841d48feb4d3da"), looks := false }, kinds := [], alts := [], laidByText := true, laidKinds := [.data], laidTests := true, laidLooks := .later }
def FnExactSha256CardSaid : Prop := Claim7.holds Tryd.pinned (.plain (OpenSpec.ofChange fnExactSha256Spec)) fnExactSha256Card

/-- THE TIED CARD OF 'laws.FnExactDigest'. -/
def fnExactDigestCard : Claim7 := { stood := { row := fnExactDigestRow, standIns := [], harness := (true, "3e2523582cc7b1b9d2b646625fd58788ab16283cec3251bfd5841d48feb4d3da"), looks := false }, kinds := [], alts := [], laidByText := true, laidKinds := [.data], laidTests := true, laidLooks := .later }
def FnExactDigestCardSaid : Prop := Claim7.holds Tryd.pinned (.plain (OpenSpec.ofChange fnExactDigestSpec)) fnExactDigestCard

/-- THE TIED CARD OF 'laws.FnExactHigher'. -/
def fnExactHigherCard : Claim7 := { stood := { row := fnExactHigherRow, standIns := [], harness := (true, "3e2523582cc7b1b9d2b646625fd58788ab16283cec3251bfd5841d48feb4d3da"), looks := false }, kinds := [], alts := [], laidByText := true, laidKinds := [.data], laidTests := true, laidLooks := .later }
def FnExactHigherCardSaid : Prop := Claim7.holds Tryd.pinned (.plain (OpenSpec.ofChange fnExactHigherSpec)) fnExactHigherCard

/-- THE TIED CARD OF 'laws.FnExactNodeHash'. -/
def fnExactNodeHashCard : Claim7 := { stood := { row := fnExactNodeHashRow, standIns := [], harness := (true, "3e2523582cc7b1b9d2b646625fd58788ab16283cec3251bfd5841d48feb4d3da"), looks := false }, kinds := [], alts := [], laidByText := true, laidKinds := [.data], laidTests := true, laidLooks := .later }
def FnExactNodeHashCardSaid : Prop := Claim7.holds Tryd.pinned (.plain (OpenSpec.ofChange fnExactNodeHashSpec)) fnExactNodeHashCard

/-- THE SECOND FORM's CARD OF 'laws.FnExactSha256'. -/
def fnExactSha256UptoCard : Claim7 := { stood := { row := fnExactSha256UptoRow, standIns := [], harness := (true, "3e2523582cc7b1b9d2b646625fd58788ab16283cec3251bfd5841d48feb4d3da"), looks := false }, kinds := [], alts := [], laidByText := true, laidKinds := [.data], laidTests := true, laidLooks := .later }
def FnExactSha256UptoCardSaid : Prop := Claim7.holds Tryd.pinned (.plain (OpenSpec.upto fnExactSha256Spec)) fnExactSha256UptoCard

/-- THE SECOND FORM's CARD OF 'laws.FnExactDigest'. -/
def fnExactDigestUptoCard : Claim7 := { stood := { row := fnExactDigestUptoRow, standIns := [], harness := (true, "3e2523582cc7b1b9d2b646625fd58788ab16283cec3251bfd5841d48feb4d3da"), looks := false }, kinds := [], alts := [], laidByText := true, laidKinds := [.data], laidTests := true, laidLooks := .later }
def FnExactDigestUptoCardSaid : Prop := Claim7.holds Tryd.pinned (.plain (OpenSpec.upto fnExactDigestSpec)) fnExactDigestUptoCard

/-- THE SECOND FORM's CARD OF 'laws.FnExactHigher'. -/
def fnExactHigherUptoCard : Claim7 := { stood := { row := fnExactHigherUptoRow, standIns := [], harness := (true, "3e2523582cc7b1b9d2b646625fd58788ab16283cec3251bfd5841d48feb4d3da"), looks := false }, kinds := [], alts := [], laidByText := true, laidKinds := [.data], laidTests := true, laidLooks := .later }
def FnExactHigherUptoCardSaid : Prop := Claim7.holds Tryd.pinned (.plain (OpenSpec.upto fnExactHigherSpec)) fnExactHigherUptoCard

/-- THE SECOND FORM's CARD OF 'laws.FnExactNodeHash'. -/
def fnExactNodeHashUptoCard : Claim7 := { stood := { row := fnExactNodeHashUptoRow, standIns := [], harness := (true, "3e2523582cc7b1b9d2b646625fd58788ab16283cec3251bfd5841d48feb4d3da"), looks := false }, kinds := [], alts := [], laidByText := true, laidKinds := [.data], laidTests := true, laidLooks := .later }
def FnExactNodeHashUptoCardSaid : Prop := Claim7.holds Tryd.pinned (.plain (OpenSpec.upto fnExactNodeHashSpec)) fnExactNodeHashUptoCard
end Rows
end Go.Proofs.YtmfejehhfmaodaaDoor
