/-
  No cell of these rows narrows 'for every input' (looked for: loops, veiled, ifaces, maps, wideKeys, modest, calm, conditions, laid).
  DERIVED. THE GIVEN ROWS OF THIS SEAT. 2 by the template 'for every input the law returns true; each argument reads behind the call as it read before'; 0 by the template 'total and deterministic' (their statements: YtmfejehhfmaodaaTotals.lean).
  GIVEN WITH THE SEED: the statements are not yours to turn. If you find one false, say at which input.
  Laid BY PROGRAM, IN A SANDBOX (cutbox-rows.mjs): the forced cells as the released guide's own fill.sh prints them over the translation bf1c1c604282a86c… (all of the seat's roots in one cut). By AI agents, Wed Nov 11 2026. No macro, syntax, notation, axiom, sorry.
-/
import Derived.Test.YtmfejehhfmaodaaChecked
import GoSem.Claim
import GoSem.ClaimJoined
import GoSem.ClaimMapViews
import Derived.JoinedTies
import Derived.KernelRfl
namespace Go.Proofs.Ytmfejehhfmaodaa
/- THE CELL 'sum', in the pinned program and in every row, IS THE sha256 OF THE DUMP (.gsa) THAT YtmfejehhfmaodaaProg.lean LOADS. Nothing in Lean hashes anything: it is a label: what it is worth is what the hold of that sum in a sandbox is worth. -/
noncomputable def Try.pinned : Pinned := { name := "ytmfejehhfmaodaa", sum := "bf1c1c604282a86c675c906e95b93295b164621f478196a782abb29efa5b6614", checked := Try.checked }
namespace Rows
def none {H : Type} : Left H := { results := [], args := [] }

/-- 'laws.FnExactCommitRecord': WHATEVER THE INPUT: true; the input reads as it did. -/
def fnExactCommitRecordSpec : ChangeSpec := { name := "fnExactCommitRecord", fn := fun _ => fun
  | [d1, d2] => { results := [.lit (.bool true)], args := [d1, d2] }
  | _ => none }
def fnExactCommitRecordRow : OpenClaim := { program := "ytmfejehhfmaodaa", sum := "bf1c1c604282a86c675c906e95b93295b164621f478196a782abb29efa5b6614", func := "loop.example/s03048/laws.FnExactCommitRecord", spec := "fnExactCommitRecord", inPlace := ["internal/abi.NoEscape", "internal/bytealg.MakeNoZero"], recurses := true, apart := false }
def FnExactCommitRecordSaid : Prop := fnExactCommitRecordRow.holds Try.pinned (OpenSpec.ofChange fnExactCommitRecordSpec)

/-- ITS FALSE NEIGHBOUR: 'it returns false'. Refute it at one input. -/
def fnExactCommitRecordWrong : ChangeSpec := { name := "fnExactCommitRecord", fn := fun _ => fun
  | [d1, d2] => { results := [.lit (.bool false)], args := [d1, d2] }
  | _ => none }
def FnExactCommitRecordWrongFalsely : Prop := fnExactCommitRecordRow.holds Try.pinned (OpenSpec.ofChange fnExactCommitRecordWrong)

/-- 'laws.FnExactNodeRecord': WHATEVER THE INPUT: true; the input reads as it did. -/
def fnExactNodeRecordSpec : ChangeSpec := { name := "fnExactNodeRecord", fn := fun _ => fun
  | [d] => { results := [.lit (.bool true)], args := [d] }
  | _ => none }
def fnExactNodeRecordRow : OpenClaim := { program := "ytmfejehhfmaodaa", sum := "bf1c1c604282a86c675c906e95b93295b164621f478196a782abb29efa5b6614", func := "loop.example/s03048/laws.FnExactNodeRecord", spec := "fnExactNodeRecord", inPlace := ["internal/abi.NoEscape", "internal/bytealg.MakeNoZero"], recurses := true, apart := false }
def FnExactNodeRecordSaid : Prop := fnExactNodeRecordRow.holds Try.pinned (OpenSpec.ofChange fnExactNodeRecordSpec)

/-- ITS FALSE NEIGHBOUR: 'it returns false'. Refute it at one input. -/
def fnExactNodeRecordWrong : ChangeSpec := { name := "fnExactNodeRecord", fn := fun _ => fun
  | [d] => { results := [.lit (.bool false)], args := [d] }
  | _ => none }
def FnExactNodeRecordWrongFalsely : Prop := fnExactNodeRecordRow.holds Try.pinned (OpenSpec.ofChange fnExactNodeRecordWrong)

/- THE SECOND FORM. 'bulk': how many values and letters a reading holds, each counted each time it is reached (what is shared counts as often as it is met; a slice's spare places count too). A statement '..UptoSaid' is the law's where the arguments, and the package variables that the reading takes, are together of bulk at most 1048576: NARROWER than '..Said'. Prove '..Said' where nothing that the law and all that it calls make is longer than what came in: it says more and counts as full. Else prove '..UptoSaid'. A law counts once. -/
mutual
def uptoBulk {H : Type} : DataW H → Nat
  | .lit (.string bytes) => bytes.length + 1
  | .lit _ => 1
  | .nil => 1
  | .ptr d => uptoBulk d + 1
  | .slice elems spare => uptoBulkAll elems + uptoBulkAll spare + 1
  | .agg parts => uptoBulkAll parts + 1
  | .iface _ d => uptoBulk d + 1
  | .map entries => uptoBulkEntries entries + 1
  | .held _ => 1
def uptoBulkAll {H : Type} : List (DataW H) → Nat
  | [] => 0
  | d :: r => uptoBulk d + uptoBulkAll r
def uptoBulkEntries {H : Type} : List (Lit × DataW H) → Nat
  | [] => 0
  | x :: r => uptoBulkEntry x + uptoBulkEntries r
def uptoBulkEntry {H : Type} : Lit × DataW H → Nat
  | (.string bytes, d) => bytes.length + uptoBulk d + 1
  | (_, d) => uptoBulk d + 1
 end
def uptoSmall : (H : Type) → List (DataW H) → Bool := fun _ ds => decide (uptoBulkAll ds ≤ 1048576)
def OpenSpec.upto (s : _root_.Go.ChangeSpec) : _root_.Go.OpenSpec := { _root_.Go.OpenSpec.ofChange s with cond := some uptoSmall }

/-- 'laws.FnExactCommitRecord', WHERE WHAT IT READS IS OF BULK AT MOST 1048576: true; the input reads as it did. -/
def fnExactCommitRecordUptoRow : OpenClaim := { program := "ytmfejehhfmaodaa", sum := "bf1c1c604282a86c675c906e95b93295b164621f478196a782abb29efa5b6614", func := "loop.example/s03048/laws.FnExactCommitRecord", spec := "fnExactCommitRecord", inPlace := ["internal/abi.NoEscape", "internal/bytealg.MakeNoZero"], recurses := true, apart := false, narrowed := true }
def FnExactCommitRecordUptoSaid : Prop := fnExactCommitRecordUptoRow.holds Try.pinned (OpenSpec.upto fnExactCommitRecordSpec)

/-- 'laws.FnExactNodeRecord', WHERE WHAT IT READS IS OF BULK AT MOST 1048576: true; the input reads as it did. -/
def fnExactNodeRecordUptoRow : OpenClaim := { program := "ytmfejehhfmaodaa", sum := "bf1c1c604282a86c675c906e95b93295b164621f478196a782abb29efa5b6614", func := "loop.example/s03048/laws.FnExactNodeRecord", spec := "fnExactNodeRecord", inPlace := ["internal/abi.NoEscape", "internal/bytealg.MakeNoZero"], recurses := true, apart := false, narrowed := true }
def FnExactNodeRecordUptoSaid : Prop := fnExactNodeRecordUptoRow.holds Try.pinned (OpenSpec.upto fnExactNodeRecordSpec)

end Rows
end Go.Proofs.Ytmfejehhfmaodaa
