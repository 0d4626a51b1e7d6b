/-
  NARROWER THAN 'FOR EVERY INPUT', by the rows' own cells (each row's printed sentence says how): FnExactRoot: laid · FnExactClash: laid · FnExactRange: laid · FnExactLoad: laid · FnExactSave: laid · FnExactDiff: laid.
  DERIVED. THE GIVEN ROWS OF THIS SEAT. 6 by the template 'for every input the law returns true; each argument reads behind the call as it read before'; 0 by the template 'total and deterministic' (their statements: YthnnphinfiobmaaDoorTotals.lean).
  GIVEN WITH THE SEED: the statements are not yours to turn. If you find one false, say at which input.
  Laid BY PROGRAM, IN A SANDBOX (cutbox-rows.mjs): the forced cells as the released guide's own fill.sh prints them over the translation 462b8ab422fcf9f4… (all of the seat's roots in one cut). By AI agents, Wed Nov 11 2026. No macro, syntax, notation, axiom, sorry.
-/
import Derived.Test.YthnnphinfiobmaaDoorChecked
import GoSem.Claim
import GoSem.ClaimJoined
import GoSem.ClaimMapViews
import Derived.JoinedTies
import Derived.KernelRfl
namespace Go.Proofs.YthnnphinfiobmaaDoor
/- THE CELL 'sum', in the pinned program and in every row, IS THE sha256 OF THE DUMP (.gsa) THAT YthnnphinfiobmaaDoorProg.lean LOADS. Nothing in Lean hashes anything: it is a label: what it is worth is what the hold of that sum in a sandbox is worth. -/
noncomputable def Tryd.pinned : Pinned := { name := "ythnnphinfiobmaadoor", sum := "462b8ab422fcf9f48de6554d938d1a464a518947926cda188b251e728350aa97", checked := Tryd.checked }
namespace Rows
def none {H : Type} : Left H := { results := [], args := [] }

/- WHAT THE LISTED PACKAGE-LEVEL VARIABLES READ AS WHEN THE CALL BEGINS. Each datum BY PROGRAM (the guide's laid-datum.mjs) off the statement by which the dump's own 'gosem.cut.vars' lays the variable. In a bare row this is a premise. The card (YthnnphinfiobmaaDoorCards.lean) ties it to the program's text. -/
def laid_loop_example_s03048_impl_roundWords {H : Type} : DataW H := .agg [.lit (.int .u32 1116352408), .lit (.int .u32 1899447441), .lit (.int .u32 3049323471), .lit (.int .u32 3921009573), .lit (.int .u32 961987163), .lit (.int .u32 1508970993), .lit (.int .u32 2453635748), .lit (.int .u32 2870763221), .lit (.int .u32 3624381080), .lit (.int .u32 310598401), .lit (.int .u32 607225278), .lit (.int .u32 1426881987), .lit (.int .u32 1925078388), .lit (.int .u32 2162078206), .lit (.int .u32 2614888103), .lit (.int .u32 3248222580), .lit (.int .u32 3835390401), .lit (.int .u32 4022224774), .lit (.int .u32 264347078), .lit (.int .u32 604807628), .lit (.int .u32 770255983), .lit (.int .u32 1249150122), .lit (.int .u32 1555081692), .lit (.int .u32 1996064986), .lit (.int .u32 2554220882), .lit (.int .u32 2821834349), .lit (.int .u32 2952996808), .lit (.int .u32 3210313671), .lit (.int .u32 3336571891), .lit (.int .u32 3584528711), .lit (.int .u32 113926993), .lit (.int .u32 338241895), .lit (.int .u32 666307205), .lit (.int .u32 773529912), .lit (.int .u32 1294757372), .lit (.int .u32 1396182291), .lit (.int .u32 1695183700), .lit (.int .u32 1986661051), .lit (.int .u32 2177026350), .lit (.int .u32 2456956037), .lit (.int .u32 2730485921), .lit (.int .u32 2820302411), .lit (.int .u32 3259730800), .lit (.int .u32 3345764771), .lit (.int .u32 3516065817), .lit (.int .u32 3600352804), .lit (.int .u32 4094571909), .lit (.int .u32 275423344), .lit (.int .u32 430227734), .lit (.int .u32 506948616), .lit (.int .u32 659060556), .lit (.int .u32 883997877), .lit (.int .u32 958139571), .lit (.int .u32 1322822218), .lit (.int .u32 1537002063), .lit (.int .u32 1747873779), .lit (.int .u32 1955562222), .lit (.int .u32 2024104815), .lit (.int .u32 2227730452), .lit (.int .u32 2361852424), .lit (.int .u32 2428436474), .lit (.int .u32 2756734187), .lit (.int .u32 3204031479), .lit (.int .u32 3329325298)]

/-- 'laws.FnExactRoot': WHATEVER THE INPUT: true; the input reads as it did. -/
def fnExactRootSpec : ChangeSpec := { name := "fnExactRoot", vars := ["loop.example/s03048/impl.roundWords"], fn := fun _ => fun
  | [d1, d2, g1] => { results := [.lit (.bool true)], args := [d1, d2], vars := [g1] }
  | _ => none }
def fnExactRootRow : OpenClaim := { program := "ythnnphinfiobmaadoor", sum := "462b8ab422fcf9f48de6554d938d1a464a518947926cda188b251e728350aa97", func := "loop.example/s03048/laws.FnExactRoot", spec := "fnExactRoot", inPlace := ["internal/abi.NoEscape"], unfollowed := true, recurses := true, named := ["loop.example/s03048/impl.roundWords"], plainKeys := false, apart := false, laid := [("loop.example/s03048/impl.roundWords", laid_loop_example_s03048_impl_roundWords)] }
def FnExactRootSaid : Prop := fnExactRootRow.holds Tryd.pinned (OpenSpec.ofChange fnExactRootSpec)

/-- ITS FALSE NEIGHBOUR: 'it returns false'. Refute it at one input. -/
def fnExactRootWrong : ChangeSpec := { name := "fnExactRoot", vars := ["loop.example/s03048/impl.roundWords"], fn := fun _ => fun
  | [d1, d2, g1] => { results := [.lit (.bool false)], args := [d1, d2], vars := [g1] }
  | _ => none }
def FnExactRootWrongFalsely : Prop := fnExactRootRow.holds Tryd.pinned (OpenSpec.ofChange fnExactRootWrong)

/-- 'laws.FnExactClash': WHATEVER THE INPUT: true; the input reads as it did. -/
def fnExactClashSpec : ChangeSpec := { name := "fnExactClash", vars := ["loop.example/s03048/impl.roundWords"], fn := fun _ => fun
  | [d1, d2, d3, g1] => { results := [.lit (.bool true)], args := [d1, d2, d3], vars := [g1] }
  | _ => none }
def fnExactClashRow : OpenClaim := { program := "ythnnphinfiobmaadoor", sum := "462b8ab422fcf9f48de6554d938d1a464a518947926cda188b251e728350aa97", func := "loop.example/s03048/laws.FnExactClash", spec := "fnExactClash", inPlace := ["internal/abi.NoEscape"], unfollowed := true, recurses := true, named := ["loop.example/s03048/impl.roundWords"], plainKeys := false, apart := false, laid := [("loop.example/s03048/impl.roundWords", laid_loop_example_s03048_impl_roundWords)] }
def FnExactClashSaid : Prop := fnExactClashRow.holds Tryd.pinned (OpenSpec.ofChange fnExactClashSpec)

/-- ITS FALSE NEIGHBOUR: 'it returns false'. Refute it at one input. -/
def fnExactClashWrong : ChangeSpec := { name := "fnExactClash", vars := ["loop.example/s03048/impl.roundWords"], fn := fun _ => fun
  | [d1, d2, d3, g1] => { results := [.lit (.bool false)], args := [d1, d2, d3], vars := [g1] }
  | _ => none }
def FnExactClashWrongFalsely : Prop := fnExactClashRow.holds Tryd.pinned (OpenSpec.ofChange fnExactClashWrong)

/-- 'laws.FnExactRange': WHATEVER THE INPUT: true; the input reads as it did. -/
def fnExactRangeSpec : ChangeSpec := { name := "fnExactRange", vars := ["loop.example/s03048/impl.roundWords"], fn := fun _ => fun
  | [d1, d2, d3, d4, g1] => { results := [.lit (.bool true)], args := [d1, d2, d3, d4], vars := [g1] }
  | _ => none }
def fnExactRangeRow : OpenClaim := { program := "ythnnphinfiobmaadoor", sum := "462b8ab422fcf9f48de6554d938d1a464a518947926cda188b251e728350aa97", func := "loop.example/s03048/laws.FnExactRange", spec := "fnExactRange", unfollowed := true, recurses := true, named := ["loop.example/s03048/impl.roundWords"], plainKeys := false, apart := false, laid := [("loop.example/s03048/impl.roundWords", laid_loop_example_s03048_impl_roundWords)] }
def FnExactRangeSaid : Prop := fnExactRangeRow.holds Tryd.pinned (OpenSpec.ofChange fnExactRangeSpec)

/-- ITS FALSE NEIGHBOUR: 'it returns false'. Refute it at one input. -/
def fnExactRangeWrong : ChangeSpec := { name := "fnExactRange", vars := ["loop.example/s03048/impl.roundWords"], fn := fun _ => fun
  | [d1, d2, d3, d4, g1] => { results := [.lit (.bool false)], args := [d1, d2, d3, d4], vars := [g1] }
  | _ => none }
def FnExactRangeWrongFalsely : Prop := fnExactRangeRow.holds Tryd.pinned (OpenSpec.ofChange fnExactRangeWrong)

/-- 'laws.FnExactLoad': WHATEVER THE INPUT: true; the input reads as it did. -/
def fnExactLoadSpec : ChangeSpec := { name := "fnExactLoad", vars := ["loop.example/s03048/impl.roundWords"], fn := fun _ => fun
  | [d1, d2, g1] => { results := [.lit (.bool true)], args := [d1, d2], vars := [g1] }
  | _ => none }
def fnExactLoadRow : OpenClaim := { program := "ythnnphinfiobmaadoor", sum := "462b8ab422fcf9f48de6554d938d1a464a518947926cda188b251e728350aa97", func := "loop.example/s03048/laws.FnExactLoad", spec := "fnExactLoad", unfollowed := true, recurses := true, named := ["loop.example/s03048/impl.roundWords"], plainKeys := false, apart := false, laid := [("loop.example/s03048/impl.roundWords", laid_loop_example_s03048_impl_roundWords)] }
def FnExactLoadSaid : Prop := fnExactLoadRow.holds Tryd.pinned (OpenSpec.ofChange fnExactLoadSpec)

/-- ITS FALSE NEIGHBOUR: 'it returns false'. Refute it at one input. -/
def fnExactLoadWrong : ChangeSpec := { name := "fnExactLoad", vars := ["loop.example/s03048/impl.roundWords"], fn := fun _ => fun
  | [d1, d2, g1] => { results := [.lit (.bool false)], args := [d1, d2], vars := [g1] }
  | _ => none }
def FnExactLoadWrongFalsely : Prop := fnExactLoadRow.holds Tryd.pinned (OpenSpec.ofChange fnExactLoadWrong)

/-- 'laws.FnExactSave': WHATEVER THE INPUT: true; the input reads as it did. -/
def fnExactSaveSpec : ChangeSpec := { name := "fnExactSave", vars := ["loop.example/s03048/impl.roundWords"], fn := fun _ => fun
  | [d1, d2, g1] => { results := [.lit (.bool true)], args := [d1, d2], vars := [g1] }
  | _ => none }
def fnExactSaveRow : OpenClaim := { program := "ythnnphinfiobmaadoor", sum := "462b8ab422fcf9f48de6554d938d1a464a518947926cda188b251e728350aa97", func := "loop.example/s03048/laws.FnExactSave", spec := "fnExactSave", inPlace := ["internal/abi.NoEscape"], unfollowed := true, recurses := true, named := ["loop.example/s03048/impl.roundWords"], plainKeys := false, apart := false, laid := [("loop.example/s03048/impl.roundWords", laid_loop_example_s03048_impl_roundWords)] }
def FnExactSaveSaid : Prop := fnExactSaveRow.holds Tryd.pinned (OpenSpec.ofChange fnExactSaveSpec)

/-- ITS FALSE NEIGHBOUR: 'it returns false'. Refute it at one input. -/
def fnExactSaveWrong : ChangeSpec := { name := "fnExactSave", vars := ["loop.example/s03048/impl.roundWords"], fn := fun _ => fun
  | [d1, d2, g1] => { results := [.lit (.bool false)], args := [d1, d2], vars := [g1] }
  | _ => none }
def FnExactSaveWrongFalsely : Prop := fnExactSaveRow.holds Tryd.pinned (OpenSpec.ofChange fnExactSaveWrong)

/-- 'laws.FnExactDiff': WHATEVER THE INPUT: true; the input reads as it did. -/
def fnExactDiffSpec : ChangeSpec := { name := "fnExactDiff", vars := ["loop.example/s03048/impl.roundWords"], fn := fun _ => fun
  | [d1, d2, d3, g1] => { results := [.lit (.bool true)], args := [d1, d2, d3], vars := [g1] }
  | _ => none }
def fnExactDiffRow : OpenClaim := { program := "ythnnphinfiobmaadoor", sum := "462b8ab422fcf9f48de6554d938d1a464a518947926cda188b251e728350aa97", func := "loop.example/s03048/laws.FnExactDiff", spec := "fnExactDiff", unfollowed := true, recurses := true, named := ["loop.example/s03048/impl.roundWords"], plainKeys := false, apart := false, laid := [("loop.example/s03048/impl.roundWords", laid_loop_example_s03048_impl_roundWords)] }
def FnExactDiffSaid : Prop := fnExactDiffRow.holds Tryd.pinned (OpenSpec.ofChange fnExactDiffSpec)

/-- ITS FALSE NEIGHBOUR: 'it returns false'. Refute it at one input. -/
def fnExactDiffWrong : ChangeSpec := { name := "fnExactDiff", vars := ["loop.example/s03048/impl.roundWords"], fn := fun _ => fun
  | [d1, d2, d3, g1] => { results := [.lit (.bool false)], args := [d1, d2, d3], vars := [g1] }
  | _ => none }
def FnExactDiffWrongFalsely : Prop := fnExactDiffRow.holds Tryd.pinned (OpenSpec.ofChange fnExactDiffWrong)

/- THE SECOND FORM. 'bulk': how many values and letters a reading holds, each counted each time it is reached (what is shared counts as often as it is met; a slice's spare places count too). A statement '..UptoSaid' is the law's where the arguments, and the package variables that the reading takes, are together of bulk at most 1048576: NARROWER than '..Said'. Prove '..Said' where nothing that the law and all that it calls make is longer than what came in: it says more and counts as full. Else prove '..UptoSaid'. A law counts once. -/
mutual
def uptoBulk {H : Type} : DataW H → Nat
  | .lit (.string bytes) => bytes.length + 1
  | .lit _ => 1
  | .nil => 1
  | .ptr d => uptoBulk d + 1
  | .slice elems spare => uptoBulkAll elems + uptoBulkAll spare + 1
  | .agg parts => uptoBulkAll parts + 1
  | .iface _ d => uptoBulk d + 1
  | .map entries => uptoBulkEntries entries + 1
  | .held _ => 1
def uptoBulkAll {H : Type} : List (DataW H) → Nat
  | [] => 0
  | d :: r => uptoBulk d + uptoBulkAll r
def uptoBulkEntries {H : Type} : List (Lit × DataW H) → Nat
  | [] => 0
  | x :: r => uptoBulkEntry x + uptoBulkEntries r
def uptoBulkEntry {H : Type} : Lit × DataW H → Nat
  | (.string bytes, d) => bytes.length + uptoBulk d + 1
  | (_, d) => uptoBulk d + 1
 end
def uptoSmall : (H : Type) → List (DataW H) → Bool := fun _ ds => decide (uptoBulkAll ds ≤ 1048576)
def OpenSpec.upto (s : _root_.Go.ChangeSpec) : _root_.Go.OpenSpec := { _root_.Go.OpenSpec.ofChange s with cond := some uptoSmall }

/-- 'laws.FnExactRoot', WHERE WHAT IT READS IS OF BULK AT MOST 1048576: true; the input reads as it did. -/
def fnExactRootUptoRow : OpenClaim := { program := "ythnnphinfiobmaadoor", sum := "462b8ab422fcf9f48de6554d938d1a464a518947926cda188b251e728350aa97", func := "loop.example/s03048/laws.FnExactRoot", spec := "fnExactRoot", inPlace := ["internal/abi.NoEscape"], unfollowed := true, recurses := true, named := ["loop.example/s03048/impl.roundWords"], plainKeys := false, apart := false, laid := [("loop.example/s03048/impl.roundWords", laid_loop_example_s03048_impl_roundWords)], narrowed := true }
def FnExactRootUptoSaid : Prop := fnExactRootUptoRow.holds Tryd.pinned (OpenSpec.upto fnExactRootSpec)

/-- 'laws.FnExactClash', WHERE WHAT IT READS IS OF BULK AT MOST 1048576: true; the input reads as it did. -/
def fnExactClashUptoRow : OpenClaim := { program := "ythnnphinfiobmaadoor", sum := "462b8ab422fcf9f48de6554d938d1a464a518947926cda188b251e728350aa97", func := "loop.example/s03048/laws.FnExactClash", spec := "fnExactClash", inPlace := ["internal/abi.NoEscape"], unfollowed := true, recurses := true, named := ["loop.example/s03048/impl.roundWords"], plainKeys := false, apart := false, laid := [("loop.example/s03048/impl.roundWords", laid_loop_example_s03048_impl_roundWords)], narrowed := true }
def FnExactClashUptoSaid : Prop := fnExactClashUptoRow.holds Tryd.pinned (OpenSpec.upto fnExactClashSpec)

/-- 'laws.FnExactRange', WHERE WHAT IT READS IS OF BULK AT MOST 1048576: true; the input reads as it did. -/
def fnExactRangeUptoRow : OpenClaim := { program := "ythnnphinfiobmaadoor", sum := "462b8ab422fcf9f48de6554d938d1a464a518947926cda188b251e728350aa97", func := "loop.example/s03048/laws.FnExactRange", spec := "fnExactRange", unfollowed := true, recurses := true, named := ["loop.example/s03048/impl.roundWords"], plainKeys := false, apart := false, laid := [("loop.example/s03048/impl.roundWords", laid_loop_example_s03048_impl_roundWords)], narrowed := true }
def FnExactRangeUptoSaid : Prop := fnExactRangeUptoRow.holds Tryd.pinned (OpenSpec.upto fnExactRangeSpec)

/-- 'laws.FnExactLoad', WHERE WHAT IT READS IS OF BULK AT MOST 1048576: true; the input reads as it did. -/
def fnExactLoadUptoRow : OpenClaim := { program := "ythnnphinfiobmaadoor", sum := "462b8ab422fcf9f48de6554d938d1a464a518947926cda188b251e728350aa97", func := "loop.example/s03048/laws.FnExactLoad", spec := "fnExactLoad", unfollowed := true, recurses := true, named := ["loop.example/s03048/impl.roundWords"], plainKeys := false, apart := false, laid := [("loop.example/s03048/impl.roundWords", laid_loop_example_s03048_impl_roundWords)], narrowed := true }
def FnExactLoadUptoSaid : Prop := fnExactLoadUptoRow.holds Tryd.pinned (OpenSpec.upto fnExactLoadSpec)

/-- 'laws.FnExactSave', WHERE WHAT IT READS IS OF BULK AT MOST 1048576: true; the input reads as it did. -/
def fnExactSaveUptoRow : OpenClaim := { program := "ythnnphinfiobmaadoor", sum := "462b8ab422fcf9f48de6554d938d1a464a518947926cda188b251e728350aa97", func := "loop.example/s03048/laws.FnExactSave", spec := "fnExactSave", inPlace := ["internal/abi.NoEscape"], unfollowed := true, recurses := true, named := ["loop.example/s03048/impl.roundWords"], plainKeys := false, apart := false, laid := [("loop.example/s03048/impl.roundWords", laid_loop_example_s03048_impl_roundWords)], narrowed := true }
def FnExactSaveUptoSaid : Prop := fnExactSaveUptoRow.holds Tryd.pinned (OpenSpec.upto fnExactSaveSpec)

/-- 'laws.FnExactDiff', WHERE WHAT IT READS IS OF BULK AT MOST 1048576: true; the input reads as it did. -/
def fnExactDiffUptoRow : OpenClaim := { program := "ythnnphinfiobmaadoor", sum := "462b8ab422fcf9f48de6554d938d1a464a518947926cda188b251e728350aa97", func := "loop.example/s03048/laws.FnExactDiff", spec := "fnExactDiff", unfollowed := true, recurses := true, named := ["loop.example/s03048/impl.roundWords"], plainKeys := false, apart := false, laid := [("loop.example/s03048/impl.roundWords", laid_loop_example_s03048_impl_roundWords)], narrowed := true }
def FnExactDiffUptoSaid : Prop := fnExactDiffUptoRow.holds Tryd.pinned (OpenSpec.upto fnExactDiffSpec)

end Rows
end Go.Proofs.YthnnphinfiobmaaDoor
