/- The law FnExactConstants answers true: every constant is the document's. No condition. -/
import Derived.Test.YtmpegllbfcgjiaaPFnExactConstantsx1
namespace Go.Proofs.Ytmpegllbfcgjiaa.Pure
open Go.RowKit Go.Proofs.Ytmpegllbfcgjiaa.PFnExactConstants Go.Proofs.YtmpegllbfcgjiaaW.PrintWords Go.Proofs.YtmpegllbfcgjiaaW.PrintLast

/-- YOURS: laws_FnExactConstants.f  = some true
What it reaches (each with k first where it has rounds; `.mono`: more rounds tell the same; `.l0`, ..: its loops, with `.mono_l`): laws_FnExactConstants.f -/
theorem FnExactConstants : laws_FnExactConstants.Pure := by
  rfl

end Go.Proofs.Ytmpegllbfcgjiaa.Pure
