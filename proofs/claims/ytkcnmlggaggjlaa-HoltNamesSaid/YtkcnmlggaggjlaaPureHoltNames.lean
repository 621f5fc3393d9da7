/- Every error, limit and kind is the document's: the plain statement behind the row of HoltNames. No conditions. -/
import Derived.Test.YtkcnmlggaggjlaaHn3
namespace Go.Proofs.Ytkcnmlggaggjlaa.Pure
open Go.RowKit Go.Proofs.Ytkcnmlggaggjlaa.Hn Go.Proofs.YtkcnmlggaggjlaaW.PrintWords Go.Proofs.YtkcnmlggaggjlaaW.PrintLast
theorem HoltNames : holtlaw0_HoltNames.Pure := by
  unfold holtlaw0_HoltNames.Pure
  decide
end Go.Proofs.Ytkcnmlggaggjlaa.Pure
