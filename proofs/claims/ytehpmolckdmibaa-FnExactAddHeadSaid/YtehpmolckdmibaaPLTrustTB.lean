/-
  Validators, heads that validators sign, trusts: sizes, copies, sameness, marks.
-/
import Derived.Test.YtehpmolckdmibaaPLNestTB
import Derived.Test.YtehpmolckdmibaaPMTrust
namespace Go.Proofs.Ytehpmolckdmibaa.Tru
open Go Go.PI Go.PI.Sha Go.PI.Rel Go.PI.Nest Go.PI.Tru Go.Proofs.Ytehpmolckdmibaa.Sha Go.Proofs.Ytehpmolckdmibaa.By Go.Proofs.Ytehpmolckdmibaa.Nest EqB
set_option maxHeartbeats 1000000
set_option linter.unusedVariables false
set_option linter.unusedSimpArgs false

/-! ### validators -/
end Go.Proofs.Ytehpmolckdmibaa.Tru
