/-
  Validators, heads that validators sign, trusts: sizes, copies, sameness, marks.
-/
import Derived.Test.YtehpmolckdmibaaGreatPLNestTP
import Derived.Test.YtehpmolckdmibaaGreatPMTrust
namespace Go.Proofs.YtehpmolckdmibaaGreat.Tru
open Go Go.PI Go.PI.Sha Go.PI.Rel Go.PI.Nest Go.PI.Tru Go.Proofs.YtehpmolckdmibaaGreat.Sha Go.Proofs.YtehpmolckdmibaaGreat.By Go.Proofs.YtehpmolckdmibaaGreat.Nest EqP
set_option maxHeartbeats 1000000
set_option linter.unusedVariables false
set_option linter.unusedSimpArgs false

/-! ### validators -/
end Go.Proofs.YtehpmolckdmibaaGreat.Tru
