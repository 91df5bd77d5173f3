/-
  Votes and signed heads: sameness, marks; numbers and words in rows.
-/
import Derived.Test.YtodapaplfjfnlaaGreatPLOts2TQ
import Derived.Test.YtodapaplfjfnlaaGreatPLSet2TQ
import Derived.Test.YtodapaplfjfnlaaGreatPMVote
namespace Go.PI.Vote
open Go Go.PI Go.PI.Sha Go.PI.Rel Go.PI.Nest Go.PI.Tru
end Go.PI.Vote
namespace Go.Proofs.YtodapaplfjfnlaaGreat.Vote
open Go Go.PI Go.PI.Sha Go.PI.Rel Go.PI.Nest Go.PI.Tru Go.PI.Set Go.PI.Tree Go.PI.Vote Go.Proofs.YtodapaplfjfnlaaGreat.Sha Go.Proofs.YtodapaplfjfnlaaGreat.By Go.Proofs.YtodapaplfjfnlaaGreat.Nest Go.Proofs.YtodapaplfjfnlaaGreat.Tru Go.Proofs.YtodapaplfjfnlaaGreat.Set Go.Proofs.YtodapaplfjfnlaaGreat.Tree EqQ
set_option maxHeartbeats 1000000
set_option linter.unusedVariables false
set_option linter.unusedSimpArgs false
end Go.Proofs.YtodapaplfjfnlaaGreat.Vote
