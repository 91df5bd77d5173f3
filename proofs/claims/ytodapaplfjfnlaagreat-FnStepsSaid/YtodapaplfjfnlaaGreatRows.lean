/-
  No cell of these rows narrows 'for every input' (looked for: loops, veiled, ifaces, maps, wideKeys, modest, calm, conditions, laid).
  DERIVED. THE GIVEN ROWS OF THIS SEAT. 5 by the template 'for every input the law returns true; each argument reads behind the call as it read before'; 0 by the template 'total and deterministic' (their statements: YtodapaplfjfnlaaGreatTotals.lean).
  GIVEN WITH THE SEED: the statements are not yours to turn. If you find one false, say at which input.
  Laid BY PROGRAM, IN A SANDBOX (cutbox-rows.mjs): the forced cells as the released guide's own fill.sh prints them over the translation a003deed51d22115… (all of the seat's roots in one cut). By AI agents, Wed Nov 11 2026. No macro, syntax, notation, axiom, sorry.
-/
import Derived.Test.YtodapaplfjfnlaaGreatChecked
import GoSem.Claim
import GoSem.ClaimJoined
import GoSem.ClaimMapViews
import Derived.JoinedTies
import Derived.KernelRfl
namespace Go.Proofs.YtodapaplfjfnlaaGreat
/- THE CELL 'sum', in the pinned program and in every row, IS THE sha256 OF THE DUMP (.gsa) THAT YtodapaplfjfnlaaGreatProg.lean LOADS. Nothing in Lean hashes anything: it is a label: what it is worth is what the hold of that sum in a sandbox is worth. -/
noncomputable def Tryz.pinned : Pinned := { name := "ytodapaplfjfnlaagreat", sum := "a003deed51d22115e81fdd33f1a7bc774b309a8b4e2706b463647cf3b4e28acd", checked := Tryz.checked }
namespace Rows
def none {H : Type} : Left H := { results := [], args := [] }

/-- 'laws.FnClients': WHATEVER THE INPUT: true; the input reads as it did. -/
def fnClientsSpec : ChangeSpec := { name := "fnClients", fn := fun _ => fun
  | [d] => { results := [.lit (.bool true)], args := [d] }
  | _ => none }
def fnClientsRow : OpenClaim := { program := "ytodapaplfjfnlaagreat", sum := "a003deed51d22115e81fdd33f1a7bc774b309a8b4e2706b463647cf3b4e28acd", func := "loop.example/g00143/laws.FnClients", spec := "fnClients", unfollowed := true, recurses := true, apart := false }
def FnClientsSaid : Prop := fnClientsRow.holds Tryz.pinned (OpenSpec.ofChange fnClientsSpec)

/-- ITS FALSE NEIGHBOUR: 'it returns false'. Refute it at one input. -/
def fnClientsWrong : ChangeSpec := { name := "fnClients", fn := fun _ => fun
  | [d] => { results := [.lit (.bool false)], args := [d] }
  | _ => none }
def FnClientsWrongFalsely : Prop := fnClientsRow.holds Tryz.pinned (OpenSpec.ofChange fnClientsWrong)

/-- 'laws.FnPrunes': WHATEVER THE INPUT: true; the input reads as it did. -/
def fnPrunesSpec : ChangeSpec := { name := "fnPrunes", fn := fun _ => fun
  | [d] => { results := [.lit (.bool true)], args := [d] }
  | _ => none }
def fnPrunesRow : OpenClaim := { program := "ytodapaplfjfnlaagreat", sum := "a003deed51d22115e81fdd33f1a7bc774b309a8b4e2706b463647cf3b4e28acd", func := "loop.example/g00143/laws.FnPrunes", spec := "fnPrunes", unfollowed := true, recurses := true, apart := false }
def FnPrunesSaid : Prop := fnPrunesRow.holds Tryz.pinned (OpenSpec.ofChange fnPrunesSpec)

/-- ITS FALSE NEIGHBOUR: 'it returns false'. Refute it at one input. -/
def fnPrunesWrong : ChangeSpec := { name := "fnPrunes", fn := fun _ => fun
  | [d] => { results := [.lit (.bool false)], args := [d] }
  | _ => none }
def FnPrunesWrongFalsely : Prop := fnPrunesRow.holds Tryz.pinned (OpenSpec.ofChange fnPrunesWrong)

/-- 'laws.FnFrauds': WHATEVER THE INPUT: true; the input reads as it did. -/
def fnFraudsSpec : ChangeSpec := { name := "fnFrauds", fn := fun _ => fun
  | [d] => { results := [.lit (.bool true)], args := [d] }
  | _ => none }
def fnFraudsRow : OpenClaim := { program := "ytodapaplfjfnlaagreat", sum := "a003deed51d22115e81fdd33f1a7bc774b309a8b4e2706b463647cf3b4e28acd", func := "loop.example/g00143/laws.FnFrauds", spec := "fnFrauds", unfollowed := true, recurses := true, apart := false }
def FnFraudsSaid : Prop := fnFraudsRow.holds Tryz.pinned (OpenSpec.ofChange fnFraudsSpec)

/-- ITS FALSE NEIGHBOUR: 'it returns false'. Refute it at one input. -/
def fnFraudsWrong : ChangeSpec := { name := "fnFrauds", fn := fun _ => fun
  | [d] => { results := [.lit (.bool false)], args := [d] }
  | _ => none }
def FnFraudsWrongFalsely : Prop := fnFraudsRow.holds Tryz.pinned (OpenSpec.ofChange fnFraudsWrong)

/-- 'laws.FnOlds': WHATEVER THE INPUT: true; the input reads as it did. -/
def fnOldsSpec : ChangeSpec := { name := "fnOlds", fn := fun _ => fun
  | [d] => { results := [.lit (.bool true)], args := [d] }
  | _ => none }
def fnOldsRow : OpenClaim := { program := "ytodapaplfjfnlaagreat", sum := "a003deed51d22115e81fdd33f1a7bc774b309a8b4e2706b463647cf3b4e28acd", func := "loop.example/g00143/laws.FnOlds", spec := "fnOlds", unfollowed := true, recurses := true, apart := false }
def FnOldsSaid : Prop := fnOldsRow.holds Tryz.pinned (OpenSpec.ofChange fnOldsSpec)

/-- ITS FALSE NEIGHBOUR: 'it returns false'. Refute it at one input. -/
def fnOldsWrong : ChangeSpec := { name := "fnOlds", fn := fun _ => fun
  | [d] => { results := [.lit (.bool false)], args := [d] }
  | _ => none }
def FnOldsWrongFalsely : Prop := fnOldsRow.holds Tryz.pinned (OpenSpec.ofChange fnOldsWrong)

/-- 'laws.FnSteps': WHATEVER THE INPUT: true; the input reads as it did. -/
def fnStepsSpec : ChangeSpec := { name := "fnSteps", fn := fun _ => fun
  | [d] => { results := [.lit (.bool true)], args := [d] }
  | _ => none }
def fnStepsRow : OpenClaim := { program := "ytodapaplfjfnlaagreat", sum := "a003deed51d22115e81fdd33f1a7bc774b309a8b4e2706b463647cf3b4e28acd", func := "loop.example/g00143/laws.FnSteps", spec := "fnSteps", unfollowed := true, recurses := true, apart := false }
def FnStepsSaid : Prop := fnStepsRow.holds Tryz.pinned (OpenSpec.ofChange fnStepsSpec)

/-- ITS FALSE NEIGHBOUR: 'it returns false'. Refute it at one input. -/
def fnStepsWrong : ChangeSpec := { name := "fnSteps", fn := fun _ => fun
  | [d] => { results := [.lit (.bool false)], args := [d] }
  | _ => none }
def FnStepsWrongFalsely : Prop := fnStepsRow.holds Tryz.pinned (OpenSpec.ofChange fnStepsWrong)

/- THE SECOND FORM. 'bulk': how many values and letters a reading holds, each counted each time it is reached (what is shared counts as often as it is met; a slice's spare places count too). A statement '..UptoSaid' is the law's where the arguments, and the package variables that the reading takes, are together of bulk at most 1048576: NARROWER than '..Said'. Prove '..Said' where nothing that the law and all that it calls make is longer than what came in: it says more and counts as full. Else prove '..UptoSaid'. A law counts once. -/
mutual
def uptoBulk {H : Type} : DataW H → Nat
  | .lit (.string bytes) => bytes.length + 1
  | .lit _ => 1
  | .nil => 1
  | .ptr d => uptoBulk d + 1
  | .slice elems spare => uptoBulkAll elems + uptoBulkAll spare + 1
  | .agg parts => uptoBulkAll parts + 1
  | .iface _ d => uptoBulk d + 1
  | .map entries => uptoBulkEntries entries + 1
  | .held _ => 1
def uptoBulkAll {H : Type} : List (DataW H) → Nat
  | [] => 0
  | d :: r => uptoBulk d + uptoBulkAll r
def uptoBulkEntries {H : Type} : List (Lit × DataW H) → Nat
  | [] => 0
  | x :: r => uptoBulkEntry x + uptoBulkEntries r
def uptoBulkEntry {H : Type} : Lit × DataW H → Nat
  | (.string bytes, d) => bytes.length + uptoBulk d + 1
  | (_, d) => uptoBulk d + 1
 end
def uptoSmall : (H : Type) → List (DataW H) → Bool := fun _ ds => decide (uptoBulkAll ds ≤ 1048576)
def OpenSpec.upto (s : _root_.Go.ChangeSpec) : _root_.Go.OpenSpec := { _root_.Go.OpenSpec.ofChange s with cond := some uptoSmall }

/-- 'laws.FnClients', WHERE WHAT IT READS IS OF BULK AT MOST 1048576: true; the input reads as it did. -/
def fnClientsUptoRow : OpenClaim := { program := "ytodapaplfjfnlaagreat", sum := "a003deed51d22115e81fdd33f1a7bc774b309a8b4e2706b463647cf3b4e28acd", func := "loop.example/g00143/laws.FnClients", spec := "fnClients", unfollowed := true, recurses := true, apart := false, narrowed := true }
def FnClientsUptoSaid : Prop := fnClientsUptoRow.holds Tryz.pinned (OpenSpec.upto fnClientsSpec)

/-- 'laws.FnPrunes', WHERE WHAT IT READS IS OF BULK AT MOST 1048576: true; the input reads as it did. -/
def fnPrunesUptoRow : OpenClaim := { program := "ytodapaplfjfnlaagreat", sum := "a003deed51d22115e81fdd33f1a7bc774b309a8b4e2706b463647cf3b4e28acd", func := "loop.example/g00143/laws.FnPrunes", spec := "fnPrunes", unfollowed := true, recurses := true, apart := false, narrowed := true }
def FnPrunesUptoSaid : Prop := fnPrunesUptoRow.holds Tryz.pinned (OpenSpec.upto fnPrunesSpec)

/-- 'laws.FnFrauds', WHERE WHAT IT READS IS OF BULK AT MOST 1048576: true; the input reads as it did. -/
def fnFraudsUptoRow : OpenClaim := { program := "ytodapaplfjfnlaagreat", sum := "a003deed51d22115e81fdd33f1a7bc774b309a8b4e2706b463647cf3b4e28acd", func := "loop.example/g00143/laws.FnFrauds", spec := "fnFrauds", unfollowed := true, recurses := true, apart := false, narrowed := true }
def FnFraudsUptoSaid : Prop := fnFraudsUptoRow.holds Tryz.pinned (OpenSpec.upto fnFraudsSpec)

/-- 'laws.FnOlds', WHERE WHAT IT READS IS OF BULK AT MOST 1048576: true; the input reads as it did. -/
def fnOldsUptoRow : OpenClaim := { program := "ytodapaplfjfnlaagreat", sum := "a003deed51d22115e81fdd33f1a7bc774b309a8b4e2706b463647cf3b4e28acd", func := "loop.example/g00143/laws.FnOlds", spec := "fnOlds", unfollowed := true, recurses := true, apart := false, narrowed := true }
def FnOldsUptoSaid : Prop := fnOldsUptoRow.holds Tryz.pinned (OpenSpec.upto fnOldsSpec)

/-- 'laws.FnSteps', WHERE WHAT IT READS IS OF BULK AT MOST 1048576: true; the input reads as it did. -/
def fnStepsUptoRow : OpenClaim := { program := "ytodapaplfjfnlaagreat", sum := "a003deed51d22115e81fdd33f1a7bc774b309a8b4e2706b463647cf3b4e28acd", func := "loop.example/g00143/laws.FnSteps", spec := "fnSteps", unfollowed := true, recurses := true, apart := false, narrowed := true }
def FnStepsUptoSaid : Prop := fnStepsUptoRow.holds Tryz.pinned (OpenSpec.upto fnStepsSpec)

end Rows
end Go.Proofs.YtodapaplfjfnlaaGreat
