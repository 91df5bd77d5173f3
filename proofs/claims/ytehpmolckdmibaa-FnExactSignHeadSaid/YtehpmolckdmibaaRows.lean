/-
  No cell of these rows narrows 'for every input' (looked for: loops, veiled, ifaces, maps, wideKeys, modest, calm, conditions, laid).
  DERIVED. THE GIVEN ROWS OF THIS SEAT. 8 by the template 'for every input the law returns true; each argument reads behind the call as it read before'; 0 by the template 'total and deterministic' (their statements: YtehpmolckdmibaaTotals.lean).
  GIVEN WITH THE SEED: the statements are not yours to turn. If you find one false, say at which input.
  Laid BY PROGRAM, IN A SANDBOX (cutbox-rows.mjs): the forced cells as the released guide's own fill.sh prints them over the translation 13bdfbf31f4b36cb… (all of the seat's roots in one cut). By AI agents, Wed Nov 11 2026. No macro, syntax, notation, axiom, sorry.
-/
import Derived.Test.YtehpmolckdmibaaChecked
import GoSem.Claim
import GoSem.ClaimJoined
import GoSem.ClaimMapViews
import Derived.JoinedTies
import Derived.KernelRfl
namespace Go.Proofs.Ytehpmolckdmibaa
/- THE CELL 'sum', in the pinned program and in every row, IS THE sha256 OF THE DUMP (.gsa) THAT YtehpmolckdmibaaProg.lean LOADS. Nothing in Lean hashes anything: it is a label: what it is worth is what the hold of that sum in a sandbox is worth. -/
noncomputable def Try.pinned : Pinned := { name := "ytehpmolckdmibaa", sum := "13bdfbf31f4b36cb72f65a2b611187356e6d4e11d60a42ed9fb651e8fb9e1e95", checked := Try.checked }
namespace Rows
def none {H : Type} : Left H := { results := [], args := [] }

/-- 'laws.FnReplays': WHATEVER THE INPUT: true; the input reads as it did. -/
def fnReplaysSpec : ChangeSpec := { name := "fnReplays", fn := fun _ => fun
  | [d] => { results := [.lit (.bool true)], args := [d] }
  | _ => none }
def fnReplaysRow : OpenClaim := { program := "ytehpmolckdmibaa", sum := "13bdfbf31f4b36cb72f65a2b611187356e6d4e11d60a42ed9fb651e8fb9e1e95", func := "loop.example/g00143/laws.FnReplays", spec := "fnReplays", unfollowed := true, recurses := true, apart := false }
def FnReplaysSaid : Prop := fnReplaysRow.holds Try.pinned (OpenSpec.ofChange fnReplaysSpec)

/-- ITS FALSE NEIGHBOUR: 'it returns false'. Refute it at one input. -/
def fnReplaysWrong : ChangeSpec := { name := "fnReplays", fn := fun _ => fun
  | [d] => { results := [.lit (.bool false)], args := [d] }
  | _ => none }
def FnReplaysWrongFalsely : Prop := fnReplaysRow.holds Try.pinned (OpenSpec.ofChange fnReplaysWrong)

/-- 'laws.FnHeads': WHATEVER THE INPUT: true; the input reads as it did. -/
def fnHeadsSpec : ChangeSpec := { name := "fnHeads", fn := fun _ => fun
  | [d] => { results := [.lit (.bool true)], args := [d] }
  | _ => none }
def fnHeadsRow : OpenClaim := { program := "ytehpmolckdmibaa", sum := "13bdfbf31f4b36cb72f65a2b611187356e6d4e11d60a42ed9fb651e8fb9e1e95", func := "loop.example/g00143/laws.FnHeads", spec := "fnHeads", unfollowed := true, recurses := true, apart := false }
def FnHeadsSaid : Prop := fnHeadsRow.holds Try.pinned (OpenSpec.ofChange fnHeadsSpec)

/-- ITS FALSE NEIGHBOUR: 'it returns false'. Refute it at one input. -/
def fnHeadsWrong : ChangeSpec := { name := "fnHeads", fn := fun _ => fun
  | [d] => { results := [.lit (.bool false)], args := [d] }
  | _ => none }
def FnHeadsWrongFalsely : Prop := fnHeadsRow.holds Try.pinned (OpenSpec.ofChange fnHeadsWrong)

/-- 'laws.FnExactNewTrust': WHATEVER THE INPUT: true; the input reads as it did. -/
def fnExactNewTrustSpec : ChangeSpec := { name := "fnExactNewTrust", fn := fun _ => fun
  | [d1, d2, d3] => { results := [.lit (.bool true)], args := [d1, d2, d3] }
  | _ => none }
def fnExactNewTrustRow : OpenClaim := { program := "ytehpmolckdmibaa", sum := "13bdfbf31f4b36cb72f65a2b611187356e6d4e11d60a42ed9fb651e8fb9e1e95", func := "loop.example/g00143/laws.FnExactNewTrust", spec := "fnExactNewTrust", unfollowed := true, recurses := true, apart := false }
def FnExactNewTrustSaid : Prop := fnExactNewTrustRow.holds Try.pinned (OpenSpec.ofChange fnExactNewTrustSpec)

/-- ITS FALSE NEIGHBOUR: 'it returns false'. Refute it at one input. -/
def fnExactNewTrustWrong : ChangeSpec := { name := "fnExactNewTrust", fn := fun _ => fun
  | [d1, d2, d3] => { results := [.lit (.bool false)], args := [d1, d2, d3] }
  | _ => none }
def FnExactNewTrustWrongFalsely : Prop := fnExactNewTrustRow.holds Try.pinned (OpenSpec.ofChange fnExactNewTrustWrong)

/-- 'laws.FnExactNewClient': WHATEVER THE INPUT: true; the input reads as it did. -/
def fnExactNewClientSpec : ChangeSpec := { name := "fnExactNewClient", fn := fun _ => fun
  | [d1, d2] => { results := [.lit (.bool true)], args := [d1, d2] }
  | _ => none }
def fnExactNewClientRow : OpenClaim := { program := "ytehpmolckdmibaa", sum := "13bdfbf31f4b36cb72f65a2b611187356e6d4e11d60a42ed9fb651e8fb9e1e95", func := "loop.example/g00143/laws.FnExactNewClient", spec := "fnExactNewClient", unfollowed := true, recurses := true, apart := false }
def FnExactNewClientSaid : Prop := fnExactNewClientRow.holds Try.pinned (OpenSpec.ofChange fnExactNewClientSpec)

/-- ITS FALSE NEIGHBOUR: 'it returns false'. Refute it at one input. -/
def fnExactNewClientWrong : ChangeSpec := { name := "fnExactNewClient", fn := fun _ => fun
  | [d1, d2] => { results := [.lit (.bool false)], args := [d1, d2] }
  | _ => none }
def FnExactNewClientWrongFalsely : Prop := fnExactNewClientRow.holds Try.pinned (OpenSpec.ofChange fnExactNewClientWrong)

/-- 'laws.FnSealers': WHATEVER THE INPUT: true; the input reads as it did. -/
def fnSealersSpec : ChangeSpec := { name := "fnSealers", fn := fun _ => fun
  | [d] => { results := [.lit (.bool true)], args := [d] }
  | _ => none }
def fnSealersRow : OpenClaim := { program := "ytehpmolckdmibaa", sum := "13bdfbf31f4b36cb72f65a2b611187356e6d4e11d60a42ed9fb651e8fb9e1e95", func := "loop.example/g00143/laws.FnSealers", spec := "fnSealers", unfollowed := true, recurses := true, apart := false }
def FnSealersSaid : Prop := fnSealersRow.holds Try.pinned (OpenSpec.ofChange fnSealersSpec)

/-- ITS FALSE NEIGHBOUR: 'it returns false'. Refute it at one input. -/
def fnSealersWrong : ChangeSpec := { name := "fnSealers", fn := fun _ => fun
  | [d] => { results := [.lit (.bool false)], args := [d] }
  | _ => none }
def FnSealersWrongFalsely : Prop := fnSealersRow.holds Try.pinned (OpenSpec.ofChange fnSealersWrong)

/-- 'laws.FnExactResumeTrust': WHATEVER THE INPUT: true; the input reads as it did. -/
def fnExactResumeTrustSpec : ChangeSpec := { name := "fnExactResumeTrust", fn := fun _ => fun
  | [d1, d2, d3] => { results := [.lit (.bool true)], args := [d1, d2, d3] }
  | _ => none }
def fnExactResumeTrustRow : OpenClaim := { program := "ytehpmolckdmibaa", sum := "13bdfbf31f4b36cb72f65a2b611187356e6d4e11d60a42ed9fb651e8fb9e1e95", func := "loop.example/g00143/laws.FnExactResumeTrust", spec := "fnExactResumeTrust", unfollowed := true, recurses := true, apart := false }
def FnExactResumeTrustSaid : Prop := fnExactResumeTrustRow.holds Try.pinned (OpenSpec.ofChange fnExactResumeTrustSpec)

/-- ITS FALSE NEIGHBOUR: 'it returns false'. Refute it at one input. -/
def fnExactResumeTrustWrong : ChangeSpec := { name := "fnExactResumeTrust", fn := fun _ => fun
  | [d1, d2, d3] => { results := [.lit (.bool false)], args := [d1, d2, d3] }
  | _ => none }
def FnExactResumeTrustWrongFalsely : Prop := fnExactResumeTrustRow.holds Try.pinned (OpenSpec.ofChange fnExactResumeTrustWrong)

/-- 'laws.FnExactSignHead': WHATEVER THE INPUT: true; the input reads as it did. -/
def fnExactSignHeadSpec : ChangeSpec := { name := "fnExactSignHead", fn := fun _ => fun
  | [d1, d2, d3, d4] => { results := [.lit (.bool true)], args := [d1, d2, d3, d4] }
  | _ => none }
def fnExactSignHeadRow : OpenClaim := { program := "ytehpmolckdmibaa", sum := "13bdfbf31f4b36cb72f65a2b611187356e6d4e11d60a42ed9fb651e8fb9e1e95", func := "loop.example/g00143/laws.FnExactSignHead", spec := "fnExactSignHead", unfollowed := true, recurses := true, apart := false }
def FnExactSignHeadSaid : Prop := fnExactSignHeadRow.holds Try.pinned (OpenSpec.ofChange fnExactSignHeadSpec)

/-- ITS FALSE NEIGHBOUR: 'it returns false'. Refute it at one input. -/
def fnExactSignHeadWrong : ChangeSpec := { name := "fnExactSignHead", fn := fun _ => fun
  | [d1, d2, d3, d4] => { results := [.lit (.bool false)], args := [d1, d2, d3, d4] }
  | _ => none }
def FnExactSignHeadWrongFalsely : Prop := fnExactSignHeadRow.holds Try.pinned (OpenSpec.ofChange fnExactSignHeadWrong)

/-- 'laws.FnExactAddHead': WHATEVER THE INPUT: true; the input reads as it did. -/
def fnExactAddHeadSpec : ChangeSpec := { name := "fnExactAddHead", fn := fun _ => fun
  | [d1, d2] => { results := [.lit (.bool true)], args := [d1, d2] }
  | _ => none }
def fnExactAddHeadRow : OpenClaim := { program := "ytehpmolckdmibaa", sum := "13bdfbf31f4b36cb72f65a2b611187356e6d4e11d60a42ed9fb651e8fb9e1e95", func := "loop.example/g00143/laws.FnExactAddHead", spec := "fnExactAddHead", unfollowed := true, recurses := true, apart := false }
def FnExactAddHeadSaid : Prop := fnExactAddHeadRow.holds Try.pinned (OpenSpec.ofChange fnExactAddHeadSpec)

/-- ITS FALSE NEIGHBOUR: 'it returns false'. Refute it at one input. -/
def fnExactAddHeadWrong : ChangeSpec := { name := "fnExactAddHead", fn := fun _ => fun
  | [d1, d2] => { results := [.lit (.bool false)], args := [d1, d2] }
  | _ => none }
def FnExactAddHeadWrongFalsely : Prop := fnExactAddHeadRow.holds Try.pinned (OpenSpec.ofChange fnExactAddHeadWrong)

/- THE SECOND FORM. 'bulk': how many values and letters a reading holds, each counted each time it is reached (what is shared counts as often as it is met; a slice's spare places count too). A statement '..UptoSaid' is the law's where the arguments, and the package variables that the reading takes, are together of bulk at most 1048576: NARROWER than '..Said'. Prove '..Said' where nothing that the law and all that it calls make is longer than what came in: it says more and counts as full. Else prove '..UptoSaid'. A law counts once. -/
mutual
def uptoBulk {H : Type} : DataW H → Nat
  | .lit (.string bytes) => bytes.length + 1
  | .lit _ => 1
  | .nil => 1
  | .ptr d => uptoBulk d + 1
  | .slice elems spare => uptoBulkAll elems + uptoBulkAll spare + 1
  | .agg parts => uptoBulkAll parts + 1
  | .iface _ d => uptoBulk d + 1
  | .map entries => uptoBulkEntries entries + 1
  | .held _ => 1
def uptoBulkAll {H : Type} : List (DataW H) → Nat
  | [] => 0
  | d :: r => uptoBulk d + uptoBulkAll r
def uptoBulkEntries {H : Type} : List (Lit × DataW H) → Nat
  | [] => 0
  | x :: r => uptoBulkEntry x + uptoBulkEntries r
def uptoBulkEntry {H : Type} : Lit × DataW H → Nat
  | (.string bytes, d) => bytes.length + uptoBulk d + 1
  | (_, d) => uptoBulk d + 1
 end
def uptoSmall : (H : Type) → List (DataW H) → Bool := fun _ ds => decide (uptoBulkAll ds ≤ 1048576)
def OpenSpec.upto (s : _root_.Go.ChangeSpec) : _root_.Go.OpenSpec := { _root_.Go.OpenSpec.ofChange s with cond := some uptoSmall }

/-- 'laws.FnReplays', WHERE WHAT IT READS IS OF BULK AT MOST 1048576: true; the input reads as it did. -/
def fnReplaysUptoRow : OpenClaim := { program := "ytehpmolckdmibaa", sum := "13bdfbf31f4b36cb72f65a2b611187356e6d4e11d60a42ed9fb651e8fb9e1e95", func := "loop.example/g00143/laws.FnReplays", spec := "fnReplays", unfollowed := true, recurses := true, apart := false, narrowed := true }
def FnReplaysUptoSaid : Prop := fnReplaysUptoRow.holds Try.pinned (OpenSpec.upto fnReplaysSpec)

/-- 'laws.FnHeads', WHERE WHAT IT READS IS OF BULK AT MOST 1048576: true; the input reads as it did. -/
def fnHeadsUptoRow : OpenClaim := { program := "ytehpmolckdmibaa", sum := "13bdfbf31f4b36cb72f65a2b611187356e6d4e11d60a42ed9fb651e8fb9e1e95", func := "loop.example/g00143/laws.FnHeads", spec := "fnHeads", unfollowed := true, recurses := true, apart := false, narrowed := true }
def FnHeadsUptoSaid : Prop := fnHeadsUptoRow.holds Try.pinned (OpenSpec.upto fnHeadsSpec)

/-- 'laws.FnExactNewTrust', WHERE WHAT IT READS IS OF BULK AT MOST 1048576: true; the input reads as it did. -/
def fnExactNewTrustUptoRow : OpenClaim := { program := "ytehpmolckdmibaa", sum := "13bdfbf31f4b36cb72f65a2b611187356e6d4e11d60a42ed9fb651e8fb9e1e95", func := "loop.example/g00143/laws.FnExactNewTrust", spec := "fnExactNewTrust", unfollowed := true, recurses := true, apart := false, narrowed := true }
def FnExactNewTrustUptoSaid : Prop := fnExactNewTrustUptoRow.holds Try.pinned (OpenSpec.upto fnExactNewTrustSpec)

/-- 'laws.FnExactNewClient', WHERE WHAT IT READS IS OF BULK AT MOST 1048576: true; the input reads as it did. -/
def fnExactNewClientUptoRow : OpenClaim := { program := "ytehpmolckdmibaa", sum := "13bdfbf31f4b36cb72f65a2b611187356e6d4e11d60a42ed9fb651e8fb9e1e95", func := "loop.example/g00143/laws.FnExactNewClient", spec := "fnExactNewClient", unfollowed := true, recurses := true, apart := false, narrowed := true }
def FnExactNewClientUptoSaid : Prop := fnExactNewClientUptoRow.holds Try.pinned (OpenSpec.upto fnExactNewClientSpec)

/-- 'laws.FnSealers', WHERE WHAT IT READS IS OF BULK AT MOST 1048576: true; the input reads as it did. -/
def fnSealersUptoRow : OpenClaim := { program := "ytehpmolckdmibaa", sum := "13bdfbf31f4b36cb72f65a2b611187356e6d4e11d60a42ed9fb651e8fb9e1e95", func := "loop.example/g00143/laws.FnSealers", spec := "fnSealers", unfollowed := true, recurses := true, apart := false, narrowed := true }
def FnSealersUptoSaid : Prop := fnSealersUptoRow.holds Try.pinned (OpenSpec.upto fnSealersSpec)

/-- 'laws.FnExactResumeTrust', WHERE WHAT IT READS IS OF BULK AT MOST 1048576: true; the input reads as it did. -/
def fnExactResumeTrustUptoRow : OpenClaim := { program := "ytehpmolckdmibaa", sum := "13bdfbf31f4b36cb72f65a2b611187356e6d4e11d60a42ed9fb651e8fb9e1e95", func := "loop.example/g00143/laws.FnExactResumeTrust", spec := "fnExactResumeTrust", unfollowed := true, recurses := true, apart := false, narrowed := true }
def FnExactResumeTrustUptoSaid : Prop := fnExactResumeTrustUptoRow.holds Try.pinned (OpenSpec.upto fnExactResumeTrustSpec)

/-- 'laws.FnExactSignHead', WHERE WHAT IT READS IS OF BULK AT MOST 1048576: true; the input reads as it did. -/
def fnExactSignHeadUptoRow : OpenClaim := { program := "ytehpmolckdmibaa", sum := "13bdfbf31f4b36cb72f65a2b611187356e6d4e11d60a42ed9fb651e8fb9e1e95", func := "loop.example/g00143/laws.FnExactSignHead", spec := "fnExactSignHead", unfollowed := true, recurses := true, apart := false, narrowed := true }
def FnExactSignHeadUptoSaid : Prop := fnExactSignHeadUptoRow.holds Try.pinned (OpenSpec.upto fnExactSignHeadSpec)

/-- 'laws.FnExactAddHead', WHERE WHAT IT READS IS OF BULK AT MOST 1048576: true; the input reads as it did. -/
def fnExactAddHeadUptoRow : OpenClaim := { program := "ytehpmolckdmibaa", sum := "13bdfbf31f4b36cb72f65a2b611187356e6d4e11d60a42ed9fb651e8fb9e1e95", func := "loop.example/g00143/laws.FnExactAddHead", spec := "fnExactAddHead", unfollowed := true, recurses := true, apart := false, narrowed := true }
def FnExactAddHeadUptoSaid : Prop := fnExactAddHeadUptoRow.holds Try.pinned (OpenSpec.upto fnExactAddHeadSpec)

end Rows
end Go.Proofs.Ytehpmolckdmibaa
