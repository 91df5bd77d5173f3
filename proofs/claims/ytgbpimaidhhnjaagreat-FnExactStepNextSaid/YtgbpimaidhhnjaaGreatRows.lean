/-
  No cell of these rows narrows 'for every input' (looked for: loops, veiled, ifaces, maps, wideKeys, modest, calm, conditions, laid).
  DERIVED. THE GIVEN ROWS OF THIS SEAT. 4 by the template 'for every input the law returns true; each argument reads behind the call as it read before'; 0 by the template 'total and deterministic' (their statements: YtgbpimaidhhnjaaGreatTotals.lean).
  GIVEN WITH THE SEED: the statements are not yours to turn. If you find one false, say at which input.
  Laid BY PROGRAM, IN A SANDBOX (cutbox-rows.mjs): the forced cells as the released guide's own fill.sh prints them over the translation bb03ad7e81bc8aba… (all of the seat's roots in one cut). By AI agents, Wed Nov 11 2026. No macro, syntax, notation, axiom, sorry.
-/
import Derived.Test.YtgbpimaidhhnjaaGreatChecked
import GoSem.Claim
import GoSem.ClaimJoined
import GoSem.ClaimMapViews
import Derived.JoinedTies
import Derived.KernelRfl
namespace Go.Proofs.YtgbpimaidhhnjaaGreat
/- THE CELL 'sum', in the pinned program and in every row, IS THE sha256 OF THE DUMP (.gsa) THAT YtgbpimaidhhnjaaGreatProg.lean LOADS. Nothing in Lean hashes anything: it is a label: what it is worth is what the hold of that sum in a sandbox is worth. -/
noncomputable def Tryz.pinned : Pinned := { name := "ytgbpimaidhhnjaagreat", sum := "bb03ad7e81bc8aba0d0707816d569024f7824cfb7338a761061f2c63c6b2bc0c", checked := Tryz.checked }
namespace Rows
def none {H : Type} : Left H := { results := [], args := [] }

/-- 'laws.FnExactEvidence': WHATEVER THE INPUT: true; the input reads as it did. -/
def fnExactEvidenceSpec : ChangeSpec := { name := "fnExactEvidence", fn := fun _ => fun
  | [d1, d2, d3, d4, d5] => { results := [.lit (.bool true)], args := [d1, d2, d3, d4, d5] }
  | _ => none }
def fnExactEvidenceRow : OpenClaim := { program := "ytgbpimaidhhnjaagreat", sum := "bb03ad7e81bc8aba0d0707816d569024f7824cfb7338a761061f2c63c6b2bc0c", func := "loop.example/g00143/laws.FnExactEvidence", spec := "fnExactEvidence", unfollowed := true, recurses := true, apart := false }
def FnExactEvidenceSaid : Prop := fnExactEvidenceRow.holds Tryz.pinned (OpenSpec.ofChange fnExactEvidenceSpec)

/-- ITS FALSE NEIGHBOUR: 'it returns false'. Refute it at one input. -/
def fnExactEvidenceWrong : ChangeSpec := { name := "fnExactEvidence", fn := fun _ => fun
  | [d1, d2, d3, d4, d5] => { results := [.lit (.bool false)], args := [d1, d2, d3, d4, d5] }
  | _ => none }
def FnExactEvidenceWrongFalsely : Prop := fnExactEvidenceRow.holds Tryz.pinned (OpenSpec.ofChange fnExactEvidenceWrong)

/-- 'laws.FnExactStepNext': WHATEVER THE INPUT: true; the input reads as it did. -/
def fnExactStepNextSpec : ChangeSpec := { name := "fnExactStepNext", fn := fun _ => fun
  | [d1, d2, d3, d4] => { results := [.lit (.bool true)], args := [d1, d2, d3, d4] }
  | _ => none }
def fnExactStepNextRow : OpenClaim := { program := "ytgbpimaidhhnjaagreat", sum := "bb03ad7e81bc8aba0d0707816d569024f7824cfb7338a761061f2c63c6b2bc0c", func := "loop.example/g00143/laws.FnExactStepNext", spec := "fnExactStepNext", unfollowed := true, recurses := true, apart := false }
def FnExactStepNextSaid : Prop := fnExactStepNextRow.holds Tryz.pinned (OpenSpec.ofChange fnExactStepNextSpec)

/-- ITS FALSE NEIGHBOUR: 'it returns false'. Refute it at one input. -/
def fnExactStepNextWrong : ChangeSpec := { name := "fnExactStepNext", fn := fun _ => fun
  | [d1, d2, d3, d4] => { results := [.lit (.bool false)], args := [d1, d2, d3, d4] }
  | _ => none }
def FnExactStepNextWrongFalsely : Prop := fnExactStepNextRow.holds Tryz.pinned (OpenSpec.ofChange fnExactStepNextWrong)

/-- 'laws.FnExactStepSkip': WHATEVER THE INPUT: true; the input reads as it did. -/
def fnExactStepSkipSpec : ChangeSpec := { name := "fnExactStepSkip", fn := fun _ => fun
  | [d1, d2, d3, d4, d5] => { results := [.lit (.bool true)], args := [d1, d2, d3, d4, d5] }
  | _ => none }
def fnExactStepSkipRow : OpenClaim := { program := "ytgbpimaidhhnjaagreat", sum := "bb03ad7e81bc8aba0d0707816d569024f7824cfb7338a761061f2c63c6b2bc0c", func := "loop.example/g00143/laws.FnExactStepSkip", spec := "fnExactStepSkip", unfollowed := true, recurses := true, apart := false }
def FnExactStepSkipSaid : Prop := fnExactStepSkipRow.holds Tryz.pinned (OpenSpec.ofChange fnExactStepSkipSpec)

/-- ITS FALSE NEIGHBOUR: 'it returns false'. Refute it at one input. -/
def fnExactStepSkipWrong : ChangeSpec := { name := "fnExactStepSkip", fn := fun _ => fun
  | [d1, d2, d3, d4, d5] => { results := [.lit (.bool false)], args := [d1, d2, d3, d4, d5] }
  | _ => none }
def FnExactStepSkipWrongFalsely : Prop := fnExactStepSkipRow.holds Tryz.pinned (OpenSpec.ofChange fnExactStepSkipWrong)

/-- 'laws.FnExactStepTo': WHATEVER THE INPUT: true; the input reads as it did. -/
def fnExactStepToSpec : ChangeSpec := { name := "fnExactStepTo", fn := fun _ => fun
  | [d1, d2, d3, d4, d5] => { results := [.lit (.bool true)], args := [d1, d2, d3, d4, d5] }
  | _ => none }
def fnExactStepToRow : OpenClaim := { program := "ytgbpimaidhhnjaagreat", sum := "bb03ad7e81bc8aba0d0707816d569024f7824cfb7338a761061f2c63c6b2bc0c", func := "loop.example/g00143/laws.FnExactStepTo", spec := "fnExactStepTo", unfollowed := true, recurses := true, apart := false }
def FnExactStepToSaid : Prop := fnExactStepToRow.holds Tryz.pinned (OpenSpec.ofChange fnExactStepToSpec)

/-- ITS FALSE NEIGHBOUR: 'it returns false'. Refute it at one input. -/
def fnExactStepToWrong : ChangeSpec := { name := "fnExactStepTo", fn := fun _ => fun
  | [d1, d2, d3, d4, d5] => { results := [.lit (.bool false)], args := [d1, d2, d3, d4, d5] }
  | _ => none }
def FnExactStepToWrongFalsely : Prop := fnExactStepToRow.holds Tryz.pinned (OpenSpec.ofChange fnExactStepToWrong)

/- THE SECOND FORM. 'bulk': how many values and letters a reading holds, each counted each time it is reached (what is shared counts as often as it is met; a slice's spare places count too). A statement '..UptoSaid' is the law's where the arguments, and the package variables that the reading takes, are together of bulk at most 1048576: NARROWER than '..Said'. Prove '..Said' where nothing that the law and all that it calls make is longer than what came in: it says more and counts as full. Else prove '..UptoSaid'. A law counts once. -/
mutual
def uptoBulk {H : Type} : DataW H → Nat
  | .lit (.string bytes) => bytes.length + 1
  | .lit _ => 1
  | .nil => 1
  | .ptr d => uptoBulk d + 1
  | .slice elems spare => uptoBulkAll elems + uptoBulkAll spare + 1
  | .agg parts => uptoBulkAll parts + 1
  | .iface _ d => uptoBulk d + 1
  | .map entries => uptoBulkEntries entries + 1
  | .held _ => 1
def uptoBulkAll {H : Type} : List (DataW H) → Nat
  | [] => 0
  | d :: r => uptoBulk d + uptoBulkAll r
def uptoBulkEntries {H : Type} : List (Lit × DataW H) → Nat
  | [] => 0
  | x :: r => uptoBulkEntry x + uptoBulkEntries r
def uptoBulkEntry {H : Type} : Lit × DataW H → Nat
  | (.string bytes, d) => bytes.length + uptoBulk d + 1
  | (_, d) => uptoBulk d + 1
 end
def uptoSmall : (H : Type) → List (DataW H) → Bool := fun _ ds => decide (uptoBulkAll ds ≤ 1048576)
def OpenSpec.upto (s : _root_.Go.ChangeSpec) : _root_.Go.OpenSpec := { _root_.Go.OpenSpec.ofChange s with cond := some uptoSmall }

/-- 'laws.FnExactEvidence', WHERE WHAT IT READS IS OF BULK AT MOST 1048576: true; the input reads as it did. -/
def fnExactEvidenceUptoRow : OpenClaim := { program := "ytgbpimaidhhnjaagreat", sum := "bb03ad7e81bc8aba0d0707816d569024f7824cfb7338a761061f2c63c6b2bc0c", func := "loop.example/g00143/laws.FnExactEvidence", spec := "fnExactEvidence", unfollowed := true, recurses := true, apart := false, narrowed := true }
def FnExactEvidenceUptoSaid : Prop := fnExactEvidenceUptoRow.holds Tryz.pinned (OpenSpec.upto fnExactEvidenceSpec)

/-- 'laws.FnExactStepNext', WHERE WHAT IT READS IS OF BULK AT MOST 1048576: true; the input reads as it did. -/
def fnExactStepNextUptoRow : OpenClaim := { program := "ytgbpimaidhhnjaagreat", sum := "bb03ad7e81bc8aba0d0707816d569024f7824cfb7338a761061f2c63c6b2bc0c", func := "loop.example/g00143/laws.FnExactStepNext", spec := "fnExactStepNext", unfollowed := true, recurses := true, apart := false, narrowed := true }
def FnExactStepNextUptoSaid : Prop := fnExactStepNextUptoRow.holds Tryz.pinned (OpenSpec.upto fnExactStepNextSpec)

/-- 'laws.FnExactStepSkip', WHERE WHAT IT READS IS OF BULK AT MOST 1048576: true; the input reads as it did. -/
def fnExactStepSkipUptoRow : OpenClaim := { program := "ytgbpimaidhhnjaagreat", sum := "bb03ad7e81bc8aba0d0707816d569024f7824cfb7338a761061f2c63c6b2bc0c", func := "loop.example/g00143/laws.FnExactStepSkip", spec := "fnExactStepSkip", unfollowed := true, recurses := true, apart := false, narrowed := true }
def FnExactStepSkipUptoSaid : Prop := fnExactStepSkipUptoRow.holds Tryz.pinned (OpenSpec.upto fnExactStepSkipSpec)

/-- 'laws.FnExactStepTo', WHERE WHAT IT READS IS OF BULK AT MOST 1048576: true; the input reads as it did. -/
def fnExactStepToUptoRow : OpenClaim := { program := "ytgbpimaidhhnjaagreat", sum := "bb03ad7e81bc8aba0d0707816d569024f7824cfb7338a761061f2c63c6b2bc0c", func := "loop.example/g00143/laws.FnExactStepTo", spec := "fnExactStepTo", unfollowed := true, recurses := true, apart := false, narrowed := true }
def FnExactStepToUptoSaid : Prop := fnExactStepToUptoRow.holds Tryz.pinned (OpenSpec.upto fnExactStepToSpec)

end Rows
end Go.Proofs.YtgbpimaidhhnjaaGreat
