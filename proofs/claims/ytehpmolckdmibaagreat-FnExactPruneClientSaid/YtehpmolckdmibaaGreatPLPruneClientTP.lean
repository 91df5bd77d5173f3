/-
  FnExactPruneClient: the law comes to true.
-/
import Derived.Test.YtehpmolckdmibaaGreatPLPrune3TP
namespace Go.Proofs.YtehpmolckdmibaaGreat.Cli
open Go Go.PI Go.PI.Sha Go.PI.Rel Go.PI.Nest Go.PI.Tru Go.PI.Set Go.PI.Cli Go.Proofs.YtehpmolckdmibaaGreat.Sha Go.Proofs.YtehpmolckdmibaaGreat.By Go.Proofs.YtehpmolckdmibaaGreat.Nest Go.Proofs.YtehpmolckdmibaaGreat.Set EqP
set_option maxHeartbeats 4000000
set_option maxRecDepth 100000
set_option linter.unusedVariables false
set_option linter.unusedSimpArgs false
theorem c5 (x : Cl) (hx : ((x.hds.length ≤ 9223372036854775807 ∧ ∀ v ∈ x.hds, (v.par.length ≤ 9223372036854775807 ∧ (-9223372036854775808 ≤ v.hgt ∧ v.hgt ≤ 9223372036854775807) ∧ (-9223372036854775808 ≤ v.tim ∧ v.tim ≤ 9223372036854775807) ∧ (-9223372036854775808 ≤ v.zer ∧ v.zer ≤ 9223372036854775807) ∧ v.root.length ≤ 9223372036854775807 ∧ (-9223372036854775808 ≤ v.non ∧ v.non ≤ 9223372036854775807))) ∧ (-9223372036854775808 ≤ x.dep ∧ x.dep ≤ 9223372036854775807))) :
    runE C 5 [.agg [.sl x.hds.length (hdsS x.hds), .int .i64 x.dep]] = some (.tup [.bool true]) := by
  refine E5 _ _ _ ?_
  unfold T5
  have z1 := c20 x.hds x.dep (1048576) hx.1.1 (fun v hv => ⟨(hx.1.2 v hv).1, (hx.1.2 v hv).2.2.2.2.1⟩) (by omega) (by omega)
  by_cases g1 : (1048576 : Int) < ((x.hds.length + tot hdZ x.hds : Nat) : Int)
  · rw [less_lt g1] at z1
    refine sN z1 ?_
    repeat first | (with_reducible refine sT ?_) | ((with_reducible refine sIg (n := ?_) ?_ ?_); rotate_left; exact rfl) | ((with_reducible refine sBg (n := ?_) ?_ ?_); rotate_left; exact rfl) | ((with_reducible refine sSg (n := ?_) ?_ ?_); rotate_left; exact rfl) | ((with_reducible refine sLg (n := ?_) (cs := ?_) ?_ ?_); rotate_left 2; exact rfl) | ((with_reducible refine sOg (n := ?_) (cs := ?_) ?_ ?_); rotate_left 2; exact rfl) | (with_reducible refine sNt ?_) | (with_reducible refine sNe ?_)
    exact s1 (show (-1 : Int) < 0 by decide) rfl
  rw [less_ge g1] at z1
  have n1 : ¬ ((1048576 : Int) - ((x.hds.length + tot hdZ x.hds : Nat) : Int) < 0) := by omega
  have fx : hdsfit x.hds := ⟨by omega, by omega⟩
  obtain f1 := prC_fit x fx
  have cs := c18 x fx
  have ci := c17 x fx
  generalize hc : (prC x).1 = c at cs ci
  generalize htr : (prC x).2.1 = r at cs ci f1
  generalize hte : (prC x).2.2 = e at cs ci f1
  rw [← hds_bare x.hds] at cs ci
  have ce := c22 c c r r e e f1
  have ce : runE C 22 [.agg [.int .i64 c, .sl r.length (bareL (hdsO r)), .int .i64 e], .agg [.int .i64 c, .sl r.length (bareL (hdsO r)), .int .i64 e]] = some (.tup [.bool true]) := by
    rw [hds_bare r, ce]; simp
  have bx := hdsC_bound fx
  have m1 := c24 x.hds x.dep (1) (by omega) (by omega) fx
  have mr := c25 c r e 1 (by decide) (by decide) f1
  have mh := c26 c r e 1 (by decide) (by decide) f1
  rw [← hds_bare] at mh
  have q1 : ¬ ((1 + ((hdsC x.hds : Nat) : Int) : Int) < 0) := by omega
  have q2 : ¬ ((1 : Int) + ((hdsC r : Nat) : Int) < 0) := by omega
  have tx := c21 x.hds x.dep fx
  have ex := c23 x.hds x.hds x.dep x.dep fx
  rw [decide_eq_true ⟨rfl, rfl⟩] at ex
  have ex : runE C 23 [.agg [.sl x.hds.length (bareL (hdsO x.hds)), .int .i64 x.dep], .agg [.sl x.hds.length (bareL (hdsO x.hds)), .int .i64 x.dep]] = some (.tup [.bool true]) := by
    rw [hds_bare x.hds]; exact ex
  refine sN z1 ?_
  repeat first | (with_reducible refine sT ?_) | ((with_reducible refine sIg (n := ?_) ?_ ?_); rotate_left; exact rfl) | ((with_reducible refine sBg (n := ?_) ?_ ?_); rotate_left; exact rfl) | ((with_reducible refine sSg (n := ?_) ?_ ?_); rotate_left; exact rfl) | ((with_reducible refine sLg (n := ?_) (cs := ?_) ?_ ?_); rotate_left 2; exact rfl) | ((with_reducible refine sOg (n := ?_) (cs := ?_) ?_ ?_); rotate_left 2; exact rfl) | (with_reducible refine sNt ?_) | (with_reducible refine sNe ?_)
  refine s0 n1 (sN tx ?_)
  repeat first | (with_reducible refine sT ?_) | ((with_reducible refine sIg (n := ?_) ?_ ?_); rotate_left; exact rfl) | ((with_reducible refine sBg (n := ?_) ?_ ?_); rotate_left; exact rfl) | ((with_reducible refine sSg (n := ?_) ?_ ?_); rotate_left; exact rfl) | ((with_reducible refine sLg (n := ?_) (cs := ?_) ?_ ?_); rotate_left 2; exact rfl) | ((with_reducible refine sOg (n := ?_) (cs := ?_) ?_ ?_); rotate_left 2; exact rfl) | (with_reducible refine sNt ?_) | (with_reducible refine sNe ?_)
  refine sN cs ?_
  repeat first | (with_reducible refine sT ?_) | ((with_reducible refine sIg (n := ?_) ?_ ?_); rotate_left; exact rfl) | ((with_reducible refine sBg (n := ?_) ?_ ?_); rotate_left; exact rfl) | ((with_reducible refine sSg (n := ?_) ?_ ?_); rotate_left; exact rfl) | ((with_reducible refine sLg (n := ?_) (cs := ?_) ?_ ?_); rotate_left 2; exact rfl) | ((with_reducible refine sOg (n := ?_) (cs := ?_) ?_ ?_); rotate_left 2; exact rfl) | (with_reducible refine sNt ?_) | (with_reducible refine sNe ?_)
  refine sN tx ?_
  repeat first | (with_reducible refine sT ?_) | ((with_reducible refine sIg (n := ?_) ?_ ?_); rotate_left; exact rfl) | ((with_reducible refine sBg (n := ?_) ?_ ?_); rotate_left; exact rfl) | ((with_reducible refine sSg (n := ?_) ?_ ?_); rotate_left; exact rfl) | ((with_reducible refine sLg (n := ?_) (cs := ?_) ?_ ?_); rotate_left 2; exact rfl) | ((with_reducible refine sOg (n := ?_) (cs := ?_) ?_ ?_); rotate_left 2; exact rfl) | (with_reducible refine sNt ?_) | (with_reducible refine sNe ?_)
  refine sN ci ?_
  repeat first | (with_reducible refine sT ?_) | ((with_reducible refine sIg (n := ?_) ?_ ?_); rotate_left; exact rfl) | ((with_reducible refine sBg (n := ?_) ?_ ?_); rotate_left; exact rfl) | ((with_reducible refine sSg (n := ?_) ?_ ?_); rotate_left; exact rfl) | ((with_reducible refine sLg (n := ?_) (cs := ?_) ?_ ?_); rotate_left 2; exact rfl) | ((with_reducible refine sOg (n := ?_) (cs := ?_) ?_ ?_); rotate_left 2; exact rfl) | (with_reducible refine sNt ?_) | (with_reducible refine sNe ?_)
  refine sN ce ?_
  repeat first | (with_reducible refine sT ?_) | ((with_reducible refine sIg (n := ?_) ?_ ?_); rotate_left; exact rfl) | ((with_reducible refine sBg (n := ?_) ?_ ?_); rotate_left; exact rfl) | ((with_reducible refine sSg (n := ?_) ?_ ?_); rotate_left; exact rfl) | ((with_reducible refine sLg (n := ?_) (cs := ?_) ?_ ?_); rotate_left 2; exact rfl) | ((with_reducible refine sOg (n := ?_) (cs := ?_) ?_ ?_); rotate_left 2; exact rfl) | (with_reducible refine sNt ?_) | (with_reducible refine sNe ?_)
  refine sN tx ?_
  repeat first | (with_reducible refine sT ?_) | ((with_reducible refine sIg (n := ?_) ?_ ?_); rotate_left; exact rfl) | ((with_reducible refine sBg (n := ?_) ?_ ?_); rotate_left; exact rfl) | ((with_reducible refine sSg (n := ?_) ?_ ?_); rotate_left; exact rfl) | ((with_reducible refine sLg (n := ?_) (cs := ?_) ?_ ?_); rotate_left 2; exact rfl) | ((with_reducible refine sOg (n := ?_) (cs := ?_) ?_ ?_); rotate_left 2; exact rfl) | (with_reducible refine sNt ?_) | (with_reducible refine sNe ?_)
  refine sN ex ?_
  repeat first | (with_reducible refine sT ?_) | ((with_reducible refine sIg (n := ?_) ?_ ?_); rotate_left; exact rfl) | ((with_reducible refine sBg (n := ?_) ?_ ?_); rotate_left; exact rfl) | ((with_reducible refine sSg (n := ?_) ?_ ?_); rotate_left; exact rfl) | ((with_reducible refine sLg (n := ?_) (cs := ?_) ?_ ?_); rotate_left 2; exact rfl) | ((with_reducible refine sOg (n := ?_) (cs := ?_) ?_ ?_); rotate_left 2; exact rfl) | (with_reducible refine sNt ?_) | (with_reducible refine sNe ?_)
  refine sW m1 ?_
  repeat first | (with_reducible refine sT ?_) | ((with_reducible refine sIg (n := ?_) ?_ ?_); rotate_left; exact rfl) | ((with_reducible refine sBg (n := ?_) ?_ ?_); rotate_left; exact rfl) | ((with_reducible refine sSg (n := ?_) ?_ ?_); rotate_left; exact rfl) | ((with_reducible refine sLg (n := ?_) (cs := ?_) ?_ ?_); rotate_left 2; exact rfl) | ((with_reducible refine sOg (n := ?_) (cs := ?_) ?_ ?_); rotate_left 2; exact rfl) | (with_reducible refine sNt ?_) | (with_reducible refine sNe ?_)
  refine s0 q1 (sN ce ?_)
  repeat first | (with_reducible refine sT ?_) | ((with_reducible refine sIg (n := ?_) ?_ ?_); rotate_left; exact rfl) | ((with_reducible refine sBg (n := ?_) ?_ ?_); rotate_left; exact rfl) | ((with_reducible refine sSg (n := ?_) ?_ ?_); rotate_left; exact rfl) | ((with_reducible refine sLg (n := ?_) (cs := ?_) ?_ ?_); rotate_left 2; exact rfl) | ((with_reducible refine sOg (n := ?_) (cs := ?_) ?_ ?_); rotate_left 2; exact rfl) | (with_reducible refine sNt ?_) | (with_reducible refine sNe ?_)
  refine sW mr ?_
  repeat first | (with_reducible refine sT ?_) | ((with_reducible refine sIg (n := ?_) ?_ ?_); rotate_left; exact rfl) | ((with_reducible refine sBg (n := ?_) ?_ ?_); rotate_left; exact rfl) | ((with_reducible refine sSg (n := ?_) ?_ ?_); rotate_left; exact rfl) | ((with_reducible refine sLg (n := ?_) (cs := ?_) ?_ ?_); rotate_left 2; exact rfl) | ((with_reducible refine sOg (n := ?_) (cs := ?_) ?_ ?_); rotate_left 2; exact rfl) | (with_reducible refine sNt ?_) | (with_reducible refine sNe ?_)
  refine sN mh ?_
  repeat first | (with_reducible refine sT ?_) | ((with_reducible refine sIg (n := ?_) ?_ ?_); rotate_left; exact rfl) | ((with_reducible refine sBg (n := ?_) ?_ ?_); rotate_left; exact rfl) | ((with_reducible refine sSg (n := ?_) ?_ ?_); rotate_left; exact rfl) | ((with_reducible refine sLg (n := ?_) (cs := ?_) ?_ ?_); rotate_left 2; exact rfl) | ((with_reducible refine sOg (n := ?_) (cs := ?_) ?_ ?_); rotate_left 2; exact rfl) | (with_reducible refine sNt ?_) | (with_reducible refine sNe ?_)
  refine s0 q2 ?_
  repeat first | (with_reducible refine sT ?_) | ((with_reducible refine sIg (n := ?_) ?_ ?_); rotate_left; exact rfl) | ((with_reducible refine sBg (n := ?_) ?_ ?_); rotate_left; exact rfl) | ((with_reducible refine sSg (n := ?_) ?_ ?_); rotate_left; exact rfl) | ((with_reducible refine sLg (n := ?_) (cs := ?_) ?_ ?_); rotate_left 2; exact rfl) | ((with_reducible refine sOg (n := ?_) (cs := ?_) ?_ ?_); rotate_left 2; exact rfl) | (with_reducible refine sNt ?_) | (with_reducible refine sNe ?_)
  refine sN tx ?_
  repeat first | (with_reducible refine sT ?_) | ((with_reducible refine sIg (n := ?_) ?_ ?_); rotate_left; exact rfl) | ((with_reducible refine sBg (n := ?_) ?_ ?_); rotate_left; exact rfl) | ((with_reducible refine sSg (n := ?_) ?_ ?_); rotate_left; exact rfl) | ((with_reducible refine sLg (n := ?_) (cs := ?_) ?_ ?_); rotate_left 2; exact rfl) | ((with_reducible refine sOg (n := ?_) (cs := ?_) ?_ ?_); rotate_left 2; exact rfl) | (with_reducible refine sNt ?_) | (with_reducible refine sNe ?_)
  refine sN ci ?_
  repeat first | (with_reducible refine sT ?_) | ((with_reducible refine sIg (n := ?_) ?_ ?_); rotate_left; exact rfl) | ((with_reducible refine sBg (n := ?_) ?_ ?_); rotate_left; exact rfl) | ((with_reducible refine sSg (n := ?_) ?_ ?_); rotate_left; exact rfl) | ((with_reducible refine sLg (n := ?_) (cs := ?_) ?_ ?_); rotate_left 2; exact rfl) | ((with_reducible refine sOg (n := ?_) (cs := ?_) ?_ ?_); rotate_left 2; exact rfl) | (with_reducible refine sNt ?_) | (with_reducible refine sNe ?_)
  refine sN ce ?_
  repeat first | (with_reducible refine sT ?_) | ((with_reducible refine sIg (n := ?_) ?_ ?_); rotate_left; exact rfl) | ((with_reducible refine sBg (n := ?_) ?_ ?_); rotate_left; exact rfl) | ((with_reducible refine sSg (n := ?_) ?_ ?_); rotate_left; exact rfl) | ((with_reducible refine sLg (n := ?_) (cs := ?_) ?_ ?_); rotate_left 2; exact rfl) | ((with_reducible refine sOg (n := ?_) (cs := ?_) ?_ ?_); rotate_left 2; exact rfl) | (with_reducible refine sNt ?_) | (with_reducible refine sNe ?_)
  refine sN mh ?_
  repeat first | (with_reducible refine sT ?_) | ((with_reducible refine sIg (n := ?_) ?_ ?_); rotate_left; exact rfl) | ((with_reducible refine sBg (n := ?_) ?_ ?_); rotate_left; exact rfl) | ((with_reducible refine sSg (n := ?_) ?_ ?_); rotate_left; exact rfl) | ((with_reducible refine sLg (n := ?_) (cs := ?_) ?_ ?_); rotate_left 2; exact rfl) | ((with_reducible refine sOg (n := ?_) (cs := ?_) ?_ ?_); rotate_left 2; exact rfl) | (with_reducible refine sNt ?_) | (with_reducible refine sNe ?_)
  refine s0 q2 ?_
  repeat first | (with_reducible refine sT ?_) | ((with_reducible refine sIg (n := ?_) ?_ ?_); rotate_left; exact rfl) | ((with_reducible refine sBg (n := ?_) ?_ ?_); rotate_left; exact rfl) | ((with_reducible refine sSg (n := ?_) ?_ ?_); rotate_left; exact rfl) | ((with_reducible refine sLg (n := ?_) (cs := ?_) ?_ ?_); rotate_left 2; exact rfl) | ((with_reducible refine sOg (n := ?_) (cs := ?_) ?_ ?_); rotate_left 2; exact rfl) | (with_reducible refine sNt ?_) | (with_reducible refine sNe ?_)
  rfl
end Go.Proofs.YtehpmolckdmibaaGreat.Cli
