/-
  FnExactNewClient: the law comes to true.
-/
import Derived.Test.YtehpmolckdmibaaPLJoin2TC
namespace Go.Proofs.Ytehpmolckdmibaa.Cli
open Go Go.PI Go.PI.Sha Go.PI.Rel Go.PI.Nest Go.PI.Tru Go.PI.Set Go.PI.Cli Go.Proofs.Ytehpmolckdmibaa.Sha Go.Proofs.Ytehpmolckdmibaa.By Go.Proofs.Ytehpmolckdmibaa.Nest Go.Proofs.Ytehpmolckdmibaa.Set EqC
set_option maxHeartbeats 4000000
set_option maxRecDepth 100000
set_option linter.unusedVariables false
set_option linter.unusedSimpArgs false
theorem c6 (x : Hd) (p : Int) (hx : (x.par.length ≤ 9223372036854775807 ∧ (-9223372036854775808 ≤ x.hgt ∧ x.hgt ≤ 9223372036854775807) ∧ (-9223372036854775808 ≤ x.tim ∧ x.tim ≤ 9223372036854775807) ∧ (-9223372036854775808 ≤ x.zer ∧ x.zer ≤ 9223372036854775807) ∧ x.root.length ≤ 9223372036854775807 ∧ (-9223372036854775808 ≤ x.non ∧ x.non ≤ 9223372036854775807))) :
    runE C 6 [.agg [.sl x.par.length (bytesV x.par), .int .i64 x.hgt, .int .i64 x.tim, .int .i64 x.zer, .sl x.root.length (bytesV x.root), .int .i64 x.non], .int .i64 p] = some (.tup [.bool true]) := by
  refine E6 _ _ _ _ _ _ _ _ _ ?_
  unfold T6
  have z1 := c41 x (1048576) ⟨hx.1, hx.2.2.2.2.1⟩ (by omega) (by omega)
  by_cases g1 : (1048576 : Int) < ((hdZ x : Nat) : Int)
  · rw [less_lt g1] at z1
    refine sN z1 ?_
    repeat first | (with_reducible refine sT ?_) | ((with_reducible refine sIg (n := ?_) ?_ ?_); rotate_left; exact rfl) | ((with_reducible refine sBg (n := ?_) ?_ ?_); rotate_left; exact rfl) | ((with_reducible refine sSg (n := ?_) ?_ ?_); rotate_left; exact rfl) | ((with_reducible refine sLg (n := ?_) (cs := ?_) ?_ ?_); rotate_left 2; exact rfl) | ((with_reducible refine sOg (n := ?_) (cs := ?_) ?_ ?_); rotate_left 2; exact rfl) | (with_reducible refine sNt ?_) | (with_reducible refine sNe ?_)
    exact s1 (show (-1 : Int) < 0 by decide) rfl
  rw [less_ge g1] at z1
  have n1 : ¬ ((1048576 : Int) - ((hdZ x : Nat) : Int) < 0) := by omega
  have fx : hdfit x := by unfold hdfit; omega
  obtain f1 := newCl_fit x p fx
  have cs := c42 x p fx
  have ci := c44 x p fx
  generalize hc : (newCl x p).1 = c at cs ci
  generalize htr : (newCl x p).2.1 = r at cs ci f1
  generalize hte : (newCl x p).2.2 = e at cs ci f1
  have ce := c45 c c r r e e f1
  have ce : runE C 45 [.agg [.int .i64 c, .sl r.length (bareL (hdsO r)), .int .i64 e], .agg [.int .i64 c, .sl r.length (hdsS r), .int .i64 e]] = some (.tup [.bool true]) := by
    rw [hds_bare r, ce]; simp
  have bx := (show hdZ x ≤ 100000000 from fx)
  have m1 := c47 x (1) (by omega) (by omega) fx
  have mr := c48 c r e 1 (by decide) (by decide) f1
  have mh := c49 c r e 1 (by decide) (by decide) f1
  rw [← hds_bare] at mh
  have q1 : ¬ ((1 + ((hdZ x : Nat) : Int) : Int) < 0) := by omega
  have q2 : ¬ ((1 : Int) + ((hdsC r : Nat) : Int) < 0) := by omega
  have tx := c43 x fx
  have ex := c46 x x fx
  rw [decide_eq_true rfl] at ex
  refine sN z1 ?_
  repeat first | (with_reducible refine sT ?_) | ((with_reducible refine sIg (n := ?_) ?_ ?_); rotate_left; exact rfl) | ((with_reducible refine sBg (n := ?_) ?_ ?_); rotate_left; exact rfl) | ((with_reducible refine sSg (n := ?_) ?_ ?_); rotate_left; exact rfl) | ((with_reducible refine sLg (n := ?_) (cs := ?_) ?_ ?_); rotate_left 2; exact rfl) | ((with_reducible refine sOg (n := ?_) (cs := ?_) ?_ ?_); rotate_left 2; exact rfl) | (with_reducible refine sNt ?_) | (with_reducible refine sNe ?_)
  refine s0 n1 (sN tx ?_)
  repeat first | (with_reducible refine sT ?_) | ((with_reducible refine sIg (n := ?_) ?_ ?_); rotate_left; exact rfl) | ((with_reducible refine sBg (n := ?_) ?_ ?_); rotate_left; exact rfl) | ((with_reducible refine sSg (n := ?_) ?_ ?_); rotate_left; exact rfl) | ((with_reducible refine sLg (n := ?_) (cs := ?_) ?_ ?_); rotate_left 2; exact rfl) | ((with_reducible refine sOg (n := ?_) (cs := ?_) ?_ ?_); rotate_left 2; exact rfl) | (with_reducible refine sNt ?_) | (with_reducible refine sNe ?_)
  refine sN cs ?_
  repeat first | (with_reducible refine sT ?_) | ((with_reducible refine sIg (n := ?_) ?_ ?_); rotate_left; exact rfl) | ((with_reducible refine sBg (n := ?_) ?_ ?_); rotate_left; exact rfl) | ((with_reducible refine sSg (n := ?_) ?_ ?_); rotate_left; exact rfl) | ((with_reducible refine sLg (n := ?_) (cs := ?_) ?_ ?_); rotate_left 2; exact rfl) | ((with_reducible refine sOg (n := ?_) (cs := ?_) ?_ ?_); rotate_left 2; exact rfl) | (with_reducible refine sNt ?_) | (with_reducible refine sNe ?_)
  refine sN tx ?_
  repeat first | (with_reducible refine sT ?_) | ((with_reducible refine sIg (n := ?_) ?_ ?_); rotate_left; exact rfl) | ((with_reducible refine sBg (n := ?_) ?_ ?_); rotate_left; exact rfl) | ((with_reducible refine sSg (n := ?_) ?_ ?_); rotate_left; exact rfl) | ((with_reducible refine sLg (n := ?_) (cs := ?_) ?_ ?_); rotate_left 2; exact rfl) | ((with_reducible refine sOg (n := ?_) (cs := ?_) ?_ ?_); rotate_left 2; exact rfl) | (with_reducible refine sNt ?_) | (with_reducible refine sNe ?_)
  refine sN ci ?_
  repeat first | (with_reducible refine sT ?_) | ((with_reducible refine sIg (n := ?_) ?_ ?_); rotate_left; exact rfl) | ((with_reducible refine sBg (n := ?_) ?_ ?_); rotate_left; exact rfl) | ((with_reducible refine sSg (n := ?_) ?_ ?_); rotate_left; exact rfl) | ((with_reducible refine sLg (n := ?_) (cs := ?_) ?_ ?_); rotate_left 2; exact rfl) | ((with_reducible refine sOg (n := ?_) (cs := ?_) ?_ ?_); rotate_left 2; exact rfl) | (with_reducible refine sNt ?_) | (with_reducible refine sNe ?_)
  refine sN ce ?_
  repeat first | (with_reducible refine sT ?_) | ((with_reducible refine sIg (n := ?_) ?_ ?_); rotate_left; exact rfl) | ((with_reducible refine sBg (n := ?_) ?_ ?_); rotate_left; exact rfl) | ((with_reducible refine sSg (n := ?_) ?_ ?_); rotate_left; exact rfl) | ((with_reducible refine sLg (n := ?_) (cs := ?_) ?_ ?_); rotate_left 2; exact rfl) | ((with_reducible refine sOg (n := ?_) (cs := ?_) ?_ ?_); rotate_left 2; exact rfl) | (with_reducible refine sNt ?_) | (with_reducible refine sNe ?_)
  refine sN tx ?_
  repeat first | (with_reducible refine sT ?_) | ((with_reducible refine sIg (n := ?_) ?_ ?_); rotate_left; exact rfl) | ((with_reducible refine sBg (n := ?_) ?_ ?_); rotate_left; exact rfl) | ((with_reducible refine sSg (n := ?_) ?_ ?_); rotate_left; exact rfl) | ((with_reducible refine sLg (n := ?_) (cs := ?_) ?_ ?_); rotate_left 2; exact rfl) | ((with_reducible refine sOg (n := ?_) (cs := ?_) ?_ ?_); rotate_left 2; exact rfl) | (with_reducible refine sNt ?_) | (with_reducible refine sNe ?_)
  refine sN ex ?_
  repeat first | (with_reducible refine sT ?_) | ((with_reducible refine sIg (n := ?_) ?_ ?_); rotate_left; exact rfl) | ((with_reducible refine sBg (n := ?_) ?_ ?_); rotate_left; exact rfl) | ((with_reducible refine sSg (n := ?_) ?_ ?_); rotate_left; exact rfl) | ((with_reducible refine sLg (n := ?_) (cs := ?_) ?_ ?_); rotate_left 2; exact rfl) | ((with_reducible refine sOg (n := ?_) (cs := ?_) ?_ ?_); rotate_left 2; exact rfl) | (with_reducible refine sNt ?_) | (with_reducible refine sNe ?_)
  refine sW m1 ?_
  repeat first | (with_reducible refine sT ?_) | ((with_reducible refine sIg (n := ?_) ?_ ?_); rotate_left; exact rfl) | ((with_reducible refine sBg (n := ?_) ?_ ?_); rotate_left; exact rfl) | ((with_reducible refine sSg (n := ?_) ?_ ?_); rotate_left; exact rfl) | ((with_reducible refine sLg (n := ?_) (cs := ?_) ?_ ?_); rotate_left 2; exact rfl) | ((with_reducible refine sOg (n := ?_) (cs := ?_) ?_ ?_); rotate_left 2; exact rfl) | (with_reducible refine sNt ?_) | (with_reducible refine sNe ?_)
  refine s0 q1 (sN ce ?_)
  repeat first | (with_reducible refine sT ?_) | ((with_reducible refine sIg (n := ?_) ?_ ?_); rotate_left; exact rfl) | ((with_reducible refine sBg (n := ?_) ?_ ?_); rotate_left; exact rfl) | ((with_reducible refine sSg (n := ?_) ?_ ?_); rotate_left; exact rfl) | ((with_reducible refine sLg (n := ?_) (cs := ?_) ?_ ?_); rotate_left 2; exact rfl) | ((with_reducible refine sOg (n := ?_) (cs := ?_) ?_ ?_); rotate_left 2; exact rfl) | (with_reducible refine sNt ?_) | (with_reducible refine sNe ?_)
  refine sW mr ?_
  repeat first | (with_reducible refine sT ?_) | ((with_reducible refine sIg (n := ?_) ?_ ?_); rotate_left; exact rfl) | ((with_reducible refine sBg (n := ?_) ?_ ?_); rotate_left; exact rfl) | ((with_reducible refine sSg (n := ?_) ?_ ?_); rotate_left; exact rfl) | ((with_reducible refine sLg (n := ?_) (cs := ?_) ?_ ?_); rotate_left 2; exact rfl) | ((with_reducible refine sOg (n := ?_) (cs := ?_) ?_ ?_); rotate_left 2; exact rfl) | (with_reducible refine sNt ?_) | (with_reducible refine sNe ?_)
  refine sN mh ?_
  repeat first | (with_reducible refine sT ?_) | ((with_reducible refine sIg (n := ?_) ?_ ?_); rotate_left; exact rfl) | ((with_reducible refine sBg (n := ?_) ?_ ?_); rotate_left; exact rfl) | ((with_reducible refine sSg (n := ?_) ?_ ?_); rotate_left; exact rfl) | ((with_reducible refine sLg (n := ?_) (cs := ?_) ?_ ?_); rotate_left 2; exact rfl) | ((with_reducible refine sOg (n := ?_) (cs := ?_) ?_ ?_); rotate_left 2; exact rfl) | (with_reducible refine sNt ?_) | (with_reducible refine sNe ?_)
  refine s0 q2 ?_
  repeat first | (with_reducible refine sT ?_) | ((with_reducible refine sIg (n := ?_) ?_ ?_); rotate_left; exact rfl) | ((with_reducible refine sBg (n := ?_) ?_ ?_); rotate_left; exact rfl) | ((with_reducible refine sSg (n := ?_) ?_ ?_); rotate_left; exact rfl) | ((with_reducible refine sLg (n := ?_) (cs := ?_) ?_ ?_); rotate_left 2; exact rfl) | ((with_reducible refine sOg (n := ?_) (cs := ?_) ?_ ?_); rotate_left 2; exact rfl) | (with_reducible refine sNt ?_) | (with_reducible refine sNe ?_)
  refine sN tx ?_
  repeat first | (with_reducible refine sT ?_) | ((with_reducible refine sIg (n := ?_) ?_ ?_); rotate_left; exact rfl) | ((with_reducible refine sBg (n := ?_) ?_ ?_); rotate_left; exact rfl) | ((with_reducible refine sSg (n := ?_) ?_ ?_); rotate_left; exact rfl) | ((with_reducible refine sLg (n := ?_) (cs := ?_) ?_ ?_); rotate_left 2; exact rfl) | ((with_reducible refine sOg (n := ?_) (cs := ?_) ?_ ?_); rotate_left 2; exact rfl) | (with_reducible refine sNt ?_) | (with_reducible refine sNe ?_)
  refine sN ci ?_
  repeat first | (with_reducible refine sT ?_) | ((with_reducible refine sIg (n := ?_) ?_ ?_); rotate_left; exact rfl) | ((with_reducible refine sBg (n := ?_) ?_ ?_); rotate_left; exact rfl) | ((with_reducible refine sSg (n := ?_) ?_ ?_); rotate_left; exact rfl) | ((with_reducible refine sLg (n := ?_) (cs := ?_) ?_ ?_); rotate_left 2; exact rfl) | ((with_reducible refine sOg (n := ?_) (cs := ?_) ?_ ?_); rotate_left 2; exact rfl) | (with_reducible refine sNt ?_) | (with_reducible refine sNe ?_)
  refine sN ce ?_
  repeat first | (with_reducible refine sT ?_) | ((with_reducible refine sIg (n := ?_) ?_ ?_); rotate_left; exact rfl) | ((with_reducible refine sBg (n := ?_) ?_ ?_); rotate_left; exact rfl) | ((with_reducible refine sSg (n := ?_) ?_ ?_); rotate_left; exact rfl) | ((with_reducible refine sLg (n := ?_) (cs := ?_) ?_ ?_); rotate_left 2; exact rfl) | ((with_reducible refine sOg (n := ?_) (cs := ?_) ?_ ?_); rotate_left 2; exact rfl) | (with_reducible refine sNt ?_) | (with_reducible refine sNe ?_)
  refine sN mh ?_
  repeat first | (with_reducible refine sT ?_) | ((with_reducible refine sIg (n := ?_) ?_ ?_); rotate_left; exact rfl) | ((with_reducible refine sBg (n := ?_) ?_ ?_); rotate_left; exact rfl) | ((with_reducible refine sSg (n := ?_) ?_ ?_); rotate_left; exact rfl) | ((with_reducible refine sLg (n := ?_) (cs := ?_) ?_ ?_); rotate_left 2; exact rfl) | ((with_reducible refine sOg (n := ?_) (cs := ?_) ?_ ?_); rotate_left 2; exact rfl) | (with_reducible refine sNt ?_) | (with_reducible refine sNe ?_)
  refine s0 q2 ?_
  repeat first | (with_reducible refine sT ?_) | ((with_reducible refine sIg (n := ?_) ?_ ?_); rotate_left; exact rfl) | ((with_reducible refine sBg (n := ?_) ?_ ?_); rotate_left; exact rfl) | ((with_reducible refine sSg (n := ?_) ?_ ?_); rotate_left; exact rfl) | ((with_reducible refine sLg (n := ?_) (cs := ?_) ?_ ?_); rotate_left 2; exact rfl) | ((with_reducible refine sOg (n := ?_) (cs := ?_) ?_ ?_); rotate_left 2; exact rfl) | (with_reducible refine sNt ?_) | (with_reducible refine sNe ?_)
  rfl
end Go.Proofs.Ytehpmolckdmibaa.Cli
