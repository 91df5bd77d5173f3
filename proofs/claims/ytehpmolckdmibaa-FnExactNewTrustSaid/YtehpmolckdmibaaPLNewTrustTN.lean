/-
  FnExactNewTrust: the law comes to true.
-/
import Derived.Test.YtehpmolckdmibaaPLSet3TN
namespace Go.Proofs.Ytehpmolckdmibaa.Set
open Go Go.PI Go.PI.Sha Go.PI.Rel Go.PI.Nest Go.PI.Tru Go.PI.Set Go.Proofs.Ytehpmolckdmibaa.Sha Go.Proofs.Ytehpmolckdmibaa.By Go.Proofs.Ytehpmolckdmibaa.Nest Go.Proofs.Ytehpmolckdmibaa.Tru EqN
set_option maxHeartbeats 4000000
set_option maxRecDepth 100000
set_option linter.unusedVariables false
set_option linter.unusedSimpArgs false
theorem c5 (x : HB) (l : List Vd) (p : Int) (hx : x.root.length ≤ 9223372036854775807 ∧ x.set.length ≤ 9223372036854775807 ∧ x.nxt.length ≤ 9223372036854775807) (hl : l.length ≤ 9223372036854775807) (hv : ∀ v ∈ l, v.key.length ≤ 9223372036854775807) :
    runE C 5 [.agg [.int .i64 x.hgt, .int .i64 x.tim, .sl x.root.length (bytesV x.root), .sl x.set.length (bytesV x.set), .sl x.nxt.length (bytesV x.nxt)], .sl l.length (vsS l), .int .i64 p] = some (.tup [.bool true]) := by
  refine E5 _ _ _ _ _ _ _ _ _ _ _ ?_
  unfold T5
  have z1 := c28 x 1048576 hx (by decide) (by decide)
  by_cases g1 : (1048576 : Int) < (szH x : Int)
  · rw [less_lt g1] at z1
    refine sN z1 ?_
    repeat first | (with_reducible refine sT ?_) | ((with_reducible refine sIg (n := ?_) ?_ ?_); rotate_left; exact rfl) | ((with_reducible refine sBg (n := ?_) ?_ ?_); rotate_left; exact rfl) | ((with_reducible refine sSg (n := ?_) ?_ ?_); rotate_left; exact rfl) | ((with_reducible refine sLg (n := ?_) (cs := ?_) ?_ ?_); rotate_left 2; exact rfl) | ((with_reducible refine sOg (n := ?_) (cs := ?_) ?_ ?_); rotate_left 2; exact rfl) | (with_reducible refine sNt ?_) | (with_reducible refine sNe ?_)
    exact s1 (show (-1 : Int) < 0 by decide) rfl
  rw [less_ge g1] at z1
  have z2 := c29 l (1048576 - szH x) hl hv (by omega) (by omega)
  have n1 : ¬ ((1048576 : Int) - (szH x : Int) < 0) := by omega
  by_cases g2 : (1048576 : Int) - (szH x : Int) < ((l.length + tot kl l : Nat) : Int)
  · rw [less_lt g2] at z2
    refine sN z1 ?_
    repeat first | (with_reducible refine sT ?_) | ((with_reducible refine sIg (n := ?_) ?_ ?_); rotate_left; exact rfl) | ((with_reducible refine sBg (n := ?_) ?_ ?_); rotate_left; exact rfl) | ((with_reducible refine sSg (n := ?_) ?_ ?_); rotate_left; exact rfl) | ((with_reducible refine sLg (n := ?_) (cs := ?_) ?_ ?_); rotate_left 2; exact rfl) | ((with_reducible refine sOg (n := ?_) (cs := ?_) ?_ ?_); rotate_left 2; exact rfl) | (with_reducible refine sNt ?_) | (with_reducible refine sNe ?_)
    refine s0 n1 (sN z2 ?_)
    repeat first | (with_reducible refine sT ?_) | ((with_reducible refine sIg (n := ?_) ?_ ?_); rotate_left; exact rfl) | ((with_reducible refine sBg (n := ?_) ?_ ?_); rotate_left; exact rfl) | ((with_reducible refine sSg (n := ?_) ?_ ?_); rotate_left; exact rfl) | ((with_reducible refine sLg (n := ?_) (cs := ?_) ?_ ?_); rotate_left 2; exact rfl) | ((with_reducible refine sOg (n := ?_) (cs := ?_) ?_ ?_); rotate_left 2; exact rfl) | (with_reducible refine sNt ?_) | (with_reducible refine sNe ?_)
    exact s1 (show (-1 : Int) < 0 by decide) rfl
  rw [less_ge g2] at z2
  have n2 : ¬ ((1048576 : Int) - (szH x : Int) - ((l.length + tot kl l : Nat) : Int) < 0) := by omega
  have fx : fitH x := by unfold fitH; omega
  have fl : fitV l := ⟨by omega, by omega⟩
  obtain ⟨f1, f2, f3⟩ := newTrust_fit x l p fx fl
  have cs := c30 x l p fx fl
  have ci := c33 x l p fx fl
  generalize hc : (newTrust x l p).1 = c at cs ci
  generalize ht : (newTrust x l p).2 = t at cs ci f1 f2 f3
  rw [← vs_bare l] at cs ci
  have ce := c34 c c t t f1 f2 f3
  have ce : runE C 34 [.agg [.int .i64 c, .int .i64 t.hd.hgt, .int .i64 t.hd.tim, .sl t.hd.root.length (bytesV t.hd.root), .sl t.hd.set.length (bytesV t.hd.set), .sl t.hd.nxt.length (bytesV t.hd.nxt), .sl t.nx.length (bareL (vsO t.nx)), .int .i64 t.per, .bool t.pau, .sl t.roots.length (bareL (psO t.roots)), .int .i64 t.frm], .agg [.int .i64 c, .int .i64 t.hd.hgt, .int .i64 t.hd.tim, .sl t.hd.root.length (bytesV t.hd.root), .sl t.hd.set.length (bytesV t.hd.set), .sl t.hd.nxt.length (bytesV t.hd.nxt), .sl t.nx.length (vsS t.nx), .int .i64 t.per, .bool t.pau, .sl t.roots.length (psS t.roots), .int .i64 t.frm]] = some (.tup [.bool true]) := by
    rw [vs_bare, ps_bare, ce]; simp
  have m1 := c37 x 1 (by decide) (by decide) fx
  have m2 := c38 l (1 + szH x) (by omega) (by omega) fl
  have m3 := c39 c t 1 (by decide) (by decide) f1 f2 f3
  have m4 := c40 c t 1 (by decide) (by decide) f1 f2 f3
  rw [← vs_bare, ← ps_bare] at m4
  have q1 : ¬ ((1 : Int) + (szH x : Int) + (cV l : Int) < 0) := by omega
  have q2 : ¬ ((1 : Int) + (szT t : Int) < 0) := by omega
  have tH := c31 x fx
  have tV := c32 l fl
  have eH := c35 x x fx
  rw [decide_eq_true rfl] at eH
  have eV := c36 l l fl
  rw [decide_eq_true rfl, ← vs_bare l] at eV
  refine sN z1 ?_
  repeat first | (with_reducible refine sT ?_) | ((with_reducible refine sIg (n := ?_) ?_ ?_); rotate_left; exact rfl) | ((with_reducible refine sBg (n := ?_) ?_ ?_); rotate_left; exact rfl) | ((with_reducible refine sSg (n := ?_) ?_ ?_); rotate_left; exact rfl) | ((with_reducible refine sLg (n := ?_) (cs := ?_) ?_ ?_); rotate_left 2; exact rfl) | ((with_reducible refine sOg (n := ?_) (cs := ?_) ?_ ?_); rotate_left 2; exact rfl) | (with_reducible refine sNt ?_) | (with_reducible refine sNe ?_)
  refine s0 n1 (sN z2 ?_)
  repeat first | (with_reducible refine sT ?_) | ((with_reducible refine sIg (n := ?_) ?_ ?_); rotate_left; exact rfl) | ((with_reducible refine sBg (n := ?_) ?_ ?_); rotate_left; exact rfl) | ((with_reducible refine sSg (n := ?_) ?_ ?_); rotate_left; exact rfl) | ((with_reducible refine sLg (n := ?_) (cs := ?_) ?_ ?_); rotate_left 2; exact rfl) | ((with_reducible refine sOg (n := ?_) (cs := ?_) ?_ ?_); rotate_left 2; exact rfl) | (with_reducible refine sNt ?_) | (with_reducible refine sNe ?_)
  refine s0 n2 (sN tH ?_)
  repeat first | (with_reducible refine sT ?_) | ((with_reducible refine sIg (n := ?_) ?_ ?_); rotate_left; exact rfl) | ((with_reducible refine sBg (n := ?_) ?_ ?_); rotate_left; exact rfl) | ((with_reducible refine sSg (n := ?_) ?_ ?_); rotate_left; exact rfl) | ((with_reducible refine sLg (n := ?_) (cs := ?_) ?_ ?_); rotate_left 2; exact rfl) | ((with_reducible refine sOg (n := ?_) (cs := ?_) ?_ ?_); rotate_left 2; exact rfl) | (with_reducible refine sNt ?_) | (with_reducible refine sNe ?_)
  refine sN tV ?_
  repeat first | (with_reducible refine sT ?_) | ((with_reducible refine sIg (n := ?_) ?_ ?_); rotate_left; exact rfl) | ((with_reducible refine sBg (n := ?_) ?_ ?_); rotate_left; exact rfl) | ((with_reducible refine sSg (n := ?_) ?_ ?_); rotate_left; exact rfl) | ((with_reducible refine sLg (n := ?_) (cs := ?_) ?_ ?_); rotate_left 2; exact rfl) | ((with_reducible refine sOg (n := ?_) (cs := ?_) ?_ ?_); rotate_left 2; exact rfl) | (with_reducible refine sNt ?_) | (with_reducible refine sNe ?_)
  refine sN cs ?_
  repeat first | (with_reducible refine sT ?_) | ((with_reducible refine sIg (n := ?_) ?_ ?_); rotate_left; exact rfl) | ((with_reducible refine sBg (n := ?_) ?_ ?_); rotate_left; exact rfl) | ((with_reducible refine sSg (n := ?_) ?_ ?_); rotate_left; exact rfl) | ((with_reducible refine sLg (n := ?_) (cs := ?_) ?_ ?_); rotate_left 2; exact rfl) | ((with_reducible refine sOg (n := ?_) (cs := ?_) ?_ ?_); rotate_left 2; exact rfl) | (with_reducible refine sNt ?_) | (with_reducible refine sNe ?_)
  refine sN tH ?_
  repeat first | (with_reducible refine sT ?_) | ((with_reducible refine sIg (n := ?_) ?_ ?_); rotate_left; exact rfl) | ((with_reducible refine sBg (n := ?_) ?_ ?_); rotate_left; exact rfl) | ((with_reducible refine sSg (n := ?_) ?_ ?_); rotate_left; exact rfl) | ((with_reducible refine sLg (n := ?_) (cs := ?_) ?_ ?_); rotate_left 2; exact rfl) | ((with_reducible refine sOg (n := ?_) (cs := ?_) ?_ ?_); rotate_left 2; exact rfl) | (with_reducible refine sNt ?_) | (with_reducible refine sNe ?_)
  refine sN tV ?_
  repeat first | (with_reducible refine sT ?_) | ((with_reducible refine sIg (n := ?_) ?_ ?_); rotate_left; exact rfl) | ((with_reducible refine sBg (n := ?_) ?_ ?_); rotate_left; exact rfl) | ((with_reducible refine sSg (n := ?_) ?_ ?_); rotate_left; exact rfl) | ((with_reducible refine sLg (n := ?_) (cs := ?_) ?_ ?_); rotate_left 2; exact rfl) | ((with_reducible refine sOg (n := ?_) (cs := ?_) ?_ ?_); rotate_left 2; exact rfl) | (with_reducible refine sNt ?_) | (with_reducible refine sNe ?_)
  refine sN ci ?_
  repeat first | (with_reducible refine sT ?_) | ((with_reducible refine sIg (n := ?_) ?_ ?_); rotate_left; exact rfl) | ((with_reducible refine sBg (n := ?_) ?_ ?_); rotate_left; exact rfl) | ((with_reducible refine sSg (n := ?_) ?_ ?_); rotate_left; exact rfl) | ((with_reducible refine sLg (n := ?_) (cs := ?_) ?_ ?_); rotate_left 2; exact rfl) | ((with_reducible refine sOg (n := ?_) (cs := ?_) ?_ ?_); rotate_left 2; exact rfl) | (with_reducible refine sNt ?_) | (with_reducible refine sNe ?_)
  refine sN ce ?_
  repeat first | (with_reducible refine sT ?_) | ((with_reducible refine sIg (n := ?_) ?_ ?_); rotate_left; exact rfl) | ((with_reducible refine sBg (n := ?_) ?_ ?_); rotate_left; exact rfl) | ((with_reducible refine sSg (n := ?_) ?_ ?_); rotate_left; exact rfl) | ((with_reducible refine sLg (n := ?_) (cs := ?_) ?_ ?_); rotate_left 2; exact rfl) | ((with_reducible refine sOg (n := ?_) (cs := ?_) ?_ ?_); rotate_left 2; exact rfl) | (with_reducible refine sNt ?_) | (with_reducible refine sNe ?_)
  refine sN tH ?_
  repeat first | (with_reducible refine sT ?_) | ((with_reducible refine sIg (n := ?_) ?_ ?_); rotate_left; exact rfl) | ((with_reducible refine sBg (n := ?_) ?_ ?_); rotate_left; exact rfl) | ((with_reducible refine sSg (n := ?_) ?_ ?_); rotate_left; exact rfl) | ((with_reducible refine sLg (n := ?_) (cs := ?_) ?_ ?_); rotate_left 2; exact rfl) | ((with_reducible refine sOg (n := ?_) (cs := ?_) ?_ ?_); rotate_left 2; exact rfl) | (with_reducible refine sNt ?_) | (with_reducible refine sNe ?_)
  refine sN eH ?_
  repeat first | (with_reducible refine sT ?_) | ((with_reducible refine sIg (n := ?_) ?_ ?_); rotate_left; exact rfl) | ((with_reducible refine sBg (n := ?_) ?_ ?_); rotate_left; exact rfl) | ((with_reducible refine sSg (n := ?_) ?_ ?_); rotate_left; exact rfl) | ((with_reducible refine sLg (n := ?_) (cs := ?_) ?_ ?_); rotate_left 2; exact rfl) | ((with_reducible refine sOg (n := ?_) (cs := ?_) ?_ ?_); rotate_left 2; exact rfl) | (with_reducible refine sNt ?_) | (with_reducible refine sNe ?_)
  refine sN tV ?_
  repeat first | (with_reducible refine sT ?_) | ((with_reducible refine sIg (n := ?_) ?_ ?_); rotate_left; exact rfl) | ((with_reducible refine sBg (n := ?_) ?_ ?_); rotate_left; exact rfl) | ((with_reducible refine sSg (n := ?_) ?_ ?_); rotate_left; exact rfl) | ((with_reducible refine sLg (n := ?_) (cs := ?_) ?_ ?_); rotate_left 2; exact rfl) | ((with_reducible refine sOg (n := ?_) (cs := ?_) ?_ ?_); rotate_left 2; exact rfl) | (with_reducible refine sNt ?_) | (with_reducible refine sNe ?_)
  refine sN eV ?_
  repeat first | (with_reducible refine sT ?_) | ((with_reducible refine sIg (n := ?_) ?_ ?_); rotate_left; exact rfl) | ((with_reducible refine sBg (n := ?_) ?_ ?_); rotate_left; exact rfl) | ((with_reducible refine sSg (n := ?_) ?_ ?_); rotate_left; exact rfl) | ((with_reducible refine sLg (n := ?_) (cs := ?_) ?_ ?_); rotate_left 2; exact rfl) | ((with_reducible refine sOg (n := ?_) (cs := ?_) ?_ ?_); rotate_left 2; exact rfl) | (with_reducible refine sNt ?_) | (with_reducible refine sNe ?_)
  refine sW m1 ?_
  repeat first | (with_reducible refine sT ?_) | ((with_reducible refine sIg (n := ?_) ?_ ?_); rotate_left; exact rfl) | ((with_reducible refine sBg (n := ?_) ?_ ?_); rotate_left; exact rfl) | ((with_reducible refine sSg (n := ?_) ?_ ?_); rotate_left; exact rfl) | ((with_reducible refine sLg (n := ?_) (cs := ?_) ?_ ?_); rotate_left 2; exact rfl) | ((with_reducible refine sOg (n := ?_) (cs := ?_) ?_ ?_); rotate_left 2; exact rfl) | (with_reducible refine sNt ?_) | (with_reducible refine sNe ?_)
  refine sW m2 ?_
  repeat first | (with_reducible refine sT ?_) | ((with_reducible refine sIg (n := ?_) ?_ ?_); rotate_left; exact rfl) | ((with_reducible refine sBg (n := ?_) ?_ ?_); rotate_left; exact rfl) | ((with_reducible refine sSg (n := ?_) ?_ ?_); rotate_left; exact rfl) | ((with_reducible refine sLg (n := ?_) (cs := ?_) ?_ ?_); rotate_left 2; exact rfl) | ((with_reducible refine sOg (n := ?_) (cs := ?_) ?_ ?_); rotate_left 2; exact rfl) | (with_reducible refine sNt ?_) | (with_reducible refine sNe ?_)
  refine s0 q1 (sN ce ?_)
  repeat first | (with_reducible refine sT ?_) | ((with_reducible refine sIg (n := ?_) ?_ ?_); rotate_left; exact rfl) | ((with_reducible refine sBg (n := ?_) ?_ ?_); rotate_left; exact rfl) | ((with_reducible refine sSg (n := ?_) ?_ ?_); rotate_left; exact rfl) | ((with_reducible refine sLg (n := ?_) (cs := ?_) ?_ ?_); rotate_left 2; exact rfl) | ((with_reducible refine sOg (n := ?_) (cs := ?_) ?_ ?_); rotate_left 2; exact rfl) | (with_reducible refine sNt ?_) | (with_reducible refine sNe ?_)
  refine sW m3 ?_
  repeat first | (with_reducible refine sT ?_) | ((with_reducible refine sIg (n := ?_) ?_ ?_); rotate_left; exact rfl) | ((with_reducible refine sBg (n := ?_) ?_ ?_); rotate_left; exact rfl) | ((with_reducible refine sSg (n := ?_) ?_ ?_); rotate_left; exact rfl) | ((with_reducible refine sLg (n := ?_) (cs := ?_) ?_ ?_); rotate_left 2; exact rfl) | ((with_reducible refine sOg (n := ?_) (cs := ?_) ?_ ?_); rotate_left 2; exact rfl) | (with_reducible refine sNt ?_) | (with_reducible refine sNe ?_)
  refine sN m4 ?_
  repeat first | (with_reducible refine sT ?_) | ((with_reducible refine sIg (n := ?_) ?_ ?_); rotate_left; exact rfl) | ((with_reducible refine sBg (n := ?_) ?_ ?_); rotate_left; exact rfl) | ((with_reducible refine sSg (n := ?_) ?_ ?_); rotate_left; exact rfl) | ((with_reducible refine sLg (n := ?_) (cs := ?_) ?_ ?_); rotate_left 2; exact rfl) | ((with_reducible refine sOg (n := ?_) (cs := ?_) ?_ ?_); rotate_left 2; exact rfl) | (with_reducible refine sNt ?_) | (with_reducible refine sNe ?_)
  refine s0 q2 ?_
  repeat first | (with_reducible refine sT ?_) | ((with_reducible refine sIg (n := ?_) ?_ ?_); rotate_left; exact rfl) | ((with_reducible refine sBg (n := ?_) ?_ ?_); rotate_left; exact rfl) | ((with_reducible refine sSg (n := ?_) ?_ ?_); rotate_left; exact rfl) | ((with_reducible refine sLg (n := ?_) (cs := ?_) ?_ ?_); rotate_left 2; exact rfl) | ((with_reducible refine sOg (n := ?_) (cs := ?_) ?_ ?_); rotate_left 2; exact rfl) | (with_reducible refine sNt ?_) | (with_reducible refine sNe ?_)
  refine sN tH ?_
  repeat first | (with_reducible refine sT ?_) | ((with_reducible refine sIg (n := ?_) ?_ ?_); rotate_left; exact rfl) | ((with_reducible refine sBg (n := ?_) ?_ ?_); rotate_left; exact rfl) | ((with_reducible refine sSg (n := ?_) ?_ ?_); rotate_left; exact rfl) | ((with_reducible refine sLg (n := ?_) (cs := ?_) ?_ ?_); rotate_left 2; exact rfl) | ((with_reducible refine sOg (n := ?_) (cs := ?_) ?_ ?_); rotate_left 2; exact rfl) | (with_reducible refine sNt ?_) | (with_reducible refine sNe ?_)
  refine sN tV ?_
  repeat first | (with_reducible refine sT ?_) | ((with_reducible refine sIg (n := ?_) ?_ ?_); rotate_left; exact rfl) | ((with_reducible refine sBg (n := ?_) ?_ ?_); rotate_left; exact rfl) | ((with_reducible refine sSg (n := ?_) ?_ ?_); rotate_left; exact rfl) | ((with_reducible refine sLg (n := ?_) (cs := ?_) ?_ ?_); rotate_left 2; exact rfl) | ((with_reducible refine sOg (n := ?_) (cs := ?_) ?_ ?_); rotate_left 2; exact rfl) | (with_reducible refine sNt ?_) | (with_reducible refine sNe ?_)
  refine sN ci ?_
  repeat first | (with_reducible refine sT ?_) | ((with_reducible refine sIg (n := ?_) ?_ ?_); rotate_left; exact rfl) | ((with_reducible refine sBg (n := ?_) ?_ ?_); rotate_left; exact rfl) | ((with_reducible refine sSg (n := ?_) ?_ ?_); rotate_left; exact rfl) | ((with_reducible refine sLg (n := ?_) (cs := ?_) ?_ ?_); rotate_left 2; exact rfl) | ((with_reducible refine sOg (n := ?_) (cs := ?_) ?_ ?_); rotate_left 2; exact rfl) | (with_reducible refine sNt ?_) | (with_reducible refine sNe ?_)
  refine sN ce ?_
  repeat first | (with_reducible refine sT ?_) | ((with_reducible refine sIg (n := ?_) ?_ ?_); rotate_left; exact rfl) | ((with_reducible refine sBg (n := ?_) ?_ ?_); rotate_left; exact rfl) | ((with_reducible refine sSg (n := ?_) ?_ ?_); rotate_left; exact rfl) | ((with_reducible refine sLg (n := ?_) (cs := ?_) ?_ ?_); rotate_left 2; exact rfl) | ((with_reducible refine sOg (n := ?_) (cs := ?_) ?_ ?_); rotate_left 2; exact rfl) | (with_reducible refine sNt ?_) | (with_reducible refine sNe ?_)
  refine sN m4 ?_
  repeat first | (with_reducible refine sT ?_) | ((with_reducible refine sIg (n := ?_) ?_ ?_); rotate_left; exact rfl) | ((with_reducible refine sBg (n := ?_) ?_ ?_); rotate_left; exact rfl) | ((with_reducible refine sSg (n := ?_) ?_ ?_); rotate_left; exact rfl) | ((with_reducible refine sLg (n := ?_) (cs := ?_) ?_ ?_); rotate_left 2; exact rfl) | ((with_reducible refine sOg (n := ?_) (cs := ?_) ?_ ?_); rotate_left 2; exact rfl) | (with_reducible refine sNt ?_) | (with_reducible refine sNe ?_)
  refine s0 q2 ?_
  repeat first | (with_reducible refine sT ?_) | ((with_reducible refine sIg (n := ?_) ?_ ?_); rotate_left; exact rfl) | ((with_reducible refine sBg (n := ?_) ?_ ?_); rotate_left; exact rfl) | ((with_reducible refine sSg (n := ?_) ?_ ?_); rotate_left; exact rfl) | ((with_reducible refine sLg (n := ?_) (cs := ?_) ?_ ?_); rotate_left 2; exact rfl) | ((with_reducible refine sOg (n := ?_) (cs := ?_) ?_ ?_); rotate_left 2; exact rfl) | (with_reducible refine sNt ?_) | (with_reducible refine sNe ?_)
  rfl
end Go.Proofs.Ytehpmolckdmibaa.Set
