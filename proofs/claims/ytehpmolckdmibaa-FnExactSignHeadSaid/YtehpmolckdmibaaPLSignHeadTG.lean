/-
  FnExactSignHead: the law comes to true.
-/
import Derived.Test.YtehpmolckdmibaaPLVote2TG
namespace Go.Proofs.Ytehpmolckdmibaa.Vote
open Go Go.PI Go.PI.Sha Go.PI.Rel Go.PI.Nest Go.PI.Tru Go.PI.Set Go.PI.Tree Go.PI.Vote Go.Proofs.Ytehpmolckdmibaa.Sha Go.Proofs.Ytehpmolckdmibaa.By Go.Proofs.Ytehpmolckdmibaa.Nest Go.Proofs.Ytehpmolckdmibaa.Tru Go.Proofs.Ytehpmolckdmibaa.Set Go.Proofs.Ytehpmolckdmibaa.Tree EqG
set_option maxHeartbeats 4000000
set_option maxRecDepth 100000
set_option linter.unusedVariables false
set_option linter.unusedSimpArgs false
theorem c9 (s : List (List UInt8)) (p : List Int) (f : Int) (x : HB) (hs : (s.length ≤ 9223372036854775807 ∧ ∀ v ∈ s, v.length ≤ 9223372036854775807)) (hp : (p.length ≤ 9223372036854775807 ∧ ∀ v ∈ p, (-9223372036854775808 ≤ v ∧ v ≤ 9223372036854775807))) (hf : (-9223372036854775808 ≤ f ∧ f ≤ 9223372036854775807)) (hx : ((-9223372036854775808 ≤ x.hgt ∧ x.hgt ≤ 9223372036854775807) ∧ (-9223372036854775808 ≤ x.tim ∧ x.tim ≤ 9223372036854775807) ∧ x.root.length ≤ 9223372036854775807 ∧ x.set.length ≤ 9223372036854775807 ∧ x.nxt.length ≤ 9223372036854775807)) :
    runE C 9 [.sl s.length (psS s), .sl p.length (ints p), .int .i64 f, .agg [.int .i64 x.hgt, .int .i64 x.tim, .sl x.root.length (bytesV x.root), .sl x.set.length (bytesV x.set), .sl x.nxt.length (bytesV x.nxt)]] = some (.tup [.bool true]) := by
  refine E9 _ _ _ _ _ _ _ _ _ _ _ _ _ ?_
  unfold T9
  by_cases g0 : (p.length : Int) > 1048576
  · exact s1 g0 rfl
  refine s0 g0 ?_
  have z1 := c66 s (1048576) hs.1 hs.2 (by omega) (by omega)
  by_cases g1 : (1048576 : Int) < ((s.length + tot List.length s : Nat) : Int)
  · rw [less_lt g1] at z1
    refine sN z1 ?_
    repeat first | (with_reducible refine sT ?_) | ((with_reducible refine sIg (n := ?_) ?_ ?_); rotate_left; exact rfl) | ((with_reducible refine sBg (n := ?_) ?_ ?_); rotate_left; exact rfl) | ((with_reducible refine sSg (n := ?_) ?_ ?_); rotate_left; exact rfl) | ((with_reducible refine sLg (n := ?_) (cs := ?_) ?_ ?_); rotate_left 2; exact rfl) | ((with_reducible refine sOg (n := ?_) (cs := ?_) ?_ ?_); rotate_left 2; exact rfl) | (with_reducible refine sNt ?_) | (with_reducible refine sNe ?_)
    exact s1 (show (-1 : Int) < 0 by decide) rfl
  rw [less_ge g1] at z1
  have n1 : ¬ ((1048576 : Int) - ((s.length + tot List.length s : Nat) : Int) < 0) := by omega
  have z2 := c28 x (1048576 - ((s.length + tot List.length s : Nat) : Int)) ⟨hx.2.2.1, hx.2.2.2.1, hx.2.2.2.2⟩ (by omega) (by omega)
  by_cases g2 : (1048576 : Int) - ((s.length + tot List.length s : Nat) : Int) < ((szH x : Nat) : Int)
  · rw [less_lt g2] at z2
    refine sN z1 ?_
    repeat first | (with_reducible refine sT ?_) | ((with_reducible refine sIg (n := ?_) ?_ ?_); rotate_left; exact rfl) | ((with_reducible refine sBg (n := ?_) ?_ ?_); rotate_left; exact rfl) | ((with_reducible refine sSg (n := ?_) ?_ ?_); rotate_left; exact rfl) | ((with_reducible refine sLg (n := ?_) (cs := ?_) ?_ ?_); rotate_left 2; exact rfl) | ((with_reducible refine sOg (n := ?_) (cs := ?_) ?_ ?_); rotate_left 2; exact rfl) | (with_reducible refine sNt ?_) | (with_reducible refine sNe ?_)
    refine s0 n1 (sN z2 ?_)
    repeat first | (with_reducible refine sT ?_) | ((with_reducible refine sIg (n := ?_) ?_ ?_); rotate_left; exact rfl) | ((with_reducible refine sBg (n := ?_) ?_ ?_); rotate_left; exact rfl) | ((with_reducible refine sSg (n := ?_) ?_ ?_); rotate_left; exact rfl) | ((with_reducible refine sLg (n := ?_) (cs := ?_) ?_ ?_); rotate_left 2; exact rfl) | ((with_reducible refine sOg (n := ?_) (cs := ?_) ?_ ?_); rotate_left 2; exact rfl) | (with_reducible refine sNt ?_) | (with_reducible refine sNe ?_)
    exact s1 (show (-1 : Int) < 0 by decide) rfl
  rw [less_ge g2] at z2
  have n2 : ¬ ((1048576 : Int) - ((s.length + tot List.length s : Nat) : Int) - ((szH x : Nat) : Int) < 0) := by omega
  have fs : fitP s := ⟨by omega, by omega⟩
  have fx : fitH x := by unfold fitH; omega
  obtain ⟨f1, f2⟩ := signH_fit s p f x
  have cs := c52 s p f x (by omega) (by omega)
  have ci := c51 s p f x (by omega) (by omega)
  generalize hc : (signH s p f x).1 = c at cs ci
  generalize hy : (signH s p f x).2.1 = y at cs ci f1
  generalize hl : (signH s p f x).2.2 = l at cs ci f2
  rw [← ps_bare s] at cs ci
  have ce := c69 c c y y l l f1 f2
  rw [decide_eq_true ⟨rfl, rfl, rfl⟩] at ce
  have ce : runE C 69 [.agg [.int .i64 c, .int .i64 y.hgt, .int .i64 y.tim, .sl y.root.length (bytesV y.root), .sl y.set.length (bytesV y.set), .sl y.nxt.length (bytesV y.nxt), .sl l.length (bareL (vtsO l))], .agg [.int .i64 c, .int .i64 y.hgt, .int .i64 y.tim, .sl y.root.length (bytesV y.root), .sl y.set.length (bytesV y.set), .sl y.nxt.length (bytesV y.nxt), .sl l.length (bareL (vtsO l))]] = some (.tup [.bool true]) := by
    rw [vts_bare l]; exact ce
  have bs : tot List.length s ≤ 100000000 := fs.2
  have bx : szH x ≤ 100000000 := fx
  have m1 := c72 s (1) (by omega) (by omega) (by have := fs.1; omega) (by omega)
  have m2 := c73 p (1 + ((tot List.length s : Nat) : Int)) (by omega) (by omega) (by omega)
  have m3 := c37 x (1 + ((tot List.length s : Nat) : Int) + ((p.length : Nat) : Int)) (by omega) (by omega) fx
  have mr := c74 c y l 1 (by decide) (by decide) f1 f2
  have mh := c75 c y l 1 (by decide) (by decide) f1 f2
  rw [← vts_bare] at mh
  have q1 : ¬ ((1 : Int) + ((tot List.length s : Nat) : Int) + ((p.length : Nat) : Int) + ((szH x : Nat) : Int) < 0) := by omega
  have q2 : ¬ ((1 : Int) + ((szH y : Nat) : Int) + ((vtsC l : Nat) : Int) < 0) := by omega
  have ts := c67 s fs
  have es := c70 s s (by have := fs.1; omega) (by omega)
  rw [decide_eq_true rfl] at es
  have es : runE C 70 [.sl s.length (bareL (psO s)), .sl s.length (bareL (psO s))] = some (.tup [.bool true]) := by
    rw [ps_bare s]; exact es
  have tp := c68 p (by omega)
  have ep := c71 p (by omega)
  have tx := c31 x fx
  have ex := c35 x x fx
  rw [decide_eq_true rfl] at ex
  refine sN z1 ?_
  repeat first | (with_reducible refine sT ?_) | ((with_reducible refine sIg (n := ?_) ?_ ?_); rotate_left; exact rfl) | ((with_reducible refine sBg (n := ?_) ?_ ?_); rotate_left; exact rfl) | ((with_reducible refine sSg (n := ?_) ?_ ?_); rotate_left; exact rfl) | ((with_reducible refine sLg (n := ?_) (cs := ?_) ?_ ?_); rotate_left 2; exact rfl) | ((with_reducible refine sOg (n := ?_) (cs := ?_) ?_ ?_); rotate_left 2; exact rfl) | (with_reducible refine sNt ?_) | (with_reducible refine sNe ?_)
  refine s0 n1 (sN z2 ?_)
  repeat first | (with_reducible refine sT ?_) | ((with_reducible refine sIg (n := ?_) ?_ ?_); rotate_left; exact rfl) | ((with_reducible refine sBg (n := ?_) ?_ ?_); rotate_left; exact rfl) | ((with_reducible refine sSg (n := ?_) ?_ ?_); rotate_left; exact rfl) | ((with_reducible refine sLg (n := ?_) (cs := ?_) ?_ ?_); rotate_left 2; exact rfl) | ((with_reducible refine sOg (n := ?_) (cs := ?_) ?_ ?_); rotate_left 2; exact rfl) | (with_reducible refine sNt ?_) | (with_reducible refine sNe ?_)
  refine s0 n2 (sN ts ?_)
  repeat first | (with_reducible refine sT ?_) | ((with_reducible refine sIg (n := ?_) ?_ ?_); rotate_left; exact rfl) | ((with_reducible refine sBg (n := ?_) ?_ ?_); rotate_left; exact rfl) | ((with_reducible refine sSg (n := ?_) ?_ ?_); rotate_left; exact rfl) | ((with_reducible refine sLg (n := ?_) (cs := ?_) ?_ ?_); rotate_left 2; exact rfl) | ((with_reducible refine sOg (n := ?_) (cs := ?_) ?_ ?_); rotate_left 2; exact rfl) | (with_reducible refine sNt ?_) | (with_reducible refine sNe ?_)
  refine sN tp ?_
  repeat first | (with_reducible refine sT ?_) | ((with_reducible refine sIg (n := ?_) ?_ ?_); rotate_left; exact rfl) | ((with_reducible refine sBg (n := ?_) ?_ ?_); rotate_left; exact rfl) | ((with_reducible refine sSg (n := ?_) ?_ ?_); rotate_left; exact rfl) | ((with_reducible refine sLg (n := ?_) (cs := ?_) ?_ ?_); rotate_left 2; exact rfl) | ((with_reducible refine sOg (n := ?_) (cs := ?_) ?_ ?_); rotate_left 2; exact rfl) | (with_reducible refine sNt ?_) | (with_reducible refine sNe ?_)
  refine sN tx ?_
  repeat first | (with_reducible refine sT ?_) | ((with_reducible refine sIg (n := ?_) ?_ ?_); rotate_left; exact rfl) | ((with_reducible refine sBg (n := ?_) ?_ ?_); rotate_left; exact rfl) | ((with_reducible refine sSg (n := ?_) ?_ ?_); rotate_left; exact rfl) | ((with_reducible refine sLg (n := ?_) (cs := ?_) ?_ ?_); rotate_left 2; exact rfl) | ((with_reducible refine sOg (n := ?_) (cs := ?_) ?_ ?_); rotate_left 2; exact rfl) | (with_reducible refine sNt ?_) | (with_reducible refine sNe ?_)
  refine sN cs ?_
  repeat first | (with_reducible refine sT ?_) | ((with_reducible refine sIg (n := ?_) ?_ ?_); rotate_left; exact rfl) | ((with_reducible refine sBg (n := ?_) ?_ ?_); rotate_left; exact rfl) | ((with_reducible refine sSg (n := ?_) ?_ ?_); rotate_left; exact rfl) | ((with_reducible refine sLg (n := ?_) (cs := ?_) ?_ ?_); rotate_left 2; exact rfl) | ((with_reducible refine sOg (n := ?_) (cs := ?_) ?_ ?_); rotate_left 2; exact rfl) | (with_reducible refine sNt ?_) | (with_reducible refine sNe ?_)
  refine sN ts ?_
  repeat first | (with_reducible refine sT ?_) | ((with_reducible refine sIg (n := ?_) ?_ ?_); rotate_left; exact rfl) | ((with_reducible refine sBg (n := ?_) ?_ ?_); rotate_left; exact rfl) | ((with_reducible refine sSg (n := ?_) ?_ ?_); rotate_left; exact rfl) | ((with_reducible refine sLg (n := ?_) (cs := ?_) ?_ ?_); rotate_left 2; exact rfl) | ((with_reducible refine sOg (n := ?_) (cs := ?_) ?_ ?_); rotate_left 2; exact rfl) | (with_reducible refine sNt ?_) | (with_reducible refine sNe ?_)
  refine sN tp ?_
  repeat first | (with_reducible refine sT ?_) | ((with_reducible refine sIg (n := ?_) ?_ ?_); rotate_left; exact rfl) | ((with_reducible refine sBg (n := ?_) ?_ ?_); rotate_left; exact rfl) | ((with_reducible refine sSg (n := ?_) ?_ ?_); rotate_left; exact rfl) | ((with_reducible refine sLg (n := ?_) (cs := ?_) ?_ ?_); rotate_left 2; exact rfl) | ((with_reducible refine sOg (n := ?_) (cs := ?_) ?_ ?_); rotate_left 2; exact rfl) | (with_reducible refine sNt ?_) | (with_reducible refine sNe ?_)
  refine sN tx ?_
  repeat first | (with_reducible refine sT ?_) | ((with_reducible refine sIg (n := ?_) ?_ ?_); rotate_left; exact rfl) | ((with_reducible refine sBg (n := ?_) ?_ ?_); rotate_left; exact rfl) | ((with_reducible refine sSg (n := ?_) ?_ ?_); rotate_left; exact rfl) | ((with_reducible refine sLg (n := ?_) (cs := ?_) ?_ ?_); rotate_left 2; exact rfl) | ((with_reducible refine sOg (n := ?_) (cs := ?_) ?_ ?_); rotate_left 2; exact rfl) | (with_reducible refine sNt ?_) | (with_reducible refine sNe ?_)
  refine sN ci ?_
  repeat first | (with_reducible refine sT ?_) | ((with_reducible refine sIg (n := ?_) ?_ ?_); rotate_left; exact rfl) | ((with_reducible refine sBg (n := ?_) ?_ ?_); rotate_left; exact rfl) | ((with_reducible refine sSg (n := ?_) ?_ ?_); rotate_left; exact rfl) | ((with_reducible refine sLg (n := ?_) (cs := ?_) ?_ ?_); rotate_left 2; exact rfl) | ((with_reducible refine sOg (n := ?_) (cs := ?_) ?_ ?_); rotate_left 2; exact rfl) | (with_reducible refine sNt ?_) | (with_reducible refine sNe ?_)
  refine sN ce ?_
  repeat first | (with_reducible refine sT ?_) | ((with_reducible refine sIg (n := ?_) ?_ ?_); rotate_left; exact rfl) | ((with_reducible refine sBg (n := ?_) ?_ ?_); rotate_left; exact rfl) | ((with_reducible refine sSg (n := ?_) ?_ ?_); rotate_left; exact rfl) | ((with_reducible refine sLg (n := ?_) (cs := ?_) ?_ ?_); rotate_left 2; exact rfl) | ((with_reducible refine sOg (n := ?_) (cs := ?_) ?_ ?_); rotate_left 2; exact rfl) | (with_reducible refine sNt ?_) | (with_reducible refine sNe ?_)
  refine sN ts ?_
  repeat first | (with_reducible refine sT ?_) | ((with_reducible refine sIg (n := ?_) ?_ ?_); rotate_left; exact rfl) | ((with_reducible refine sBg (n := ?_) ?_ ?_); rotate_left; exact rfl) | ((with_reducible refine sSg (n := ?_) ?_ ?_); rotate_left; exact rfl) | ((with_reducible refine sLg (n := ?_) (cs := ?_) ?_ ?_); rotate_left 2; exact rfl) | ((with_reducible refine sOg (n := ?_) (cs := ?_) ?_ ?_); rotate_left 2; exact rfl) | (with_reducible refine sNt ?_) | (with_reducible refine sNe ?_)
  refine sN es ?_
  repeat first | (with_reducible refine sT ?_) | ((with_reducible refine sIg (n := ?_) ?_ ?_); rotate_left; exact rfl) | ((with_reducible refine sBg (n := ?_) ?_ ?_); rotate_left; exact rfl) | ((with_reducible refine sSg (n := ?_) ?_ ?_); rotate_left; exact rfl) | ((with_reducible refine sLg (n := ?_) (cs := ?_) ?_ ?_); rotate_left 2; exact rfl) | ((with_reducible refine sOg (n := ?_) (cs := ?_) ?_ ?_); rotate_left 2; exact rfl) | (with_reducible refine sNt ?_) | (with_reducible refine sNe ?_)
  refine sN tp ?_
  repeat first | (with_reducible refine sT ?_) | ((with_reducible refine sIg (n := ?_) ?_ ?_); rotate_left; exact rfl) | ((with_reducible refine sBg (n := ?_) ?_ ?_); rotate_left; exact rfl) | ((with_reducible refine sSg (n := ?_) ?_ ?_); rotate_left; exact rfl) | ((with_reducible refine sLg (n := ?_) (cs := ?_) ?_ ?_); rotate_left 2; exact rfl) | ((with_reducible refine sOg (n := ?_) (cs := ?_) ?_ ?_); rotate_left 2; exact rfl) | (with_reducible refine sNt ?_) | (with_reducible refine sNe ?_)
  refine sN ep ?_
  repeat first | (with_reducible refine sT ?_) | ((with_reducible refine sIg (n := ?_) ?_ ?_); rotate_left; exact rfl) | ((with_reducible refine sBg (n := ?_) ?_ ?_); rotate_left; exact rfl) | ((with_reducible refine sSg (n := ?_) ?_ ?_); rotate_left; exact rfl) | ((with_reducible refine sLg (n := ?_) (cs := ?_) ?_ ?_); rotate_left 2; exact rfl) | ((with_reducible refine sOg (n := ?_) (cs := ?_) ?_ ?_); rotate_left 2; exact rfl) | (with_reducible refine sNt ?_) | (with_reducible refine sNe ?_)
  refine sN tx ?_
  repeat first | (with_reducible refine sT ?_) | ((with_reducible refine sIg (n := ?_) ?_ ?_); rotate_left; exact rfl) | ((with_reducible refine sBg (n := ?_) ?_ ?_); rotate_left; exact rfl) | ((with_reducible refine sSg (n := ?_) ?_ ?_); rotate_left; exact rfl) | ((with_reducible refine sLg (n := ?_) (cs := ?_) ?_ ?_); rotate_left 2; exact rfl) | ((with_reducible refine sOg (n := ?_) (cs := ?_) ?_ ?_); rotate_left 2; exact rfl) | (with_reducible refine sNt ?_) | (with_reducible refine sNe ?_)
  refine sN ex ?_
  repeat first | (with_reducible refine sT ?_) | ((with_reducible refine sIg (n := ?_) ?_ ?_); rotate_left; exact rfl) | ((with_reducible refine sBg (n := ?_) ?_ ?_); rotate_left; exact rfl) | ((with_reducible refine sSg (n := ?_) ?_ ?_); rotate_left; exact rfl) | ((with_reducible refine sLg (n := ?_) (cs := ?_) ?_ ?_); rotate_left 2; exact rfl) | ((with_reducible refine sOg (n := ?_) (cs := ?_) ?_ ?_); rotate_left 2; exact rfl) | (with_reducible refine sNt ?_) | (with_reducible refine sNe ?_)
  refine sW m1 ?_
  repeat first | (with_reducible refine sT ?_) | ((with_reducible refine sIg (n := ?_) ?_ ?_); rotate_left; exact rfl) | ((with_reducible refine sBg (n := ?_) ?_ ?_); rotate_left; exact rfl) | ((with_reducible refine sSg (n := ?_) ?_ ?_); rotate_left; exact rfl) | ((with_reducible refine sLg (n := ?_) (cs := ?_) ?_ ?_); rotate_left 2; exact rfl) | ((with_reducible refine sOg (n := ?_) (cs := ?_) ?_ ?_); rotate_left 2; exact rfl) | (with_reducible refine sNt ?_) | (with_reducible refine sNe ?_)
  refine sW m2 ?_
  repeat first | (with_reducible refine sT ?_) | ((with_reducible refine sIg (n := ?_) ?_ ?_); rotate_left; exact rfl) | ((with_reducible refine sBg (n := ?_) ?_ ?_); rotate_left; exact rfl) | ((with_reducible refine sSg (n := ?_) ?_ ?_); rotate_left; exact rfl) | ((with_reducible refine sLg (n := ?_) (cs := ?_) ?_ ?_); rotate_left 2; exact rfl) | ((with_reducible refine sOg (n := ?_) (cs := ?_) ?_ ?_); rotate_left 2; exact rfl) | (with_reducible refine sNt ?_) | (with_reducible refine sNe ?_)
  refine sW m3 ?_
  repeat first | (with_reducible refine sT ?_) | ((with_reducible refine sIg (n := ?_) ?_ ?_); rotate_left; exact rfl) | ((with_reducible refine sBg (n := ?_) ?_ ?_); rotate_left; exact rfl) | ((with_reducible refine sSg (n := ?_) ?_ ?_); rotate_left; exact rfl) | ((with_reducible refine sLg (n := ?_) (cs := ?_) ?_ ?_); rotate_left 2; exact rfl) | ((with_reducible refine sOg (n := ?_) (cs := ?_) ?_ ?_); rotate_left 2; exact rfl) | (with_reducible refine sNt ?_) | (with_reducible refine sNe ?_)
  refine s0 q1 (sN ce ?_)
  repeat first | (with_reducible refine sT ?_) | ((with_reducible refine sIg (n := ?_) ?_ ?_); rotate_left; exact rfl) | ((with_reducible refine sBg (n := ?_) ?_ ?_); rotate_left; exact rfl) | ((with_reducible refine sSg (n := ?_) ?_ ?_); rotate_left; exact rfl) | ((with_reducible refine sLg (n := ?_) (cs := ?_) ?_ ?_); rotate_left 2; exact rfl) | ((with_reducible refine sOg (n := ?_) (cs := ?_) ?_ ?_); rotate_left 2; exact rfl) | (with_reducible refine sNt ?_) | (with_reducible refine sNe ?_)
  refine sW mr ?_
  repeat first | (with_reducible refine sT ?_) | ((with_reducible refine sIg (n := ?_) ?_ ?_); rotate_left; exact rfl) | ((with_reducible refine sBg (n := ?_) ?_ ?_); rotate_left; exact rfl) | ((with_reducible refine sSg (n := ?_) ?_ ?_); rotate_left; exact rfl) | ((with_reducible refine sLg (n := ?_) (cs := ?_) ?_ ?_); rotate_left 2; exact rfl) | ((with_reducible refine sOg (n := ?_) (cs := ?_) ?_ ?_); rotate_left 2; exact rfl) | (with_reducible refine sNt ?_) | (with_reducible refine sNe ?_)
  refine sN mh ?_
  repeat first | (with_reducible refine sT ?_) | ((with_reducible refine sIg (n := ?_) ?_ ?_); rotate_left; exact rfl) | ((with_reducible refine sBg (n := ?_) ?_ ?_); rotate_left; exact rfl) | ((with_reducible refine sSg (n := ?_) ?_ ?_); rotate_left; exact rfl) | ((with_reducible refine sLg (n := ?_) (cs := ?_) ?_ ?_); rotate_left 2; exact rfl) | ((with_reducible refine sOg (n := ?_) (cs := ?_) ?_ ?_); rotate_left 2; exact rfl) | (with_reducible refine sNt ?_) | (with_reducible refine sNe ?_)
  refine s0 q2 ?_
  repeat first | (with_reducible refine sT ?_) | ((with_reducible refine sIg (n := ?_) ?_ ?_); rotate_left; exact rfl) | ((with_reducible refine sBg (n := ?_) ?_ ?_); rotate_left; exact rfl) | ((with_reducible refine sSg (n := ?_) ?_ ?_); rotate_left; exact rfl) | ((with_reducible refine sLg (n := ?_) (cs := ?_) ?_ ?_); rotate_left 2; exact rfl) | ((with_reducible refine sOg (n := ?_) (cs := ?_) ?_ ?_); rotate_left 2; exact rfl) | (with_reducible refine sNt ?_) | (with_reducible refine sNe ?_)
  refine sN ts ?_
  repeat first | (with_reducible refine sT ?_) | ((with_reducible refine sIg (n := ?_) ?_ ?_); rotate_left; exact rfl) | ((with_reducible refine sBg (n := ?_) ?_ ?_); rotate_left; exact rfl) | ((with_reducible refine sSg (n := ?_) ?_ ?_); rotate_left; exact rfl) | ((with_reducible refine sLg (n := ?_) (cs := ?_) ?_ ?_); rotate_left 2; exact rfl) | ((with_reducible refine sOg (n := ?_) (cs := ?_) ?_ ?_); rotate_left 2; exact rfl) | (with_reducible refine sNt ?_) | (with_reducible refine sNe ?_)
  refine sN tp ?_
  repeat first | (with_reducible refine sT ?_) | ((with_reducible refine sIg (n := ?_) ?_ ?_); rotate_left; exact rfl) | ((with_reducible refine sBg (n := ?_) ?_ ?_); rotate_left; exact rfl) | ((with_reducible refine sSg (n := ?_) ?_ ?_); rotate_left; exact rfl) | ((with_reducible refine sLg (n := ?_) (cs := ?_) ?_ ?_); rotate_left 2; exact rfl) | ((with_reducible refine sOg (n := ?_) (cs := ?_) ?_ ?_); rotate_left 2; exact rfl) | (with_reducible refine sNt ?_) | (with_reducible refine sNe ?_)
  refine sN tx ?_
  repeat first | (with_reducible refine sT ?_) | ((with_reducible refine sIg (n := ?_) ?_ ?_); rotate_left; exact rfl) | ((with_reducible refine sBg (n := ?_) ?_ ?_); rotate_left; exact rfl) | ((with_reducible refine sSg (n := ?_) ?_ ?_); rotate_left; exact rfl) | ((with_reducible refine sLg (n := ?_) (cs := ?_) ?_ ?_); rotate_left 2; exact rfl) | ((with_reducible refine sOg (n := ?_) (cs := ?_) ?_ ?_); rotate_left 2; exact rfl) | (with_reducible refine sNt ?_) | (with_reducible refine sNe ?_)
  refine sN ci ?_
  repeat first | (with_reducible refine sT ?_) | ((with_reducible refine sIg (n := ?_) ?_ ?_); rotate_left; exact rfl) | ((with_reducible refine sBg (n := ?_) ?_ ?_); rotate_left; exact rfl) | ((with_reducible refine sSg (n := ?_) ?_ ?_); rotate_left; exact rfl) | ((with_reducible refine sLg (n := ?_) (cs := ?_) ?_ ?_); rotate_left 2; exact rfl) | ((with_reducible refine sOg (n := ?_) (cs := ?_) ?_ ?_); rotate_left 2; exact rfl) | (with_reducible refine sNt ?_) | (with_reducible refine sNe ?_)
  refine sN ce ?_
  repeat first | (with_reducible refine sT ?_) | ((with_reducible refine sIg (n := ?_) ?_ ?_); rotate_left; exact rfl) | ((with_reducible refine sBg (n := ?_) ?_ ?_); rotate_left; exact rfl) | ((with_reducible refine sSg (n := ?_) ?_ ?_); rotate_left; exact rfl) | ((with_reducible refine sLg (n := ?_) (cs := ?_) ?_ ?_); rotate_left 2; exact rfl) | ((with_reducible refine sOg (n := ?_) (cs := ?_) ?_ ?_); rotate_left 2; exact rfl) | (with_reducible refine sNt ?_) | (with_reducible refine sNe ?_)
  refine sN mh ?_
  repeat first | (with_reducible refine sT ?_) | ((with_reducible refine sIg (n := ?_) ?_ ?_); rotate_left; exact rfl) | ((with_reducible refine sBg (n := ?_) ?_ ?_); rotate_left; exact rfl) | ((with_reducible refine sSg (n := ?_) ?_ ?_); rotate_left; exact rfl) | ((with_reducible refine sLg (n := ?_) (cs := ?_) ?_ ?_); rotate_left 2; exact rfl) | ((with_reducible refine sOg (n := ?_) (cs := ?_) ?_ ?_); rotate_left 2; exact rfl) | (with_reducible refine sNt ?_) | (with_reducible refine sNe ?_)
  refine s0 q2 ?_
  repeat first | (with_reducible refine sT ?_) | ((with_reducible refine sIg (n := ?_) ?_ ?_); rotate_left; exact rfl) | ((with_reducible refine sBg (n := ?_) ?_ ?_); rotate_left; exact rfl) | ((with_reducible refine sSg (n := ?_) ?_ ?_); rotate_left; exact rfl) | ((with_reducible refine sLg (n := ?_) (cs := ?_) ?_ ?_); rotate_left 2; exact rfl) | ((with_reducible refine sOg (n := ?_) (cs := ?_) ?_ ?_); rotate_left 2; exact rfl) | (with_reducible refine sNt ?_) | (with_reducible refine sNe ?_)
  rfl
end Go.Proofs.Ytehpmolckdmibaa.Vote
