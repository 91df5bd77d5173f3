/-
  FnOlds: what it comes to.
-/
import Derived.Test.YtodapaplfjfnlaaGreatPLStepTO
import Derived.Test.YtodapaplfjfnlaaGreatPLDrawTTO
namespace Go.Proofs.YtodapaplfjfnlaaGreat.Vote
open Go Go.PI Go.PI.Sha Go.PI.Rel Go.PI.Nest Go.PI.Tru Go.PI.Set Go.PI.Tree Go.PI.Vote Go.Proofs.YtodapaplfjfnlaaGreat.Sha Go.Proofs.YtodapaplfjfnlaaGreat.By Go.Proofs.YtodapaplfjfnlaaGreat.Nest Go.Proofs.YtodapaplfjfnlaaGreat.Tru Go.Proofs.YtodapaplfjfnlaaGreat.Set Go.Proofs.YtodapaplfjfnlaaGreat.Tree EqO
set_option maxHeartbeats 1000000
set_option linter.unusedVariables false
set_option linter.unusedSimpArgs false
theorem late_old {t : Tr} {v : Int} (h : tFault t = 0) (hp : t.pau = false) (hv : 0 ≤ v) : stF t (t.hd.tim + t.per + 1 + v) = 10 ∧ old t (t.hd.tim + t.per + 1 + v) = true := by
  have o : old t (t.hd.tim + t.per + 1 + v) = true := by
    unfold old
    rw [decide_eq_false (by omega)]; rfl
  refine ⟨?_, o⟩
  unfold stF
  rw [if_neg (fun k => k h), hp, if_neg (by decide), if_pos o]
theorem c6 (code : List UInt8) (h : code.length ≤ 9223372036854775807) : runE C 6 [.sl code.length (bytesV code)] = some (.tup [.bool true]) := by
  refine E6 _ _ ?_
  unfold T6
  have k0 := c8 code
  by_cases g : (code.length : Int) > 1048576
  · rw [decide_eq_true g] at k0
    simp only [S0, k0]
  rw [decide_eq_false g] at k0
  obtain ⟨_, hr, t, x, us, p, n, rfl, ht, hx, hu, hp⟩ := c28 code (by omega)
  have kt := c29 t ht.1 ht.2.1 ht.2.2
  have ki := c31 t ht.1 ht.2.1 ht.2.2
  have ka := c26 t x us p 5 ht.1 ht.2.1 ht.2.2 hu hp
  have kb := c30 t x us p 5 ht.1 ht.2.1 ht.2.2 hu hp
  generalize stepNext t x us p 5 = r at ka kb
  by_cases g1 : tFault t = 0
  case neg =>
    simp only [S0, k0, hr, kt, ki, bne_t g1, ka, kb, beq_self_eq_true]
  rw [g1] at kt ki
  cases gp : t.pau with
  | true =>
    rw [gp] at hr kt ki ka kb
    simp only [S0, k0, hr, kt, ki, bne_f, ka, kb, beq_self_eq_true]
  | false =>
    obtain ⟨_, hl, v, rfl, hv0, hv1⟩ := c24 code 2 50 (by omega) (by omega) (by omega)
    obtain ⟨q1, q2, q3⟩ := tFault_parts g1
    have q4 := Go.PI.Set.hbFault_ok q1
    have w1 : IntKind.i64.wrap (t.hd.tim + t.per) = t.hd.tim + t.per := w64 (by omega) (by omega)
    have w2 : IntKind.i64.wrap (t.hd.tim + t.per + 1) = t.hd.tim + t.per + 1 := w64 (by omega) (by omega)
    have w3 : IntKind.i64.wrap (t.hd.tim + t.per + 1 + v) = t.hd.tim + t.per + 1 + v := w64 (by omega) (by omega)
    obtain ⟨o1, o2⟩ := late_old g1 gp hv0
    have k1 := c26 t x us p (t.hd.tim + t.per + 1 + v) ht.1 ht.2.1 ht.2.2 hu hp
    have k2 := c32 t t.nx x us p (t.hd.tim + t.per + 1 + v) ht.1 ht.2.1 ht.2.2 ht.2.1 hu hp
    have k3 := c22 t t.nx x us x us (t.hd.tim + t.per + 1 + v) ht.1 ht.2.1 ht.2.2 ht.2.1 hu hu
    have e1 : stepNext t x us p (t.hd.tim + t.per + 1 + v) = (10, noT) := by unfold stepNext; rw [o1]; rfl
    have e2 : stepSkip t t.nx x us p (t.hd.tim + t.per + 1 + v) = (10, noT) := by unfold stepSkip; rw [o1]; rfl
    have e3 : evid t t.nx x us x us (t.hd.tim + t.per + 1 + v) = (10, noT) := by unfold evid; rw [if_neg (fun k => k g1), if_pos o2]
    rw [e1] at k1
    rw [e2] at k2
    rw [e3] at k3
    rw [gp] at hr kt k1 k2 k3
    simp only [S0, k0, hr, kt, bne_f, hl, w1, w2, w3, k1, k2, k3, beq_self_eq_true]
end Go.Proofs.YtodapaplfjfnlaaGreat.Vote
