/-
  Evidence, both sides.
-/
import Derived.Test.YtodapaplfjfnlaaGreatPLSignedTQ
import Derived.Test.YtodapaplfjfnlaaGreatPLSet3TQ
namespace Go.PI.Vote
open Go Go.PI Go.PI.Sha Go.PI.Rel Go.PI.Nest Go.PI.Tru
end Go.PI.Vote
namespace Go.Proofs.YtodapaplfjfnlaaGreat.Vote
open Go Go.PI Go.PI.Sha Go.PI.Rel Go.PI.Nest Go.PI.Tru Go.PI.Set Go.PI.Tree Go.PI.Vote Go.Proofs.YtodapaplfjfnlaaGreat.Sha Go.Proofs.YtodapaplfjfnlaaGreat.By Go.Proofs.YtodapaplfjfnlaaGreat.Nest Go.Proofs.YtodapaplfjfnlaaGreat.Tru Go.Proofs.YtodapaplfjfnlaaGreat.Set Go.Proofs.YtodapaplfjfnlaaGreat.Tree EqQ
set_option maxHeartbeats 1000000
set_option linter.unusedVariables false
set_option linter.unusedSimpArgs false
end Go.Proofs.YtodapaplfjfnlaaGreat.Vote
namespace Go.PI.Vote
open Go Go.PI Go.PI.Sha Go.PI.Rel Go.PI.Nest Go.PI.Tru Go.PI.Set Go.PI.Tree
def old (t : Tr) (now : Int) : Bool := !decide (0 ≤ now ∧ now ≤ t.hd.tim + t.per)
def fitT (t : Tr) : Prop := fitH t.hd ∧ fitV t.nx ∧ fitP t.roots
def shd (t : Tr) (l : List Vd) (vs : List Vt) : Bool := decide (3 * sharedP l t.nx vs > totP t.nx)
end Go.PI.Vote
namespace Go.Proofs.YtodapaplfjfnlaaGreat.Vote
open Go Go.PI Go.PI.Sha Go.PI.Rel Go.PI.Nest Go.PI.Tru Go.PI.Set Go.PI.Tree Go.PI.Vote Go.Proofs.YtodapaplfjfnlaaGreat.Sha Go.Proofs.YtodapaplfjfnlaaGreat.By Go.Proofs.YtodapaplfjfnlaaGreat.Nest Go.Proofs.YtodapaplfjfnlaaGreat.Tru Go.Proofs.YtodapaplfjfnlaaGreat.Set Go.Proofs.YtodapaplfjfnlaaGreat.Tree EqQ
set_option maxHeartbeats 1000000
set_option linter.unusedVariables false
set_option linter.unusedSimpArgs false
theorem nz {α : Type} {a : Int} (h : a = 0) (p q : α) : (if a ≠ 0 then p else q) = q := if_neg (fun k => k h)
theorem tFault_parts {t : Tr} (h : tFault t = 0) : hbFault t.hd = 0 ∧ setFault t.nx = 0 ∧ 1 ≤ t.per ∧ t.per ≤ 1099511627776 := by
  unfold tFault at h
  by_cases g0 : hbFault t.hd = 0
  case neg => rw [if_pos g0] at h; exact absurd h g0
  rw [if_neg (fun h => h g0)] at h
  by_cases g1 : setFault t.nx = 0
  case neg => rw [if_pos g1] at h; exact absurd h g1
  rw [if_neg (fun h => h g1)] at h
  by_cases g2 : t.hd.nxt = setDig t.nx
  case neg => rw [if_pos g2] at h; cases h
  rw [if_neg (fun h => h g2)] at h
  by_cases g3 : 1 ≤ t.per ∧ t.per ≤ 1099511627776
  case neg => rw [if_pos g3] at h; cases h
  exact ⟨g0, g1, g3⟩
theorem old_wrap {t : Tr} (h : tFault t = 0) : IntKind.i64.wrap (t.hd.tim + t.per) = t.hd.tim + t.per := by
  obtain ⟨h1, h2, h3⟩ := tFault_parts h
  have := Go.PI.Set.hbFault_ok h1
  exact w64 (by omega) (by omega)
theorem c74 (t : Tr) (now : Int) (h : tFault t = 0) : runE C 74 [.agg [.int .i64 t.hd.hgt, .int .i64 t.hd.tim, .sl t.hd.root.length (bytesV t.hd.root), .sl t.hd.set.length (bytesV t.hd.set), .sl t.hd.nxt.length (bytesV t.hd.nxt), .sl t.nx.length (vsS t.nx), .int .i64 t.per, .bool t.pau, .sl t.roots.length (psS t.roots), .int .i64 t.frm], .int .i64 now] = some (.tup [.bool (old t now)]) := by
  refine E74 _ _ _ _ _ _ _ _ _ _ _ _ _ _ _ _ ?_
  unfold T74
  simp only [S0, old_wrap h, c51]
  rfl
theorem c80 (t : Tr) (now : Int) (h : tFault t = 0) : runE C 80 [.pin [.int .i64 t.hd.hgt, .int .i64 t.hd.tim, .sl t.hd.root.length (bytesV t.hd.root), .sl t.hd.set.length (bytesV t.hd.set), .sl t.hd.nxt.length (bytesV t.hd.nxt), .sl t.nx.length (vsS t.nx), .int .i64 t.per, .bool t.pau, .sl t.roots.length (psS t.roots), .int .i64 t.frm] 0, .int .i64 now] = some (.tup [.bool (old t now)]) := by
  refine E80 _ _ _ _ _ _ _ _ _ _ _ _ _ _ _ _ ?_
  unfold T80 old
  simp only [old_wrap h]
  by_cases c : now < 0
  · have c' : ¬ (0 ≤ now ∧ now ≤ t.hd.tim + t.per) := by omega
    simp only [decide_eq_true c, decide_eq_false c', S0]
  · by_cases c2 : now > t.hd.tim + t.per
    · have c' : ¬ (0 ≤ now ∧ now ≤ t.hd.tim + t.per) := by omega
      simp only [decide_eq_false c, decide_eq_true c2, decide_eq_false c', S0]
    · have c' : (0 ≤ now ∧ now ≤ t.hd.tim + t.per) := by omega
      simp only [decide_eq_false c, decide_eq_false c2, decide_eq_true c', S0]
theorem shd_wrap {t : Tr} (h : setFault t.nx = 0) (l : List Vd) {vs : List Vt} (hn : vs.length ≤ 5) : IntKind.i64.wrap (3 * sharedP l t.nx vs) = 3 * sharedP l t.nx vs := by
  have := shared_bound l (set_pow h) vs
  exact w64 (by omega) (by omega)
theorem c78 (t : Tr) (l : List Vd) (x : HB) (vs : List Vt) (h : tFault t = 0) (g : sgFault l x vs = 0) : runE C 78 [.agg [.int .i64 t.hd.hgt, .int .i64 t.hd.tim, .sl t.hd.root.length (bytesV t.hd.root), .sl t.hd.set.length (bytesV t.hd.set), .sl t.hd.nxt.length (bytesV t.hd.nxt), .sl t.nx.length (vsS t.nx), .int .i64 t.per, .bool t.pau, .sl t.roots.length (psS t.roots), .int .i64 t.frm], .sl l.length (vsS l), .agg [.int .i64 x.hgt, .int .i64 x.tim, .sl x.root.length (bytesV x.root), .sl x.set.length (bytesV x.set), .sl x.nxt.length (bytesV x.nxt), .sl vs.length (vtsS vs)]] = some (.tup [.bool (mostV l vs && shd t l vs)]) := by
  obtain ⟨q1, q2, q3⟩ := tFault_parts h
  obtain ⟨p1, p2, p3, p4⟩ := sgFault_ok g
  refine E78 _ _ _ _ _ _ _ _ _ _ _ _ _ _ _ _ _ _ _ _ _ _ _ _ _ _ _ ?_
  unfold T78
  have k := c90 l x vs p1 p3 p4
  by_cases c : mostV l vs = true
  · rw [c] at k ⊢
    simp only [S0, k, c148 l t.nx x vs q2 p3 p4, c149 t.nx q2, shd_wrap q2 l p3]
    rfl
  · have c : mostV l vs = false := by simpa using c
    rw [c] at k ⊢
    simp only [S0, k, Bool.false_and]
theorem c85 (t : Tr) (l : List Vd) (x : HB) (vs : List Vt) (h : tFault t = 0) (g : sgFault l x vs = 0) : runE C 85 [.pin [.int .i64 t.hd.hgt, .int .i64 t.hd.tim, .sl t.hd.root.length (bytesV t.hd.root), .sl t.hd.set.length (bytesV t.hd.set), .sl t.hd.nxt.length (bytesV t.hd.nxt), .sl t.nx.length (vsS t.nx), .int .i64 t.per, .bool t.pau, .sl t.roots.length (psS t.roots), .int .i64 t.frm] 0, .sl l.length (vsS l), .agg [.int .i64 x.hgt, .int .i64 x.tim, .sl x.root.length (bytesV x.root), .sl x.set.length (bytesV x.set), .sl x.nxt.length (bytesV x.nxt), .sl vs.length (vtsS vs)]] = some (.tup [.bool (shd t l vs)]) := by
  obtain ⟨q1, q2, q3⟩ := tFault_parts h
  obtain ⟨p1, p2, p3, p4⟩ := sgFault_ok g
  refine E85 _ _ _ _ _ _ _ _ _ _ _ _ _ _ _ _ _ _ _ _ _ _ _ _ _ _ _ ?_
  unfold T85
  simp only [S0, c157 l t.nx x vs q2 p3 p4, c156 t.nx q2, shd_wrap q2 l p3]
  rfl
end Go.Proofs.YtodapaplfjfnlaaGreat.Vote
