/-
  Evidence, both sides.
-/
import Derived.Test.YtgbpimaidhhnjaaGreatPLSigKTX
import Derived.Test.YtgbpimaidhhnjaaGreatPLSet3TX
namespace Go.PI.Vote
open Go Go.PI Go.PI.Sha Go.PI.Rel Go.PI.Nest Go.PI.Tru Go.PI.Set Go.PI.Tree
def old (t : Tr) (now : Int) : Bool := !decide (0 ≤ now ∧ now ≤ t.hd.tim + t.per)
structure Sg where
  hd : HB
  vs : List Vt
def sgfit (x : Sg) : Prop := fitH x.hd ∧ vtsfit x.vs
theorem sg_bound {x : Sg} (h : sgfit x) : szH x.hd ≤ 100000000 ∧ vtsC x.vs ≤ 500000000 := ⟨h.1, vtsC_bound h.2⟩
def szTr (t : Tr) : Nat := szH t.hd + (t.nx.length + tot kl t.nx) + (t.roots.length + tot List.length t.roots)
theorem cV_bound {l : List Vd} (h : fitV l) : cV l ≤ 200000000 := by rw [cV_le]; have := h.1; have := h.2; omega
theorem szT_bound {t : Tr} (h : fitH t.hd) (h1 : fitV t.nx) (h2 : fitP t.roots) : szT t ≤ 400000000 := by
  have := cV_bound h1
  have := h2.2
  have : szH t.hd ≤ 100000000 := h
  unfold szT
  omega
def fitT (t : Tr) : Prop := fitH t.hd ∧ fitV t.nx ∧ fitP t.roots
def shd (t : Tr) (l : List Vd) (vs : List Vt) : Bool := decide (3 * sharedP l t.nx vs > totP t.nx)
end Go.PI.Vote
namespace Go.Proofs.YtgbpimaidhhnjaaGreat.Vote
open Go Go.PI Go.PI.Sha Go.PI.Rel Go.PI.Nest Go.PI.Tru Go.PI.Set Go.PI.Tree Go.PI.Vote Go.Proofs.YtgbpimaidhhnjaaGreat.Sha Go.Proofs.YtgbpimaidhhnjaaGreat.By Go.Proofs.YtgbpimaidhhnjaaGreat.Nest Go.Proofs.YtgbpimaidhhnjaaGreat.Tru Go.Proofs.YtgbpimaidhhnjaaGreat.Set Go.Proofs.YtgbpimaidhhnjaaGreat.Tree EqX
set_option maxHeartbeats 1000000
set_option linter.unusedVariables false
set_option linter.unusedSimpArgs false
theorem c7 (t : Tr) (left : Int) (h : t.hd.root.length ≤ 9223372036854775807 ∧ t.hd.set.length ≤ 9223372036854775807 ∧ t.hd.nxt.length ≤ 9223372036854775807) (a1 : t.nx.length ≤ 9223372036854775807) (a2 : ∀ v ∈ t.nx, v.key.length ≤ 9223372036854775807) (a3 : t.roots.length ≤ 9223372036854775807) (a4 : ∀ v ∈ t.roots, v.length ≤ 9223372036854775807) (h1 : 0 ≤ left) (h2 : left ≤ 4611686018427387904) :
    runE C 7 [.agg [.int .i64 t.hd.hgt, .int .i64 t.hd.tim, .sl t.hd.root.length (bytesV t.hd.root), .sl t.hd.set.length (bytesV t.hd.set), .sl t.hd.nxt.length (bytesV t.hd.nxt), .sl t.nx.length (vsS t.nx), .int .i64 t.per, .bool t.pau, .sl t.roots.length (psS t.roots), .int .i64 t.frm], .int .i64 left] = some (.tup [.int .i64 (less left (szTr t))]) := by
  refine E7 _ _ _ _ _ _ _ _ _ _ _ _ _ _ _ _ ?_
  unfold T7
  have k1 := c30 t.hd left h h1 h2
  by_cases g1 : left < (szH t.hd : Int)
  · rw [less_lt g1] at k1
    rw [less_lt (by unfold szTr; omega)]
    simp only [S0, k1]
    rfl
  rw [less_ge g1] at k1
  have n1 : ¬ (left - (szH t.hd : Int) < 0) := by omega
  have k2 := c8 t.nx (left - szH t.hd) a1 a2 (by omega) (by omega)
  rw [less_less g1] at k2
  by_cases g2 : left < ((szH t.hd + (t.nx.length + tot kl t.nx) : Nat) : Int)
  · rw [less_lt g2] at k2
    rw [less_lt (by unfold szTr; omega)]
    simp only [S0, k1, n1, k2]
    rfl
  rw [less_ge g2] at k2
  have n2 : ¬ (left - ((szH t.hd + (t.nx.length + tot kl t.nx) : Nat) : Int) < 0) := by omega
  have k3 := c31 t.roots (left - ((szH t.hd + (t.nx.length + tot kl t.nx) : Nat) : Int)) a3 a4 (by omega) (by omega)
  rw [less_less g2] at k3
  have k3 : runE C 31 _ = some (.tup [.int .i64 (less left (szTr t))]) := k3
  by_cases g3 : left < (szTr t : Int)
  · rw [less_lt g3] at k3 ⊢
    simp only [S0, k1, n1, k2, n2, k3]
    rfl
  · rw [less_ge g3] at k3 ⊢
    have n3 : ¬ (left - (szTr t : Int) < 0) := by omega
    simp only [S0, k1, n1, k2, n2, k3, n3]
theorem c11 (t : Tr) (h : fitH t.hd) (h1 : fitV t.nx) (h2 : fitP t.roots) : runE C 11 [.agg [.int .i64 t.hd.hgt, .int .i64 t.hd.tim, .sl t.hd.root.length (bytesV t.hd.root), .sl t.hd.set.length (bytesV t.hd.set), .sl t.hd.nxt.length (bytesV t.hd.nxt), .sl t.nx.length (vsS t.nx), .int .i64 t.per, .bool t.pau, .sl t.roots.length (psS t.roots), .int .i64 t.frm]] = some (.tup [.int .i64 t.hd.hgt, .int .i64 t.hd.tim, .osl t.hd.root.length (bytesV t.hd.root), .osl t.hd.set.length (bytesV t.hd.set), .osl t.hd.nxt.length (bytesV t.hd.nxt), .osl t.nx.length (vsO t.nx), .int .i64 t.per, .bool t.pau, .osl t.roots.length (psO t.roots), .int .i64 t.frm]) := by
  refine E11 _ _ _ _ _ _ _ _ _ _ _ _ _ _ _ ?_
  unfold T11
  simp only [S0, c42 t.hd h, c12 t.nx h1, c43 t.roots h2]
theorem nz {α : Type} {a : Int} (h : a = 0) (p q : α) : (if a ≠ 0 then p else q) = q := if_neg (fun k => k h)
theorem tFault_parts {t : Tr} (h : tFault t = 0) : hbFault t.hd = 0 ∧ setFault t.nx = 0 ∧ 1 ≤ t.per ∧ t.per ≤ 1099511627776 := by
  unfold tFault at h
  by_cases g0 : hbFault t.hd = 0
  case neg => rw [if_pos g0] at h; exact absurd h g0
  rw [if_neg (fun h => h g0)] at h
  by_cases g1 : setFault t.nx = 0
  case neg => rw [if_pos g1] at h; exact absurd h g1
  rw [if_neg (fun h => h g1)] at h
  by_cases g2 : t.hd.nxt = setDig t.nx
  case neg => rw [if_pos g2] at h; cases h
  rw [if_neg (fun h => h g2)] at h
  by_cases g3 : 1 ≤ t.per ∧ t.per ≤ 1099511627776
  case neg => rw [if_pos g3] at h; cases h
  exact ⟨g0, g1, g3⟩
theorem old_wrap {t : Tr} (h : tFault t = 0) : IntKind.i64.wrap (t.hd.tim + t.per) = t.hd.tim + t.per := by
  obtain ⟨h1, h2, h3⟩ := tFault_parts h
  have := Go.PI.Set.hbFault_ok h1
  exact w64 (by omega) (by omega)
theorem c47 (t : Tr) (now : Int) (h : tFault t = 0) : runE C 47 [.agg [.int .i64 t.hd.hgt, .int .i64 t.hd.tim, .sl t.hd.root.length (bytesV t.hd.root), .sl t.hd.set.length (bytesV t.hd.set), .sl t.hd.nxt.length (bytesV t.hd.nxt), .sl t.nx.length (vsS t.nx), .int .i64 t.per, .bool t.pau, .sl t.roots.length (psS t.roots), .int .i64 t.frm], .int .i64 now] = some (.tup [.bool (old t now)]) := by
  refine E47 _ _ _ _ _ _ _ _ _ _ _ _ _ _ _ _ ?_
  unfold T47
  simp only [S0, old_wrap h, c91]
  rfl
theorem c35 (t : Tr) (now : Int) (h : tFault t = 0) : runE C 35 [.pin [.int .i64 t.hd.hgt, .int .i64 t.hd.tim, .sl t.hd.root.length (bytesV t.hd.root), .sl t.hd.set.length (bytesV t.hd.set), .sl t.hd.nxt.length (bytesV t.hd.nxt), .sl t.nx.length (vsS t.nx), .int .i64 t.per, .bool t.pau, .sl t.roots.length (psS t.roots), .int .i64 t.frm] 0, .int .i64 now] = some (.tup [.bool (old t now)]) := by
  refine E35 _ _ _ _ _ _ _ _ _ _ _ _ _ _ _ _ ?_
  unfold T35 old
  simp only [old_wrap h]
  by_cases c : now < 0
  · have c' : ¬ (0 ≤ now ∧ now ≤ t.hd.tim + t.per) := by omega
    simp only [decide_eq_true c, decide_eq_false c', S0]
  · by_cases c2 : now > t.hd.tim + t.per
    · have c' : ¬ (0 ≤ now ∧ now ≤ t.hd.tim + t.per) := by omega
      simp only [decide_eq_false c, decide_eq_true c2, decide_eq_false c', S0]
    · have c' : (0 ≤ now ∧ now ≤ t.hd.tim + t.per) := by omega
      simp only [decide_eq_false c, decide_eq_false c2, decide_eq_true c', S0]
theorem shd_wrap {t : Tr} (h : setFault t.nx = 0) (l : List Vd) {vs : List Vt} (hn : vs.length ≤ 5) : IntKind.i64.wrap (3 * sharedP l t.nx vs) = 3 * sharedP l t.nx vs := by
  have := shared_bound l (set_pow h) vs
  exact w64 (by omega) (by omega)
theorem c51 (t : Tr) (l : List Vd) (x : HB) (vs : List Vt) (h : tFault t = 0) (g : sgFault l x vs = 0) : runE C 51 [.agg [.int .i64 t.hd.hgt, .int .i64 t.hd.tim, .sl t.hd.root.length (bytesV t.hd.root), .sl t.hd.set.length (bytesV t.hd.set), .sl t.hd.nxt.length (bytesV t.hd.nxt), .sl t.nx.length (vsS t.nx), .int .i64 t.per, .bool t.pau, .sl t.roots.length (psS t.roots), .int .i64 t.frm], .sl l.length (vsS l), .agg [.int .i64 x.hgt, .int .i64 x.tim, .sl x.root.length (bytesV x.root), .sl x.set.length (bytesV x.set), .sl x.nxt.length (bytesV x.nxt), .sl vs.length (vtsS vs)]] = some (.tup [.bool (mostV l vs && shd t l vs)]) := by
  obtain ⟨q1, q2, q3⟩ := tFault_parts h
  obtain ⟨p1, p2, p3, p4⟩ := sgFault_ok g
  refine E51 _ _ _ _ _ _ _ _ _ _ _ _ _ _ _ _ _ _ _ _ _ _ _ _ _ _ _ ?_
  unfold T51
  have k := c66 l x vs p1 p3 p4
  by_cases c : mostV l vs = true
  · rw [c] at k ⊢
    simp only [S0, k, c99 l t.nx x vs q2 p3 p4, c100 t.nx q2, shd_wrap q2 l p3]
    rfl
  · have c : mostV l vs = false := by simpa using c
    rw [c] at k ⊢
    simp only [S0, k, Bool.false_and]
theorem c40 (t : Tr) (l : List Vd) (x : HB) (vs : List Vt) (h : tFault t = 0) (g : sgFault l x vs = 0) : runE C 40 [.pin [.int .i64 t.hd.hgt, .int .i64 t.hd.tim, .sl t.hd.root.length (bytesV t.hd.root), .sl t.hd.set.length (bytesV t.hd.set), .sl t.hd.nxt.length (bytesV t.hd.nxt), .sl t.nx.length (vsS t.nx), .int .i64 t.per, .bool t.pau, .sl t.roots.length (psS t.roots), .int .i64 t.frm] 0, .sl l.length (vsS l), .agg [.int .i64 x.hgt, .int .i64 x.tim, .sl x.root.length (bytesV x.root), .sl x.set.length (bytesV x.set), .sl x.nxt.length (bytesV x.nxt), .sl vs.length (vtsS vs)]] = some (.tup [.bool (shd t l vs)]) := by
  obtain ⟨q1, q2, q3⟩ := tFault_parts h
  obtain ⟨p1, p2, p3, p4⟩ := sgFault_ok g
  refine E40 _ _ _ _ _ _ _ _ _ _ _ _ _ _ _ _ _ _ _ _ _ _ _ _ _ _ _ ?_
  unfold T40
  simp only [S0, c82 l t.nx x vs q2 p3 p4, c81 t.nx q2, shd_wrap q2 l p3]
  rfl
end Go.Proofs.YtgbpimaidhhnjaaGreat.Vote
