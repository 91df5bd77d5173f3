/-
  SHA-256 of the implementation: the message, the whole.
-/
import Derived.Test.YtodapaplfjfnlaaGreatPLSha4TQ
namespace Go.Proofs.YtodapaplfjfnlaaGreat.Sha
open Go Go.PI Go.PI.Sha EqQ
set_option maxHeartbeats 1000000
set_option linter.unusedVariables false
set_option linter.unusedSimpArgs false
section
variable (R : V)
theorem y3 (n : Int) : ∀ (k : Nat) (o : List UInt8), k ≤ 8 → o.length + k ≤ 140737488355328 → (o.length + k) % 64 = 0 →
    R = .tup [.osl 32 (bytesV (outB (blks ((o ++ putT n k).length / 64) st0 (o ++ putT n k))))] →
    loopE C 130 4 [true, true, true, true, true, true, false, true] [] [(3, V.ref 0), (6, V.int .u64 n), (7, V.int .i64 (8 * (k : Int) - 8))] [Ob.row 5 o.length (bytesV o) false] = some R := by
  intro k
  induction k with
  | zero =>
    intro o hk ho hz hR
    refine E130l3 _ _ _ _ ?_
    unfold T130l3
    have := x1a R (o.length / 64) o st0 (by omega) (by rw [hR]; simp [putT])
    exact this
  | succ k ih =>
    intro o hk ho hz hR
    have ih := ih (o ++ [b8 (n.fdiv (2 ^ (8 * k)))]) (by omega) (by simp; omega) (by rw [List.length_append, List.length_singleton]; omega) (by rw [hR, putT, List.append_assoc]; rfl)
    refine E130l3 _ _ _ _ ?_
    unfold T130l3
    have e : (8 * ((k + 1 : Nat) : Int) - 8) = ((8 * k : Nat) : Int) := by omega
    have e2 : IntKind.i64.wrap (((8 * k : Nat) : Int) - 8) = 8 * (k : Int) - 8 := by rw [w64 (by omega) (by omega)]; omega
    have d : o.length + 1 ≤ 140737488355328 := by omega
    have g : ((8 * k : Nat) : Int) ≥ 0 := by omega
    have mn : min (8 * k) 64 = 8 * k := by omega
    rw [List.length_append, List.length_singleton, bytesV_append] at ih
    simp only [e, S0, g, e2, mn, Int.natCast_nonneg, d, wrap_b8, bytesV_one, ih]
theorem y2 (n : Int) : ∀ (k : Nat) (o : List UInt8), k < 64 → (o.length + k) % 64 = 56 → o.length + k + 8 ≤ 140737488355328 →
    R = .tup [.osl 32 (bytesV (outB (blks ((o ++ (List.replicate k 0 ++ putT n 8)).length / 64) st0 (o ++ (List.replicate k 0 ++ putT n 8)))))] →
    loopE C 130 2 [true, true, true, true, true, false] [] [(3, V.ref 0), (6, V.int .u64 n)] [Ob.row 5 o.length (bytesV o) false] = some R := by
  intro k
  induction k with
  | zero =>
    intro o hn h ho hR
    refine E130l2 _ _ _ ?_
    unfold T130l2
    have e : o.length % 64 = 56 := by omega
    have := y3 R n 8 o (by omega) (by omega) (by omega) (by rw [hR]; simp)
    rw [tm64, e]
    exact this
  | succ k ih =>
    intro o hn h ho hR
    have ih := ih (o ++ [0]) (by omega) (by rw [List.length_append, List.length_singleton]; omega) (by rw [List.length_append, List.length_singleton]; omega)
      (by rw [hR, List.replicate_succ, List.append_assoc]; rfl)
    refine E130l2 _ _ _ ?_
    unfold T130l2
    have e : (((o.length % 64 : Nat) : Int) != 56) = true := by rw [bne_iff_ne]; omega
    have d : o.length + 1 ≤ 140737488355328 := by omega
    rw [List.length_append, List.length_singleton, bytesV_append] at ih
    simp only [tm64, e, S0, d]
    exact ih
end
def partsV (ps : List (List UInt8)) : List V := ps.map fun p => V.sl p.length (bytesV p)
@[simp] theorem partsV_length (ps : List (List UInt8)) : (partsV ps).length = ps.length := by simp [partsV]
theorem partsV_get {ps : List (List UInt8)} {i : Nat} (h : i < ps.length) : (partsV ps)[i]? = some (.sl ps[i].length (bytesV ps[i])) := by simp [partsV, h]
theorem y1 (ps : List (List UInt8)) (hp : ps.length ≤ 1099511627776) (R : V) : ∀ (n i : Nat) (o : List UInt8), ps.length - i = n → i ≤ ps.length → (o ++ (ps.drop i).flatten).length ≤ 1099511627776 →
    R = .tup [.osl 32 (bytesV (sha (o ++ (ps.drop i).flatten)))] →
    loopE C 130 0 [true, true, false, true] [] [(3, V.ref 0), (13, V.sl ps.length (partsV ps)), (14, V.int .i64 (ps.length : Int)), (15, V.int .i64 (i : Int))] [Ob.row 5 o.length (bytesV o) false] = some R := by
  intro n
  induction n with
  | zero =>
    intro i o h hi ho hR
    have : i = ps.length := by omega
    subst this
    rw [List.drop_length, List.flatten_nil, List.append_nil] at hR ho
    refine E130l1 _ _ _ _ _ _ ?_
    unfold T130l1
    have hn : ¬ (ps.length : Int) < (ps.length : Int) := by omega
    have d : o.length + 1 ≤ 140737488355328 := by omega
    have e : IntKind.u64.wrap (IntKind.u64.wrap (o.length : Int) * 8) = (o.length : Int) * 8 := by
      rw [wu64 _ (by omega), show (o.length : Int) * 8 = ((o.length * 8 : Nat) : Int) by omega, wu64 _ (by omega)]
    have := y2 R ((o.length : Int) * 8) (gap o.length) (o ++ [128]) (by unfold gap; omega) (by rw [List.length_append, List.length_singleton]; unfold gap; omega)
      (by rw [List.length_append, List.length_singleton]; unfold gap; omega) (by rw [hR, sha, pad, List.append_assoc]; rfl)
    rw [List.length_append, List.length_singleton, bytesV_append] at this
    have hl : ¬ ps.length < ps.length := by omega
    simp only [S0, hl, d, e]
    exact this
  | succ n ih =>
    intro i o h hi ho hR
    have hlt : i < ps.length := by omega
    have hw := w64_succ (n := i) (by omega)
    rw [drop_eq_cons hlt, List.flatten_cons, ← List.append_assoc] at hR ho
    have ih := ih (i + 1) (o ++ ps[i]) (by omega) (by omega) ho hR
    refine E130l1 _ _ _ _ _ _ ?_
    unfold T130l1
    have d : o.length + ps[i].length ≤ 140737488355328 := by
      rw [List.length_append, List.length_append] at ho; omega
    rw [List.length_append, bytesV_append] at ih
    simp only [S0, hlt, partsV_length, partsV_get hlt, d, hw, ih]
theorem c130 (ps : List (List UInt8)) (hp : ps.length ≤ 1099511627776) (h : ps.flatten.length ≤ 1099511627776) : runE C 130 [.sl ps.length (partsV ps)] = some (.tup [.osl 32 (bytesV (sha ps.flatten))]) := by
  refine E130 _ _ ?_
  unfold T130
  exact y1 ps hp _ ps.length 0 [] rfl (by omega) (by simpa using h) (by simp)
end Go.Proofs.YtodapaplfjfnlaaGreat.Sha
