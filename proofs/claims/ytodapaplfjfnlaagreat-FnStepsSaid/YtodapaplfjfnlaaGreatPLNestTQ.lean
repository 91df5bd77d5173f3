/-
  Lists of byte lists: marked, held, cloned, the same.
-/
import Derived.Test.YtodapaplfjfnlaaGreatPLBytesTQ
import Derived.Test.YtodapaplfjfnlaaGreatPMNest
namespace Go.Proofs.YtodapaplfjfnlaaGreat.Nest
open Go Go.PI Go.PI.Sha Go.PI.Rel Go.PI.Nest Go.Proofs.YtodapaplfjfnlaaGreat.Sha Go.Proofs.YtodapaplfjfnlaaGreat.By EqQ
set_option maxHeartbeats 1000000
set_option linter.unusedVariables false
set_option linter.unusedSimpArgs false
theorem l152 : ∀ (r d : List (List UInt8)) (n i : Nat), n = d.length + r.length → i = d.length → n < 1000000000 → tot List.length r ≤ 1000000000 →
    loopE C 152 0 [true, true, false, true] [] [(3, V.ref 0), (7, V.sl n (psS (d ++ r))), (8, V.int .i64 (n : Int)), (9, V.int .i64 (i : Int))] [Ob.nrow [] 22 i (psO d)] = some (.tup [.osl n (psO (d ++ r))])
  | [], d, n, i, hn, hi, hq, ht => by
    refine E152l1 _ _ _ _ _ _ ?_
    unfold T152l1
    have e : i = n := by simp at hn; omega
    have : ¬ n < n := by omega
    subst e
    simp [this]
  | b :: r, d, n, i, hn, hi, hq, ht => by
    simp only [List.length_cons] at hn
    simp only [tot] at ht
    have ih := l152 r (d ++ [b]) n (i + 1) (by simp; omega) (by simp; omega) hq (by omega)
    refine E152l1 _ _ _ _ _ _ ?_
    unfold T152l1
    have hlt : i < n := by omega
    have hw := w64_succ (n := i) (by omega)
    have hg : (psS (d ++ b :: r))[i]? = some (bS b) := by subst hi; exact psS_at d b r
    have hl : (psS (d ++ b :: r)).length = n := by rw [psS_length]; simp; omega
    have d1 : i + 1 ≤ 140737488355328 := by omega
    have d2 : (i + 1) * 24 ≤ 140737488355328 := by omega
    simp only [List.append_assoc, List.singleton_append] at ih
    have e : psO d ++ [V.own false 5 1 b.length (bytesV b)] = psO (d ++ [b]) := psO_snoc d b
    simp only [S0, hlt, hg, hl, bS, c110 b (by omega), hw, d1, d2, e, ih]
theorem c152 (l : List (List UInt8)) (h : l.length < 1000000000) (ht : tot List.length l ≤ 1000000000) : runE C 152 [.sl l.length (psS l)] = some (.tup [.osl l.length (psO l)]) := by
  refine E152 _ _ ?_
  unfold T152
  exact l152 l [] l.length 0 (by simp) rfl h ht
theorem l159 : ∀ (r d : List (List UInt8)) (n i : Nat), n = d.length + r.length → i = d.length → n < 1000000000 → tot List.length r ≤ 1000000000 →
    loopE C 159 0 [true, true, false, true] [] [(0, V.sl n (psS (d ++ r))), (3, V.ref 0), (4, V.int .i64 (i : Int))] [Ob.row 22 i (psS d) false] = some (.tup [.osl n (psS (d ++ r))])
  | [], d, n, i, hn, hi, hq, ht => by
    refine E159l1 _ _ _ _ _ ?_
    unfold T159l1
    have e : i = n := by simp at hn; omega
    have : ¬ n < n := by omega
    subst e
    simp [this]
  | b :: r, d, n, i, hn, hi, hq, ht => by
    simp only [List.length_cons] at hn
    simp only [tot] at ht
    have ih := l159 r (d ++ [b]) n (i + 1) (by simp; omega) (by simp; omega) hq (by omega)
    refine E159l1 _ _ _ _ _ ?_
    unfold T159l1
    have hlt : i < n := by omega
    have hw := w64_succ (n := i) (by omega)
    have hg : (psS (d ++ b :: r))[i]? = some (bS b) := by subst hi; exact psS_at d b r
    have hl : (psS (d ++ b :: r)).length = n := by rw [psS_length]; simp; omega
    have d0 : b.length ≤ 140737488355328 := by omega
    have d1 : i + 1 ≤ 140737488355328 := by omega
    have d2 : (i + 1) * 24 ≤ 140737488355328 := by omega
    simp only [List.append_assoc, List.singleton_append] at ih
    have e : psS d ++ [V.sl b.length (bytesV b)] = psS (d ++ [b]) := by simp [psS, bS]
    simp only [S0, hlt, hg, hl, bS, hw, d0, d1, d2, e, ih]
theorem c159 (l : List (List UInt8)) (h : l.length < 1000000000) (ht : tot List.length l ≤ 1000000000) : runE C 159 [.sl l.length (psS l)] = some (.tup [.osl l.length (psS l)]) := by
  refine E159 _ _ ?_
  unfold T159
  exact l159 l [] l.length 0 (by simp) rfl h ht
end Go.Proofs.YtodapaplfjfnlaaGreat.Nest
