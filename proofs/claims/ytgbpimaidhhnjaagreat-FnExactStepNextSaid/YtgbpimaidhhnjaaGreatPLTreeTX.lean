/-
  Trees of digests: splits, roots, paths, both sides.
-/
import Derived.Test.YtgbpimaidhhnjaaGreatPLSetTX
import Derived.Test.YtgbpimaidhhnjaaGreatPMTree
namespace Go.Proofs.YtgbpimaidhhnjaaGreat.Tree
open Go Go.PI Go.PI.Sha Go.PI.Rel Go.PI.Nest Go.PI.Tru Go.PI.Set Go.PI.Tree Go.Proofs.YtgbpimaidhhnjaaGreat.Sha Go.Proofs.YtgbpimaidhhnjaaGreat.By Go.Proofs.YtgbpimaidhhnjaaGreat.Nest Go.Proofs.YtgbpimaidhhnjaaGreat.Set EqX
set_option maxHeartbeats 1000000
set_option linter.unusedVariables false
set_option linter.unusedSimpArgs false
theorem c149 (b : List UInt8) (h : b.length ≤ 1000000) : runE C 149 [.sl b.length (bytesV b)] = some (.tup [.osl 32 (bytesV (dg leafTag b))]) := by
  refine E149 _ _ ?_
  unfold T149
  have k := g96 leafTag [b] (by decide) (by simp) (by simp; omega)
  rw [show [b].flatten = b by simp] at k
  have k : runE C 96 [V.str { data := #[(108 : UInt8), (101 : UInt8), (97 : UInt8), (102 : UInt8)] }, V.sl 1 [V.sl b.length (bytesV b)]] = some (.tup [.osl 32 (bytesV (dg leafTag (b)))]) := k
  simp only [S0, k]
theorem c151 (a b : List UInt8) (h : a.length + b.length ≤ 1000000) : runE C 151 [.sl a.length (bytesV a), .sl b.length (bytesV b)] = some (.tup [.osl 32 (bytesV (dg nodeTag (a ++ b)))]) := by
  refine E151 _ _ _ _ ?_
  unfold T151
  have k := g96 nodeTag [a, b] (by decide) (by simp) (by simp; omega)
  rw [show [a, b].flatten = a ++ b by simp] at k
  have k : runE C 96 [V.str { data := #[(110 : UInt8), (111 : UInt8), (100 : UInt8), (101 : UInt8)] }, V.sl 2 [V.sl a.length (bytesV a), V.sl b.length (bytesV b)]] = some (.tup [.osl 32 (bytesV (dg nodeTag (a ++ b)))]) := k
  simp only [S0, k]
theorem l158 : ∀ (f m n : Nat), 0 < m → n ≤ m + f → n ≤ 1000000000 → m ≤ 1000000000 →
    loopE C 158 0 [true, true, false] [] [(0, V.int .i64 (n : Int)), (3, V.int .i64 (m : Int))] [] = some (.tup [.int .i64 (spl f m n : Int)])
  | 0, m, n, h0, h1, hq, hm => by
    refine E158l1 _ _ ?_
    unfold T158l1
    have w1 : IntKind.i64.wrap (2 * (m : Int)) = ((2 * m : Nat) : Int) := by rw [show 2 * (m : Int) = ((2 * m : Nat) : Int) by omega]; exact w64_nat (by omega)
    have hn : ¬ 2 * m < n := by omega
    simp only [w1, S0, hn, spl]
  | f + 1, m, n, h0, h1, hq, hm => by
    refine E158l1 _ _ ?_
    unfold T158l1
    have w1 : IntKind.i64.wrap (2 * (m : Int)) = ((2 * m : Nat) : Int) := by rw [show 2 * (m : Int) = ((2 * m : Nat) : Int) by omega]; exact w64_nat (by omega)
    have w2 : IntKind.i64.wrap ((m : Int) * 2) = ((2 * m : Nat) : Int) := by rw [show (m : Int) * 2 = ((2 * m : Nat) : Int) by omega]; exact w64_nat (by omega)
    simp only [spl]
    by_cases hn : 2 * m < n
    · rw [if_pos hn]
      have ih := l158 f (2 * m) n (by omega) (by omega) hq (by omega)
      simp only [w1, w2, S0, hn, ih]
    · rw [if_neg hn]
      simp only [w1, S0, hn]
theorem c158 (n : Nat) (h : n ≤ 1000000000) : runE C 158 [.int .i64 (n : Int)] = some (.tup [.int .i64 (split n : Int)]) := by
  refine E158 _ ?_
  unfold T158
  exact l158 n 1 n (by decide) (by omega) h (by decide)
theorem c133 (b : List UInt8) (h : b.length ≤ 1000000) : runE C 133 [.sl b.length (bytesV b)] = some (.tup [.osl 32 (bytesV (dg leafTag b))]) := by
  refine E133 _ _ ?_
  unfold T133
  have k := c77 leafTag (b) (by decide) (by (try simp); omega)
  have k : runE C 77 [V.str { data := #[(108 : UInt8), (101 : UInt8), (97 : UInt8), (102 : UInt8)] }, V.sl (b).length (bytesV (b))] = some (.tup [.osl 32 (bytesV (dg leafTag (b)))]) := k
  simp only [S0, k]
theorem c135 (a b : List UInt8) (h : a.length + b.length ≤ 1000000) : runE C 135 [.sl a.length (bytesV a), .sl b.length (bytesV b)] = some (.tup [.osl 32 (bytesV (dg nodeTag (a ++ b)))]) := by
  refine E135 _ _ _ _ ?_
  unfold T135
  have k := c77 nodeTag (a ++ b) (by decide) (by (try simp); omega)
  have k : runE C 77 [V.str { data := #[(110 : UInt8), (111 : UInt8), (100 : UInt8), (101 : UInt8)] }, V.sl (a ++ b).length (bytesV (a ++ b))] = some (.tup [.osl 32 (bytesV (dg nodeTag (a ++ b)))]) := k
  rw [List.length_append, bytesV_append] at k
  have d1 : a.length ≤ 140737488355328 := by omega
  have d2 : a.length + b.length ≤ 140737488355328 := by omega
  simp only [S0, d1, d2, k]
theorem l155 : ∀ (f m n : Nat), 0 < m → n ≤ m + f → n ≤ 1000000000 → m ≤ 1000000000 →
    loopE C 155 0 [true, true, false] [] [(0, V.int .i64 (n : Int)), (3, V.int .i64 (m : Int))] [] = some (.tup [.int .i64 (spl f m n : Int)])
  | 0, m, n, h0, h1, hq, hm => by
    refine E155l1 _ _ ?_
    unfold T155l1
    have w1 : IntKind.i64.wrap (2 * (m : Int)) = ((2 * m : Nat) : Int) := by rw [show 2 * (m : Int) = ((2 * m : Nat) : Int) by omega]; exact w64_nat (by omega)
    have hn : ¬ 2 * m < n := by omega
    simp only [w1, S0, hn, spl]
  | f + 1, m, n, h0, h1, hq, hm => by
    refine E155l1 _ _ ?_
    unfold T155l1
    have w1 : IntKind.i64.wrap (2 * (m : Int)) = ((2 * m : Nat) : Int) := by rw [show 2 * (m : Int) = ((2 * m : Nat) : Int) by omega]; exact w64_nat (by omega)
    have w2 : IntKind.i64.wrap ((m : Int) * 2) = ((2 * m : Nat) : Int) := by rw [show (m : Int) * 2 = ((2 * m : Nat) : Int) by omega]; exact w64_nat (by omega)
    simp only [spl]
    by_cases hn : 2 * m < n
    · rw [if_pos hn]
      have ih := l155 f (2 * m) n (by omega) (by omega) hq (by omega)
      simp only [w1, w2, S0, hn, ih]
    · rw [if_neg hn]
      simp only [w1, S0, hn]
theorem c155 (n : Nat) (h : n ≤ 1000000000) : runE C 155 [.int .i64 (n : Int)] = some (.tup [.int .i64 (split n : Int)]) := by
  refine E155 _ ?_
  unfold T155
  exact l155 n 1 n (by decide) (by omega) h (by decide)
end Go.Proofs.YtgbpimaidhhnjaaGreat.Tree
