/-
  One-time signatures: chains, secrets, public leaves, digits, signatures, both sides.
-/
import Derived.Test.YtgbpimaidhhnjaaGreatPLTreeTX
namespace Go.Proofs.YtgbpimaidhhnjaaGreat.Tree
open Go Go.PI Go.PI.Sha Go.PI.Rel Go.PI.Nest Go.PI.Tru Go.PI.Set Go.PI.Tree Go.Proofs.YtgbpimaidhhnjaaGreat.Sha Go.Proofs.YtgbpimaidhhnjaaGreat.By Go.Proofs.YtgbpimaidhhnjaaGreat.Nest Go.Proofs.YtgbpimaidhhnjaaGreat.Set EqX
set_option maxHeartbeats 1000000
set_option linter.unusedVariables false
set_option linter.unusedSimpArgs false
theorem u64n {n : Nat} (h : n < 9223372036854775808) : IntKind.u64.wrap (n : Int) = (n : Int) := IntWalk.u64_in _ (by omega)
theorem c147 (l : List UInt8) (h : l.length ≤ 1000000) : runE C 147 [.sl l.length (bytesV l)] = some (.tup [.osl l.length (bytesV l)]) := by
  refine E147 _ _ ?_
  unfold T147
  have d1 : l.length ≤ 140737488355328 := by omega
  simp only [S0, d1]
  by_cases h0 : l = []
  · subst h0; simp [bytesV]
  · have h1 : l.length ≠ 0 := by simpa using h0
    simp [h1]
theorem l124 : ∀ (r n i : Nat) (x : List UInt8), n = i + r → n ≤ 1000000 → x.length ≤ 1000 →
    loopE C 124 0 [true, true, false, true] [] [(0, V.ref 0), (7, V.int .i64 (n : Int)), (8, V.int .i64 (i : Int))] [Ob.row 5 x.length (bytesV x) false] = some (.tup [.osl (climb x r).length (bytesV (climb x r))])
  | 0, n, i, x, hn, hq, hx => by
    refine E124l1 _ _ _ _ ?_
    unfold T124l1
    have : ¬ i < n := by omega
    simp only [S0, this, climb]
  | r + 1, n, i, x, hn, hq, hx => by
    have hlt : i < n := by omega
    have hw := w64_succ (n := i) (by omega)
    have k := g96 stepTag [x] (by decide) (by simp) (by simp; omega)
    rw [show [x].flatten = x by simp] at k
    have k : runE C 96 [V.str { data := #[(115 : UInt8), (116 : UInt8), (101 : UInt8), (112 : UInt8)] }, V.sl 1 [V.sl x.length (bytesV x)]] = some (.tup [.osl 32 (bytesV (dg stepTag (x)))]) := k
    have ih := l124 r n (i + 1) (dg stepTag x) (by omega) hq (by rw [dg_length]; decide)
    rw [dg_length] at ih
    refine E124l1 _ _ _ _ ?_
    unfold T124l1
    simp only [S0, hlt, k, hw, ih, climb]
theorem c124 (x : List UInt8) (n : Nat) (hn : n ≤ 1000000) (hx : x.length ≤ 1000) : runE C 124 [.sl x.length (bytesV x), .int .i64 (n : Int)] = some (.tup [.osl (climb x n).length (bytesV (climb x n))]) := by
  refine E124 _ _ _ ?_
  unfold T124
  have ih := l124 n n 0 x (by omega) hn hx
  simp only [S0, c147 x (by omega)]
  exact ih
theorem m115 : ∀ (r : Nat) (x : List UInt8), r ≤ 1000000 → x.length ≤ 1000 →
    loopE C 115 0 [true, false] [] [(0, V.ref 0), (1, V.int .i64 (r : Int))] [Ob.row 5 x.length (bytesV x) false] = some (.tup [.osl (climb x r).length (bytesV (climb x r))])
  | 0, x, hq, hx => by
    refine E115l2 _ _ _ ?_
    unfold T115l2
    have d1 : x.length ≤ 140737488355328 := by omega
    have t1 : decide (((0 : Nat) : Int) > 0) = false := rfl
    simp only [t1, S0, d1, climb]
  | r + 1, x, hq, hx => by
    have hp : ((r + 1 : Nat) : Int) > 0 := by omega
    have hw : IntKind.i64.wrap (((r + 1 : Nat) : Int) - 1) = (r : Int) := by rw [w64 (by omega) (by omega)]; omega
    have k := c77 stepTag (x) (by decide) (by (try simp); omega)
    have k : runE C 77 [V.str { data := #[(115 : UInt8), (116 : UInt8), (101 : UInt8), (112 : UInt8)] }, V.sl (x).length (bytesV (x))] = some (.tup [.osl 32 (bytesV (dg stepTag (x)))]) := k
    have ih := m115 r (dg stepTag x) (by omega) (by rw [dg_length]; decide)
    rw [dg_length] at ih
    refine E115l2 _ _ _ ?_
    unfold T115l2
    simp only [decide_eq_true hp, S0, k, hw, ih, climb]
theorem c115 (x : List UInt8) (n : Nat) (hn : n ≤ 1000000) (hx : x.length ≤ 1000) : runE C 115 [.sl x.length (bytesV x), .int .i64 (n : Int)] = some (.tup [.osl (climb x n).length (bytesV (climb x n))]) := by
  refine E115 _ _ _ ?_
  unfold T115
  refine E115l1 _ _ _ ?_
  unfold T115l1
  cases n with
  | zero =>
    have d1 : x.length ≤ 140737488355328 := by omega
    have t1 : decide (((0 : Nat) : Int) > 0) = false := rfl
    simp only [t1, S0, d1, climb]
  | succ r =>
    have hp : ((r + 1 : Nat) : Int) > 0 := by omega
    have hw : IntKind.i64.wrap (((r + 1 : Nat) : Int) - 1) = (r : Int) := by rw [w64 (by omega) (by omega)]; omega
    have k := c77 stepTag (x) (by decide) (by (try simp); omega)
    have k : runE C 77 [V.str { data := #[(115 : UInt8), (116 : UInt8), (101 : UInt8), (112 : UInt8)] }, V.sl (x).length (bytesV (x))] = some (.tup [.osl 32 (bytesV (dg stepTag (x)))]) := k
    have ih := m115 r (dg stepTag x) (by omega) (by rw [dg_length]; decide)
    rw [dg_length] at ih
    simp only [decide_eq_true hp, S0, k, hw, ih, climb]
end Go.Proofs.YtgbpimaidhhnjaaGreat.Tree
