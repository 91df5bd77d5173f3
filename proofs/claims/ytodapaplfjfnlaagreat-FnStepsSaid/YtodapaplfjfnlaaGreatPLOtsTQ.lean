/-
  One-time signatures: chains, secrets, public leaves, digits, signatures, both sides.
-/
import Derived.Test.YtodapaplfjfnlaaGreatPLTreeTQ
namespace Go.Proofs.YtodapaplfjfnlaaGreat.Tree
open Go Go.PI Go.PI.Sha Go.PI.Rel Go.PI.Nest Go.PI.Tru Go.PI.Set Go.PI.Tree Go.Proofs.YtodapaplfjfnlaaGreat.Sha Go.Proofs.YtodapaplfjfnlaaGreat.By Go.Proofs.YtodapaplfjfnlaaGreat.Nest Go.Proofs.YtodapaplfjfnlaaGreat.Set EqQ
set_option maxHeartbeats 1000000
set_option linter.unusedVariables false
set_option linter.unusedSimpArgs false
theorem u64n {n : Nat} (h : n < 9223372036854775808) : IntKind.u64.wrap (n : Int) = (n : Int) := IntWalk.u64_in _ (by omega)
theorem bytesV_b8 (a b : Int) : bytesV [b8 a, b8 b] = [V.int .u8 (IntKind.u8.wrap a), V.int .u8 (IntKind.u8.wrap b)] := by rw [wrap_b8, wrap_b8]; rfl
theorem c220 (l : List UInt8) (h : l.length ≤ 1000000) : runE C 220 [.sl l.length (bytesV l)] = some (.tup [.osl l.length (bytesV l)]) := by
  refine E220 _ _ ?_
  unfold T220
  have d1 : l.length ≤ 140737488355328 := by omega
  simp only [S0, d1]
  by_cases h0 : l = []
  · subst h0; simp [bytesV]
  · have h1 : l.length ≠ 0 := by simpa using h0
    simp [h1]
theorem l193 : ∀ (r n i : Nat) (x : List UInt8), n = i + r → n ≤ 1000000 → x.length ≤ 1000 →
    loopE C 193 0 [true, true, false, true] [] [(0, V.ref 0), (7, V.int .i64 (n : Int)), (8, V.int .i64 (i : Int))] [Ob.row 5 x.length (bytesV x) false] = some (.tup [.osl (climb x r).length (bytesV (climb x r))])
  | 0, n, i, x, hn, hq, hx => by
    refine E193l1 _ _ _ _ ?_
    unfold T193l1
    have : ¬ i < n := by omega
    simp only [S0, this, climb]
  | r + 1, n, i, x, hn, hq, hx => by
    have hlt : i < n := by omega
    have hw := w64_succ (n := i) (by omega)
    have k := g147 stepTag [x] (by decide) (by simp) (by simp; omega)
    rw [show [x].flatten = x by simp] at k
    have k : runE C 147 [V.str { data := #[(115 : UInt8), (116 : UInt8), (101 : UInt8), (112 : UInt8)] }, V.sl 1 [V.sl x.length (bytesV x)]] = some (.tup [.osl 32 (bytesV (dg stepTag (x)))]) := k
    have ih := l193 r n (i + 1) (dg stepTag x) (by omega) hq (by rw [dg_length]; decide)
    rw [dg_length] at ih
    refine E193l1 _ _ _ _ ?_
    unfold T193l1
    simp only [S0, hlt, k, hw, ih, climb]
theorem c193 (x : List UInt8) (n : Nat) (hn : n ≤ 1000000) (hx : x.length ≤ 1000) : runE C 193 [.sl x.length (bytesV x), .int .i64 (n : Int)] = some (.tup [.osl (climb x n).length (bytesV (climb x n))]) := by
  refine E193 _ _ _ ?_
  unfold T193
  have ih := l193 n n 0 x (by omega) hn hx
  simp only [S0, c220 x (by omega)]
  exact ih
theorem m189 : ∀ (r : Nat) (x : List UInt8), r ≤ 1000000 → x.length ≤ 1000 →
    loopE C 189 0 [true, false] [] [(0, V.ref 0), (1, V.int .i64 (r : Int))] [Ob.row 5 x.length (bytesV x) false] = some (.tup [.osl (climb x r).length (bytesV (climb x r))])
  | 0, x, hq, hx => by
    refine E189l2 _ _ _ ?_
    unfold T189l2
    have d1 : x.length ≤ 140737488355328 := by omega
    have t1 : decide (((0 : Nat) : Int) > 0) = false := rfl
    simp only [t1, S0, d1, climb]
  | r + 1, x, hq, hx => by
    have hp : ((r + 1 : Nat) : Int) > 0 := by omega
    have hw : IntKind.i64.wrap (((r + 1 : Nat) : Int) - 1) = (r : Int) := by rw [w64 (by omega) (by omega)]; omega
    have k := c138 stepTag (x) (by decide) (by (try simp); omega)
    have k : runE C 138 [V.str { data := #[(115 : UInt8), (116 : UInt8), (101 : UInt8), (112 : UInt8)] }, V.sl (x).length (bytesV (x))] = some (.tup [.osl 32 (bytesV (dg stepTag (x)))]) := k
    have ih := m189 r (dg stepTag x) (by omega) (by rw [dg_length]; decide)
    rw [dg_length] at ih
    refine E189l2 _ _ _ ?_
    unfold T189l2
    simp only [decide_eq_true hp, S0, k, hw, ih, climb]
theorem c189 (x : List UInt8) (n : Nat) (hn : n ≤ 1000000) (hx : x.length ≤ 1000) : runE C 189 [.sl x.length (bytesV x), .int .i64 (n : Int)] = some (.tup [.osl (climb x n).length (bytesV (climb x n))]) := by
  refine E189 _ _ _ ?_
  unfold T189
  refine E189l1 _ _ _ ?_
  unfold T189l1
  cases n with
  | zero =>
    have d1 : x.length ≤ 140737488355328 := by omega
    have t1 : decide (((0 : Nat) : Int) > 0) = false := rfl
    simp only [t1, S0, d1, climb]
  | succ r =>
    have hp : ((r + 1 : Nat) : Int) > 0 := by omega
    have hw : IntKind.i64.wrap (((r + 1 : Nat) : Int) - 1) = (r : Int) := by rw [w64 (by omega) (by omega)]; omega
    have k := c138 stepTag (x) (by decide) (by (try simp); omega)
    have k : runE C 138 [V.str { data := #[(115 : UInt8), (116 : UInt8), (101 : UInt8), (112 : UInt8)] }, V.sl (x).length (bytesV (x))] = some (.tup [.osl 32 (bytesV (dg stepTag (x)))]) := k
    have ih := m189 r (dg stepTag x) (by omega) (by rw [dg_length]; decide)
    rw [dg_length] at ih
    simp only [decide_eq_true hp, S0, k, hw, ih, climb]
theorem c190 (seed : List UInt8) (leaf chain : Nat) (h : seed.length ≤ 1000) : runE C 190 [.sl seed.length (bytesV seed), .int .i64 (leaf : Int), .int .i64 (chain : Int)] = some (.tup [.osl 32 (bytesV (secr seed leaf chain))]) := by
  refine E190 _ _ _ _ ?_
  unfold T190
  have k := c138 keyTag (seed ++ [b8 (leaf : Int), b8 (chain : Int)]) (by decide) (by simp; omega)
  have e : bytesV (seed ++ [b8 (leaf : Int), b8 (chain : Int)]) = bytesV seed ++ [V.int .u8 (IntKind.u8.wrap (leaf : Int)), V.int .u8 (IntKind.u8.wrap (chain : Int))] := by rw [bytesV_append, bytesV_b8]
  have el : (seed ++ [b8 (leaf : Int), b8 (chain : Int)]).length = seed.length + 2 := by simp
  rw [e, el] at k
  have k : runE C 138 [V.str { data := #[(107 : UInt8), (101 : UInt8), (121 : UInt8)] }, V.sl (seed.length + 2) (bytesV seed ++ [V.int .u8 (IntKind.u8.wrap (leaf : Int)), V.int .u8 (IntKind.u8.wrap (chain : Int))])] = some (.tup [.osl 32 (bytesV (secr seed leaf chain))]) := k
  have d1 : seed.length ≤ 140737488355328 := by omega
  have d2 : seed.length + 2 ≤ 140737488355328 := by omega
  simp only [S0, d1, d2, k]
theorem l185 (seed : List UInt8) (leaf : Nat) (h : seed.length ≤ 1000) : ∀ (r c : Nat) (x : List UInt8), c + r = 19 → x.length = 32 * c →
    loopE C 185 0 [true, true, false, true] [] [(0, V.sl seed.length (bytesV seed)), (1, V.int .i64 (leaf : Int)), (5, V.ref 0), (6, V.int .i64 (c : Int))] [Ob.row 5 x.length (bytesV x) false] = some (.tup [.osl (x ++ endsF seed leaf r c).length (bytesV (x ++ endsF seed leaf r c))])
  | 0, c, x, hc, hx => by
    refine E185l1 _ _ _ _ _ _ ?_
    unfold T185l1
    have : ¬ ((c : Int) < 19) := by omega
    simp only [decide_eq_false this, S0, endsF, List.append_nil]
  | r + 1, c, x, hc, hx => by
    have hlt : ((c : Int) < 19) := by omega
    have hw := w64_succ (n := c) (by omega)
    have k1 := c190 seed leaf c h
    have k2 := c189 (secr seed leaf c) 3 (by decide) (by rw [secr_length]; decide)
    rw [secr_length, climb_length (secr_length _ _ _)] at k2
    have k2 : runE C 189 [.sl 32 (bytesV (secr seed leaf c)), .int .i64 3] = _ := k2
    have ih := l185 seed leaf h r (c + 1) (x ++ climb (secr seed leaf c) 3) (by omega) (by rw [List.length_append, climb_length (secr_length _ _ _), hx]; omega)
    have el : (x ++ climb (secr seed leaf c) 3).length = x.length + 32 := by rw [List.length_append, climb_length (secr_length _ _ _)]
    have cl : (bytesV (climb (secr seed leaf c) 3)).length = 32 := by rw [bytesV_length, climb_length (secr_length _ _ _)]
    have d1 : x.length + 32 ≤ 140737488355328 := by omega
    rw [el, bytesV_append, List.append_assoc] at ih
    refine E185l1 _ _ _ _ _ _ ?_
    unfold T185l1
    simp only [decide_eq_true hlt, S0, k1, k2, climb_length (secr_length _ _ _), d1, hw, ih, endsF]
theorem c185 (seed : List UInt8) (leaf : Nat) (h : seed.length ≤ 1000) : runE C 185 [.sl seed.length (bytesV seed), .int .i64 (leaf : Int)] = some (.tup [.osl 608 (bytesV (pubLeaf seed leaf))]) := by
  refine E185 _ _ _ ?_
  unfold T185
  have k := l185 seed leaf h 19 0 [] rfl rfl
  rw [List.nil_append, endsF_length] at k
  exact k
theorem l137 (seed : List UInt8) (h : seed.length ≤ 1000) : ∀ (r c : Nat) (d : List (List UInt8)), c + r = 4 → d.length = c →
    loopE C 137 0 [true, true, false, true] [] [(0, V.sl seed.length (bytesV seed)), (3, V.ref 0), (4, V.int .i64 (c : Int))] [Ob.nrow [] 22 d.length (psO d)] = some (.tup [.osl (d ++ leavesF seed r c).length (psO (d ++ leavesF seed r c))])
  | 0, c, d, hc, hd => by
    refine E137l1 _ _ _ _ _ ?_
    unfold T137l1
    have : ¬ ((c : Int) < 4) := by omega
    simp only [decide_eq_false this, S0, leavesF, List.append_nil]
  | r + 1, c, d, hc, hd => by
    have hlt : ((c : Int) < 4) := by omega
    have hw := w64_succ (n := c) (by omega)
    have k1 := c185 seed c h
    have ih := l137 seed h r (c + 1) (d ++ [pubLeaf seed c]) (by omega) (by simp; omega)
    rw [List.length_append, List.length_singleton, List.append_assoc] at ih
    have d1 : d.length + 1 ≤ 140737488355328 := by omega
    have d2 : (d.length + 1) * 24 ≤ 140737488355328 := by omega
    refine E137l1 _ _ _ _ _ ?_
    unfold T137l1
    simp only [decide_eq_true hlt, S0, k1, d1, d2, psO_snoc' _ _ (pubLeaf_length _ _), hw, ih, leavesF]
    rfl
theorem c137 (seed : List UInt8) (h : seed.length ≤ 1000) : runE C 137 [.sl seed.length (bytesV seed)] = some (.tup [.osl 4 (psO (leaves seed))]) := by
  refine E137 _ _ ?_
  unfold T137
  have k := l137 seed h 4 0 [] rfl rfl
  rw [List.nil_append, leavesF_length] at k
  exact k
end Go.Proofs.YtodapaplfjfnlaaGreat.Tree
