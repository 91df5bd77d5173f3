/-
  Trees of digests: splits, roots, paths, both sides.
-/
import Derived.Test.YtodapaplfjfnlaaGreatPLSetTQ
import Derived.Test.YtodapaplfjfnlaaGreatPMTree
namespace Go.Proofs.YtodapaplfjfnlaaGreat.Tree
open Go Go.PI Go.PI.Sha Go.PI.Rel Go.PI.Nest Go.PI.Tru Go.PI.Set Go.PI.Tree Go.Proofs.YtodapaplfjfnlaaGreat.Sha Go.Proofs.YtodapaplfjfnlaaGreat.By Go.Proofs.YtodapaplfjfnlaaGreat.Nest Go.Proofs.YtodapaplfjfnlaaGreat.Set EqQ
set_option maxHeartbeats 1000000
set_option linter.unusedVariables false
set_option linter.unusedSimpArgs false
theorem c197 (b : List UInt8) (h : b.length ≤ 1000000) : runE C 197 [.sl b.length (bytesV b)] = some (.tup [.osl 32 (bytesV (dg leafTag b))]) := by
  refine E197 _ _ ?_
  unfold T197
  have k := g147 leafTag [b] (by decide) (by simp) (by simp; omega)
  rw [show [b].flatten = b by simp] at k
  have k : runE C 147 [V.str { data := #[(108 : UInt8), (101 : UInt8), (97 : UInt8), (102 : UInt8)] }, V.sl 1 [V.sl b.length (bytesV b)]] = some (.tup [.osl 32 (bytesV (dg leafTag (b)))]) := k
  simp only [S0, k]
theorem c199 (a b : List UInt8) (h : a.length + b.length ≤ 1000000) : runE C 199 [.sl a.length (bytesV a), .sl b.length (bytesV b)] = some (.tup [.osl 32 (bytesV (dg nodeTag (a ++ b)))]) := by
  refine E199 _ _ _ _ ?_
  unfold T199
  have k := g147 nodeTag [a, b] (by decide) (by simp) (by simp; omega)
  rw [show [a, b].flatten = a ++ b by simp] at k
  have k : runE C 147 [V.str { data := #[(110 : UInt8), (111 : UInt8), (100 : UInt8), (101 : UInt8)] }, V.sl 2 [V.sl a.length (bytesV a), V.sl b.length (bytesV b)]] = some (.tup [.osl 32 (bytesV (dg nodeTag (a ++ b)))]) := k
  simp only [S0, k]
theorem l224 : ∀ (f m n : Nat), 0 < m → n ≤ m + f → n ≤ 1000000000 → m ≤ 1000000000 →
    loopE C 224 0 [true, true, false] [] [(0, V.int .i64 (n : Int)), (3, V.int .i64 (m : Int))] [] = some (.tup [.int .i64 (spl f m n : Int)])
  | 0, m, n, h0, h1, hq, hm => by
    refine E224l1 _ _ ?_
    unfold T224l1
    have w1 : IntKind.i64.wrap (2 * (m : Int)) = ((2 * m : Nat) : Int) := by rw [show 2 * (m : Int) = ((2 * m : Nat) : Int) by omega]; exact w64_nat (by omega)
    have hn : ¬ 2 * m < n := by omega
    simp only [w1, S0, hn, spl]
  | f + 1, m, n, h0, h1, hq, hm => by
    refine E224l1 _ _ ?_
    unfold T224l1
    have w1 : IntKind.i64.wrap (2 * (m : Int)) = ((2 * m : Nat) : Int) := by rw [show 2 * (m : Int) = ((2 * m : Nat) : Int) by omega]; exact w64_nat (by omega)
    have w2 : IntKind.i64.wrap ((m : Int) * 2) = ((2 * m : Nat) : Int) := by rw [show (m : Int) * 2 = ((2 * m : Nat) : Int) by omega]; exact w64_nat (by omega)
    simp only [spl]
    by_cases hn : 2 * m < n
    · rw [if_pos hn]
      have ih := l224 f (2 * m) n (by omega) (by omega) hq (by omega)
      simp only [w1, w2, S0, hn, ih]
    · rw [if_neg hn]
      simp only [w1, S0, hn]
theorem c224 (n : Nat) (h : n ≤ 1000000000) : runE C 224 [.int .i64 (n : Int)] = some (.tup [.int .i64 (split n : Int)]) := by
  refine E224 _ ?_
  unfold T224
  exact l224 n 1 n (by decide) (by omega) h (by decide)
theorem c139 (b : List UInt8) (h : b.length ≤ 1000000) : runE C 139 [.sl b.length (bytesV b)] = some (.tup [.osl 32 (bytesV (dg leafTag b))]) := by
  refine E139 _ _ ?_
  unfold T139
  have k := c138 leafTag (b) (by decide) (by (try simp); omega)
  have k : runE C 138 [V.str { data := #[(108 : UInt8), (101 : UInt8), (97 : UInt8), (102 : UInt8)] }, V.sl (b).length (bytesV (b))] = some (.tup [.osl 32 (bytesV (dg leafTag (b)))]) := k
  simp only [S0, k]
theorem c141 (a b : List UInt8) (h : a.length + b.length ≤ 1000000) : runE C 141 [.sl a.length (bytesV a), .sl b.length (bytesV b)] = some (.tup [.osl 32 (bytesV (dg nodeTag (a ++ b)))]) := by
  refine E141 _ _ _ _ ?_
  unfold T141
  have k := c138 nodeTag (a ++ b) (by decide) (by (try simp); omega)
  have k : runE C 138 [V.str { data := #[(110 : UInt8), (111 : UInt8), (100 : UInt8), (101 : UInt8)] }, V.sl (a ++ b).length (bytesV (a ++ b))] = some (.tup [.osl 32 (bytesV (dg nodeTag (a ++ b)))]) := k
  rw [List.length_append, bytesV_append] at k
  have d1 : a.length ≤ 140737488355328 := by omega
  have d2 : a.length + b.length ≤ 140737488355328 := by omega
  simp only [S0, d1, d2, k]
theorem l140 : ∀ (f m n : Nat), 0 < m → n ≤ m + f → n ≤ 1000000000 → m ≤ 1000000000 →
    loopE C 140 0 [true, true, false] [] [(0, V.int .i64 (n : Int)), (3, V.int .i64 (m : Int))] [] = some (.tup [.int .i64 (spl f m n : Int)])
  | 0, m, n, h0, h1, hq, hm => by
    refine E140l1 _ _ ?_
    unfold T140l1
    have w1 : IntKind.i64.wrap (2 * (m : Int)) = ((2 * m : Nat) : Int) := by rw [show 2 * (m : Int) = ((2 * m : Nat) : Int) by omega]; exact w64_nat (by omega)
    have hn : ¬ 2 * m < n := by omega
    simp only [w1, S0, hn, spl]
  | f + 1, m, n, h0, h1, hq, hm => by
    refine E140l1 _ _ ?_
    unfold T140l1
    have w1 : IntKind.i64.wrap (2 * (m : Int)) = ((2 * m : Nat) : Int) := by rw [show 2 * (m : Int) = ((2 * m : Nat) : Int) by omega]; exact w64_nat (by omega)
    have w2 : IntKind.i64.wrap ((m : Int) * 2) = ((2 * m : Nat) : Int) := by rw [show (m : Int) * 2 = ((2 * m : Nat) : Int) by omega]; exact w64_nat (by omega)
    simp only [spl]
    by_cases hn : 2 * m < n
    · rw [if_pos hn]
      have ih := l140 f (2 * m) n (by omega) (by omega) hq (by omega)
      simp only [w1, w2, S0, hn, ih]
    · rw [if_neg hn]
      simp only [w1, S0, hn]
theorem c140 (n : Nat) (h : n ≤ 1000000000) : runE C 140 [.int .i64 (n : Int)] = some (.tup [.int .i64 (split n : Int)]) := by
  refine E140 _ ?_
  unfold T140
  exact l140 n 1 n (by decide) (by omega) h (by decide)
theorem c68 : ∀ (n : Nat) (l : List (List UInt8)), l.length = n → n ≤ 1000000 → (∀ w ∈ l, w.length ≤ 100000) → runE C 68 [.sl l.length (psS l)] = some (.tup [.osl 32 (bytesV (root l))]) := by
  intro n
  induction n using Nat.strongRecOn with
  | ind n ih =>
    intro l hl hq hw
    refine E68 _ _ ?_
    unfold T68
    rw [root_eq]
    by_cases c0 : l.length = 0
    · rw [if_pos c0]
      have c0' : ((l.length : Int) == 0) = true := by rw [c0]; rfl
      have k := c138 noneTag [] (by decide) (by decide)
      have k : runE C 138 [V.str { data := #[(110 : UInt8), (111 : UInt8), (110 : UInt8), (101 : UInt8)] }, V.sl 0 []] = some (.tup [.osl 32 (bytesV (dg noneTag []))]) := k
      simp only [c0', S0, k]
    have c0' : ((l.length : Int) == 0) = false := beq_f (by omega)
    rw [if_neg c0]
    by_cases c1 : l.length = 1
    · rw [if_pos c1]
      obtain ⟨b, hb⟩ : ∃ b, l = [b] := by
        match l, c1 with
        | [b], _ => exact ⟨b, rfl⟩
      subst hb
      have k := c139 b (by have := hw b (by simp); omega)
      have hg : (psS [b])[0]? = some (V.sl b.length (bytesV b)) := rfl
      have hl1 : (psS [b]).length = 1 := rfl
      have e1 : (([b] : List (List UInt8)).length : Int) = 1 := rfl
      have e2 : ([b] : List (List UInt8)).getD 0 [] = b := rfl
      have t1 : ((1 : Int) == 0) = false := rfl
      rw [e2]
      simp only [e1, t1, beq_self_eq_true, S0, hl1, hg, k]
      simp
    have c1' : ((l.length : Int) == 1) = false := beq_f (by omega)
    rw [if_neg c1]
    have hs := split_lt (n := l.length) (by omega)
    have hp := split_pos (n := l.length) (by omega)
    have k1 := c140 l.length (by omega)
    have tl : (l.take (split l.length)).length = split l.length := by rw [List.length_take]; omega
    have dl : (l.drop (split l.length)).length = l.length - split l.length := List.length_drop
    have k2 := ih (split l.length) (by omega) (l.take (split l.length)) tl (by omega) (fun w h => hw w (List.mem_of_mem_take h))
    have k3 := ih (l.length - split l.length) (by omega) (l.drop (split l.length)) dl (by omega) (fun w h => hw w (List.mem_of_mem_drop h))
    rw [tl] at k2
    rw [dl] at k3
    have k4 := c141 (root (l.take (split l.length))) (root (l.drop (split l.length))) (by rw [root_length, root_length]; decide)
    rw [root_length, root_length] at k4
    have b0 : (0 : Int) ≤ ((split l.length : Nat) : Int) := by omega
    have b1 : ((split l.length : Nat) : Int) ≤ (l.length : Int) := by omega
    simp only [c0', c1', k1, S0, b0, b1, List.drop_zero, psS_tk, psS_dp, k2, k3, k4]
theorem c218 : ∀ (n : Nat) (l : List (List UInt8)) (k : Nat), l.length = n → k < n → n ≤ 1000000 → (∀ w ∈ l, w.length ≤ 100000) → runE C 218 [.sl l.length (psS l), .int .i64 (k : Int)] = some (.tup [.osl (path l k).length (psO (path l k))]) := by
  intro n
  induction n using Nat.strongRecOn with
  | ind n ih =>
    intro l k hl hk hq hw
    refine E218 _ _ _ ?_
    unfold T218
    rw [path_eq k (by omega)]
    by_cases c1 : l.length = 1
    · rw [if_pos c1]
      have c1' : ((l.length : Int) == 1) = true := by rw [c1]; rfl
      simp only [c1', S0]
      rfl
    have c1' : ((l.length : Int) == 1) = false := beq_f (by omega)
    rw [if_neg c1]
    have hs := split_lt (n := l.length) (by omega)
    have hp := split_pos (n := l.length) (by omega)
    have k1 := c140 l.length (by omega)
    have tl : (l.take (split l.length)).length = split l.length := by rw [List.length_take]; omega
    have dl : (l.drop (split l.length)).length = l.length - split l.length := List.length_drop
    have b0 : (0 : Int) ≤ ((split l.length : Nat) : Int) := by omega
    have b1 : ((split l.length : Nat) : Int) ≤ (l.length : Int) := by omega
    have pl := (pathF_words (l.take (split l.length)).length (l.take (split l.length)) k).1
    have pl : (path (l.take (split l.length)) k).length ≤ (l.take (split l.length)).length := pl
    have pr : (path (l.drop (split l.length)) (k - split l.length)).length ≤ (l.drop (split l.length)).length := (pathF_words (l.drop (split l.length)).length (l.drop (split l.length)) (k - split l.length)).1
    by_cases c2 : k < split l.length
    · rw [if_pos c2]
      have k2 := ih (split l.length) (by omega) (l.take (split l.length)) k tl c2 (by omega) (fun w h => hw w (List.mem_of_mem_take h))
      have k3 := c68 _ (l.drop (split l.length)) rfl (by omega) (fun w h => hw w (List.mem_of_mem_drop h))
      rw [tl] at k2
      rw [dl] at k3
      have d1 : (path (l.take (split l.length)) k).length + 1 ≤ 140737488355328 := by omega
      have d2 : ((path (l.take (split l.length)) k).length + 1) * 24 ≤ 140737488355328 := by omega
      simp only [c1', k1, S0, c2, b0, b1, List.drop_zero, psS_tk, psS_dp, k2, k3, d1, d2, psO_snoc' _ _ (root_length _)]
      rw [List.length_append, List.length_singleton]
    · rw [if_neg c2]
      have k2 := ih (l.length - split l.length) (by omega) (l.drop (split l.length)) (k - split l.length) dl (by omega) (by omega) (fun w h => hw w (List.mem_of_mem_drop h))
      have k3 := c68 _ (l.take (split l.length)) rfl (by omega) (fun w h => hw w (List.mem_of_mem_take h))
      rw [dl] at k2
      rw [tl] at k3
      have w1 : IntKind.i64.wrap ((k : Int) - ((split l.length : Nat) : Int)) = ((k - split l.length : Nat) : Int) := by rw [w64 (by omega) (by omega)]; omega
      have d1 : (path (l.drop (split l.length)) (k - split l.length)).length + 1 ≤ 140737488355328 := by omega
      have d2 : ((path (l.drop (split l.length)) (k - split l.length)).length + 1) * 24 ≤ 140737488355328 := by omega
      simp only [c1', k1, S0, c2, b0, b1, List.drop_zero, psS_tk, psS_dp, w1, k2, k3, d1, d2, psO_snoc' _ _ (root_length _)]
      rw [List.length_append, List.length_singleton]
theorem c187 (l : List (List UInt8)) (k : Nat) (hk : k < l.length) (hq : l.length ≤ 1000000) (hw : ∀ w ∈ l, w.length ≤ 100000) : runE C 187 [.sl l.length (psS l), .int .i64 (k : Int)] = some (.tup [.int .i64 (k : Int), .int .i64 (l.length : Int), .osl (path l k).length (psO (path l k))]) := by
  refine E187 _ _ _ ?_
  unfold T187
  simp only [S0, c218 _ l k rfl hk hq hw]
end Go.Proofs.YtodapaplfjfnlaaGreat.Tree
